/-
  Plain reading of tokens: what one token is, what a text is read as, cuts and joins of texts. No condition.
-/
import Derived.Test.YtnmiiimbjojcmaaGreatDoorWb
import Derived.Test.YtnmiiimbjojcmaaGreatDoorWd
import Derived.Test.YtnmiiimbjojcmaaGreatDoorVs
namespace Go.Proofs.YtnmiiimbjojcmaaGreatDoor
open Go.RowKit

/-- A digit, a blank, a word's byte. -/
def dgQ (c : UInt8) : Bool := decide (48 ≤ c.toNat ∧ c.toNat ≤ 57)
def blQ (c : UInt8) : Bool := decide (c.toNat = 32 ∨ c.toNat = 9 ∨ c.toNat = 10)
def wdQ (c : UInt8) : Bool := letB c || othB c
/-- How many bytes of a kind stand in front. -/
def spn (p : UInt8 → Bool) : List UInt8 → Nat
  | [] => 0
  | c :: l => if p c = true then spn p l + 1 else 0
/-- How many bytes of blanks and remarks stand in front. -/
def skS : Bool → List UInt8 → Nat
  | _, [] => 0
  | false, c :: l => if blQ c = true then skS false l + 1 else if c.toNat = 35 then skS true l + 1 else 0
  | true, c :: l => if c.toNat = 10 then skS false l + 1 else skS true l + 1
/-- A number or date may end here. -/
def endQ : List UInt8 → Bool
  | [] => true
  | c :: _ => !wdQ c && decide (c.toNat ≠ 34 ∧ c.toNat ≠ 46 ∧ c.toNat ≠ 47)
/-- The form of a date stands in front. -/
def dayQ : List UInt8 → Bool
  | c0 :: c1 :: c2 :: c3 :: c4 :: c5 :: c6 :: c7 :: c8 :: c9 :: _ => dgQ c0 && dgQ c1 && dgQ c2 && dgQ c3 && decide (c4.toNat = 45) && dgQ c5 && dgQ c6 && decide (c7.toNat = 45) && dgQ c8 && dgQ c9
  | _ => false
/-- The day that ten bytes of that form name. -/
def datV (l : List UInt8) : Option Nat :=
  let y := numV (l.take 4)
  let m := numV ((l.drop 5).take 2)
  let d := numV ((l.drop 8).take 2)
  if 1900 ≤ y ∧ 1 ≤ m ∧ m ≤ 12 ∧ 1 ≤ d ∧ d ≤ longN y m ∧ yd y + mdR y (m - 1) + d ≤ 100000 then some (yd y + mdR y (m - 1) + d - 1) else none
/-- A point or a slash with a digit behind it. -/
def frcQ : List UInt8 → Bool
  | c :: d :: _ => decide (c.toNat = 46 ∨ c.toNat = 47) && dgQ d
  | _ => false
/-- A digit stands in front. -/
def dgH : List UInt8 → Bool
  | [] => false
  | c :: _ => dgQ c
def bsL (l : List UInt8) : ByteArray := ⟨l.toArray⟩
/-- What reading one token gives: an error, or the token and its length. -/
inductive OneR where
  | no (e : Int)
  | yes (t : Tk) (n : Nat)
/-- The value of a number in lowest terms. -/
def ratOf (neg : Bool) (front : List UInt8) (mk : Nat) (back : List UInt8) : List UInt8 :=
  let X : Nat := if mk = 46 then numV (front ++ back) else numV front
  let Y : Nat := if mk = 46 then 10 ^ back.length else if mk = 47 then numV back else 1
  ratT (ratN (if neg = true then -(X : Int) else (X : Int)) (Y : Int)) (ratD (if neg = true then -(X : Int) else (X : Int)) (Y : Int))
def numO (neg : Bool) (front : List UInt8) (mk : Nat) (back : List UInt8) (ended : Bool) (n : Nat) : OneR :=
  if (1 < front.length ∧ front.head? = some 48) ∨ ended = false ∨ (mk = 47 ∧ back.head? = some 48) then .no 12
  else if 1000 < front.length ∨ (mk = 46 ∧ 1000 < front.length + back.length) ∨ 1000 < back.length then .no 14
  else .yes ⟨3, bsL [], bsL (ratOf neg front mk back), 0, 0⟩ n
def numS (l : List UInt8) : Nat := if l.head? = some 45 then 1 else 0
def numK (l : List UInt8) : OneR :=
  let s := numS l
  let a := spn dgQ (l.drop s)
  let r := l.drop (s + a)
  if frcQ r = true then
    let b := spn dgQ (r.drop 1)
    numO (decide (s = 1)) ((l.drop s).take a) (r.headD 0).toNat ((r.drop 1).take b) (endQ (r.drop (1 + b))) (s + a + 1 + b)
  else numO (decide (s = 1)) ((l.drop s).take a) 0 [] (endQ r) (s + a)
/-- One token. -/
def oneL (l : List UInt8) : OneR :=
  match l with
  | [] => .no 12
  | c :: r =>
    if letB c = true then
      if 40 < spn wdQ r + 1 then .no 12 else .yes ⟨1, bsL ((c :: r).take (spn wdQ r + 1)), bsL [], 0, 0⟩ (spn wdQ r + 1)
    else if c.toNat = 34 then
      let k := spn (fun x => decide (x.toNat ≠ 34)) r
      if k < r.length ∧ nmB (r.take k) = true then .yes ⟨2, bsL (r.take k), bsL [], 0, 0⟩ (k + 2) else .no 12
    else if dayQ (c :: r) = true then
      if endQ ((c :: r).drop 10) = true then
        match datV (c :: r) with
        | some day => .yes ⟨4, bsL [], bsL [], day, 0⟩ 10
        | none => .no 40
      else .no 12
    else if dgQ c = true ∨ (c.toNat = 45 ∧ dgH r = true) then numK (c :: r)
    else if mkB c = true then .yes ⟨5, bsL [c], bsL [], 0, 0⟩ 1
    else .no 12
/-- What reading a text gives. -/
inductive LexR where
  | no (place : Nat) (e : Int)
  | yes (l : List Tk)
def pre1 (t : Tk) : LexR → LexR
  | .no i e => .no i e
  | .yes l => .yes (t :: l)
def preL (ts : List Tk) : LexR → LexR
  | .no i e => .no i e
  | .yes l => .yes (ts ++ l)
def lexL (off : Nat) (l : List UInt8) : LexR :=
  match _h : l.drop (skS false l) with
  | [] => .yes []
  | c :: r =>
    match oneL (c :: r) with
    | .no e => .no (off + skS false l) e
    | .yes t n => pre1 { t with place := ((off + skS false l : Nat) : Int) } (lexL (off + skS false l + n) (r.drop (n - 1)))
termination_by l.length
decreasing_by
  have h1 := congrArg List.length _h
  simp at h1 ⊢
  omega

theorem spn_le (p : UInt8 → Bool) (l : List UInt8) : spn p l ≤ l.length := by
  induction l with
  | nil => exact Nat.le_refl _
  | cons c l ih => unfold spn; split <;> simp <;> omega
theorem skS_le (b : Bool) (l : List UInt8) : skS b l ≤ l.length := by
  induction l generalizing b with
  | nil => cases b <;> exact Nat.le_refl _
  | cons c l ih =>
    have h1 := ih false
    have h2 := ih true
    cases b
    · unfold skS; split
      · simp; omega
      · split <;> simp <;> omega
    · unfold skS; split <;> simp <;> omega
theorem numO_pos {neg : Bool} {front : List UInt8} {mk : Nat} {back : List UInt8} {ended : Bool} {n : Nat} {t : Tk} {m : Nat} (h : numO neg front mk back ended n = .yes t m) : m = n := by
  unfold numO at h
  split at h
  · cases h
  · split at h
    · cases h
    · injection h with _ h; exact h.symm
theorem dgQ_45 {c : UInt8} (h : dgQ c = true) : c ≠ 45 := by
  rintro rfl; exact absurd h (by decide)
theorem oneL_word {c : UInt8} {r : List UInt8} (h : letB c = true) : oneL (c :: r) = if 40 < spn wdQ r + 1 then .no 12 else .yes ⟨1, bsL ((c :: r).take (spn wdQ r + 1)), bsL [], 0, 0⟩ (spn wdQ r + 1) := by
  unfold oneL; dsimp only; rw [if_pos h]
theorem oneL_quote {c : UInt8} {r : List UInt8} (h : c.toNat = 34) : oneL (c :: r) = if spn (fun x => decide (x.toNat ≠ 34)) r < r.length ∧ nmB (r.take (spn (fun x => decide (x.toNat ≠ 34)) r)) = true then .yes ⟨2, bsL (r.take (spn (fun x => decide (x.toNat ≠ 34)) r)), bsL [], 0, 0⟩ (spn (fun x => decide (x.toNat ≠ 34)) r + 2) else .no 12 := by
  have : ¬ letB c = true := by unfold letB; simp; omega
  unfold oneL; dsimp only; rw [if_neg this, if_pos h]
theorem dgQ_let {c : UInt8} (h : dgQ c = true) : ¬ letB c = true := by unfold dgQ at h; unfold letB; simp at h ⊢; omega
theorem dgQ_34 {c : UInt8} (h : dgQ c = true) : ¬ c.toNat = 34 := by unfold dgQ at h; simp at h; omega
theorem dayQ_dg {c : UInt8} {r : List UInt8} (h : dayQ (c :: r) = true) : dgQ c = true := by
  unfold dayQ at h
  split at h
  · rename_i heq; injection heq with h1 h2; subst h1; simp only [Bool.and_eq_true] at h; exact h.1.1.1.1.1.1.1.1.1
  · cases h
theorem oneL_day {c : UInt8} {r : List UInt8} (h : dayQ (c :: r) = true) : oneL (c :: r) = if endQ ((c :: r).drop 10) = true then (match datV (c :: r) with | some day => .yes ⟨4, bsL [], bsL [], day, 0⟩ 10 | none => .no 40) else .no 12 := by
  have hd := dayQ_dg h
  unfold oneL; dsimp only; rw [if_neg (dgQ_let hd), if_neg (dgQ_34 hd), if_pos h]
theorem oneL_num {c : UInt8} {r : List UInt8} (h : ¬ dayQ (c :: r) = true) (hd : dgQ c = true ∨ (c.toNat = 45 ∧ dgH r = true)) : oneL (c :: r) = numK (c :: r) := by
  have h1 : ¬ letB c = true := by
    rcases hd with hd | ⟨hd, _⟩
    · exact dgQ_let hd
    · unfold letB; simp; omega
  have h2 : ¬ c.toNat = 34 := by
    rcases hd with hd | ⟨hd, _⟩
    · exact dgQ_34 hd
    · omega
  unfold oneL; dsimp only; rw [if_neg h1, if_neg h2, if_neg h, if_pos hd]
theorem mkB_nat (c : UInt8) : mkB c = true ↔ c.toNat = 40 ∨ c.toNat = 41 ∨ c.toNat = 123 ∨ c.toNat = 125 ∨ c.toNat = 44 ∨ c.toNat = 59 ∨ c.toNat = 64 ∨ c.toNat = 43 ∨ c.toNat = 42 ∨ c.toNat = 45 := by
  unfold mkB marksL
  simp only [Bool.or_eq_true, decide_eq_true_eq, List.mem_cons, List.not_mem_nil, or_false, ← UInt8.toNat_inj]
  show ((c.toNat = 40 ∨ c.toNat = 41 ∨ c.toNat = 123 ∨ c.toNat = 125 ∨ c.toNat = 44 ∨ c.toNat = 59 ∨ c.toNat = 64 ∨ c.toNat = 43 ∨ c.toNat = 42) ∨ _) ↔ _
  omega
theorem oneL_mark {c : UInt8} {r : List UInt8} (h : mkB c = true) (hd : ¬ (c.toNat = 45 ∧ dgH r = true)) : oneL (c :: r) = .yes ⟨5, bsL [c], bsL [], 0, 0⟩ 1 := by
  rw [mkB_nat] at h
  have h1 : ¬ letB c = true := by unfold letB; simp; omega
  have h2 : ¬ c.toNat = 34 := by omega
  have h4 : ¬ dgQ c = true := by unfold dgQ; simp; omega
  have h3 : ¬ dayQ (c :: r) = true := fun h => h4 (dayQ_dg h)
  unfold oneL; dsimp only; rw [if_neg h1, if_neg h2, if_neg h3, if_neg (by rintro (a | a); exact h4 a; exact hd a), if_pos ((mkB_nat c).2 h)]
theorem oneL_none {c : UInt8} {r : List UInt8} (h1 : ¬ letB c = true) (h2 : ¬ c.toNat = 34) (h4 : ¬ dgQ c = true) (h5 : ¬ mkB c = true) : oneL (c :: r) = .no 12 := by
  have h3 : ¬ dayQ (c :: r) = true := fun h => h4 (dayQ_dg h)
  have h6 : ¬ c.toNat = 45 := fun h => h5 ((mkB_nat c).2 (by omega))
  unfold oneL; dsimp only; rw [if_neg h1, if_neg h2, if_neg h3, if_neg (by rintro (a | a); exact h4 a; exact h6 a.1), if_neg h5]
/-- The ways of one token. -/
theorem oneL_ways (c : UInt8) (r : List UInt8) : letB c = true ∨ c.toNat = 34 ∨ dayQ (c :: r) = true ∨ (¬ dayQ (c :: r) = true ∧ (dgQ c = true ∨ (c.toNat = 45 ∧ dgH r = true))) ∨ (mkB c = true ∧ ¬ (c.toNat = 45 ∧ dgH r = true)) ∨ (¬ letB c = true ∧ ¬ c.toNat = 34 ∧ ¬ dgQ c = true ∧ ¬ mkB c = true) := by
  by_cases h1 : letB c = true
  · exact .inl h1
  by_cases h2 : c.toNat = 34
  · exact .inr (.inl h2)
  by_cases h3 : dayQ (c :: r) = true
  · exact .inr (.inr (.inl h3))
  by_cases h4 : dgQ c = true ∨ (c.toNat = 45 ∧ dgH r = true)
  · exact .inr (.inr (.inr (.inl ⟨h3, h4⟩)))
  by_cases h5 : mkB c = true
  · exact .inr (.inr (.inr (.inr (.inl ⟨h5, fun h => h4 (.inr h)⟩))))
  · exact .inr (.inr (.inr (.inr (.inr ⟨h1, h2, fun h => h4 (.inl h), h5⟩))))
theorem numK_pos {c : UInt8} {r : List UInt8} (hh : dgQ c = true ∨ (c.toNat = 45 ∧ dgH r = true)) {t : Tk} {n : Nat} (h : numK (c :: r) = .yes t n) : 1 ≤ n := by
  have hs : 1 ≤ numS (c :: r) + spn dgQ ((c :: r).drop (numS (c :: r))) := by
    rcases hh with hd | ⟨h45, hd⟩
    · have : numS (c :: r) = 0 := by unfold numS; rw [if_neg]; simp; exact dgQ_45 hd
      rw [this]; show 1 ≤ 0 + spn dgQ (c :: r); unfold spn; rw [if_pos hd]; omega
    · have : numS (c :: r) = 1 := by unfold numS; rw [if_pos]; simp; rw [← UInt8.toNat_inj]; exact h45
      omega
  unfold numK at h
  dsimp only at h
  split at h
  · have := numO_pos h; omega
  · have := numO_pos h; omega
theorem oneL_pos {l : List UInt8} {t : Tk} {n : Nat} (h : oneL l = .yes t n) : 1 ≤ n := by
  cases l with
  | nil => cases h
  | cons c r =>
    rcases oneL_ways c r with w | w | w | ⟨w, v⟩ | ⟨w, v⟩ | ⟨w1, w2, w3, w4⟩
    · rw [oneL_word w] at h; split at h
      · cases h
      · injection h with _ h; omega
    · rw [oneL_quote w] at h; split at h
      · injection h with _ h; omega
      · cases h
    · rw [oneL_day w] at h; split at h
      · split at h
        · injection h with _ h; omega
        · cases h
      · cases h
    · rw [oneL_num w v] at h; exact numK_pos v h
    · rw [oneL_mark w v] at h; injection h with _ h; omega
    · rw [oneL_none w1 w2 w3 w4] at h; cases h
theorem lexL_end {off : Nat} {l : List UInt8} (h : skS false l = l.length) : lexL off l = .yes [] := by
  unfold lexL
  split
  · rfl
  · rename_i c r hh
    rw [h, List.drop_length] at hh; cases hh
theorem lexL_no {off : Nat} {l : List UInt8} {e : Int} (h : skS false l < l.length) (ho : oneL (l.drop (skS false l)) = .no e) : lexL off l = .no (off + skS false l) e := by
  unfold lexL
  split
  · rename_i hh
    have := congrArg List.length hh; simp at this; omega
  · rename_i c r hh
    rw [hh] at ho; rw [ho]
theorem lexL_yes {off : Nat} {l : List UInt8} {t : Tk} {n : Nat} (h : skS false l < l.length) (ho : oneL (l.drop (skS false l)) = .yes t n) :
    lexL off l = pre1 { t with place := ((off + skS false l : Nat) : Int) } (lexL (off + skS false l + n) (l.drop (skS false l + n))) := by
  have hn := oneL_pos ho
  rw [lexL]
  split
  · rename_i hh
    have := congrArg List.length hh; simp at this; omega
  · rename_i c r hh
    rw [hh] at ho; rw [ho]
    dsimp only
    congr 2
    rw [← List.drop_drop, hh]
    obtain ⟨k, rfl⟩ : ∃ k, n = k + 1 := ⟨n - 1, by omega⟩
    rfl
theorem preL_pre1 (ts : List Tk) (t : Tk) (R : LexR) : preL ts (pre1 t R) = preL (ts ++ [t]) R := by
  cases R
  · rfl
  · unfold preL pre1; simp
theorem preL_nil (R : LexR) : preL [] R = R := by cases R <;> rfl
theorem preL_preL (a b : List Tk) (R : LexR) : preL a (preL b R) = preL (a ++ b) R := by cases R <;> simp [preL]
theorem pre1_eq (t : Tk) (R : LexR) : pre1 t R = preL [t] R := by cases R <;> rfl

theorem spn_app {p : UInt8 → Bool} (l : List UInt8) {s : UInt8} (X : List UInt8) (h : p s = false) : spn p (l ++ s :: X) = spn p l := by
  induction l with
  | nil => show spn p (s :: X) = 0; unfold spn; rw [if_neg (by rw [h]; decide)]
  | cons c l ih => show spn p (c :: (l ++ s :: X)) = _; unfold spn; rw [ih]
theorem spn_take (p : UInt8 → Bool) (l : List UInt8) (m : Nat) : spn p (l.take m) = min m (spn p l) := by
  induction l generalizing m with
  | nil => simp [spn]
  | cons c l ih =>
    cases m with
    | zero => simp [spn]
    | succ m => rw [List.take_succ_cons]; unfold spn; rw [ih]; split <;> omega
theorem spn_long {p : UInt8 → Bool} {l : List UInt8} {s : UInt8} (X : List UInt8) (h : spn p l = l.length) (hs : p s = true) : l.length < spn p (l ++ s :: X) := by
  induction l with
  | nil => show 0 < spn p (s :: X); unfold spn; rw [if_pos hs]; omega
  | cons c l ih =>
    show _ < spn p (c :: (l ++ s :: X))
    unfold spn at h ⊢
    split at h
    · rename_i hc; rw [if_pos hc]; simp at h ⊢; exact ih h
    · simp at h
theorem spn_short {p : UInt8 → Bool} {l : List UInt8} (X : List UInt8) (h : spn p l < l.length) : spn p (l ++ X) = spn p l := by
  induction l with
  | nil => simp at h
  | cons c l ih =>
    show spn p (c :: (l ++ X)) = _
    unfold spn at h ⊢
    split at h
    · rename_i hc; rw [if_pos hc, if_pos hc, ih (by simpa using h)]
    · rename_i hc; rw [if_neg hc, if_neg hc]
theorem blQ_nat {s : UInt8} (h : blQ s = true) : s.toNat = 32 ∨ s.toNat = 9 ∨ s.toNat = 10 := by unfold blQ at h; simpa using h
theorem blQ_wd {s : UInt8} (h : blQ s = true) : wdQ s = false := by
  have := blQ_nat h
  unfold wdQ letB othB; simp; omega
theorem blQ_dg {s : UInt8} (h : blQ s = true) : dgQ s = false := by
  have := blQ_nat h
  unfold dgQ; simp; omega
theorem endQ_app {s : UInt8} (h : blQ s = true) (l X : List UInt8) : endQ (l ++ s :: X) = endQ l := by
  cases l with
  | nil =>
    have := blQ_nat h
    show endQ (s :: X) = true
    show (!wdQ s && decide (s.toNat ≠ 34 ∧ s.toNat ≠ 46 ∧ s.toNat ≠ 47)) = true
    rw [blQ_wd h]; simp; omega
  | cons c l => rfl
theorem dgH_app {s : UInt8} (h : blQ s = true) (l X : List UInt8) : dgH (l ++ s :: X) = dgH l := by
  cases l with
  | nil => exact blQ_dg h
  | cons c l => rfl
theorem dayQ_at {l : List UInt8} (h : dayQ l = true) {i : Nat} (hi : i < 10) : ∃ c, l[i]? = some c ∧ (dgQ c = true ∨ c.toNat = 45) := by
  unfold dayQ at h
  split at h
  · simp only [Bool.and_eq_true, decide_eq_true_eq] at h
    obtain ⟨⟨⟨⟨⟨⟨⟨⟨⟨h0, h1⟩, h2⟩, h3⟩, h4⟩, h5⟩, h6⟩, h7⟩, h8⟩, h9⟩ := h
    rcases i with _ | _ | _ | _ | _ | _ | _ | _ | _ | _ | i
    · exact ⟨_, rfl, .inl h0⟩
    · exact ⟨_, rfl, .inl h1⟩
    · exact ⟨_, rfl, .inl h2⟩
    · exact ⟨_, rfl, .inl h3⟩
    · exact ⟨_, rfl, .inr h4⟩
    · exact ⟨_, rfl, .inl h5⟩
    · exact ⟨_, rfl, .inl h6⟩
    · exact ⟨_, rfl, .inr h7⟩
    · exact ⟨_, rfl, .inl h8⟩
    · exact ⟨_, rfl, .inl h9⟩
    · omega
  · cases h
theorem dayQ_len {l : List UInt8} (h : dayQ l = true) : 10 ≤ l.length := by
  obtain ⟨c, hc, _⟩ := dayQ_at h (i := 9) (by omega)
  have := (List.getElem?_eq_some_iff.1 hc).1
  omega
theorem ten {l : List UInt8} (h : 10 ≤ l.length) : ∃ c0 c1 c2 c3 c4 c5 c6 c7 c8 c9 t, l = c0 :: c1 :: c2 :: c3 :: c4 :: c5 :: c6 :: c7 :: c8 :: c9 :: t := by
  rcases l with _ | ⟨c0, _ | ⟨c1, _ | ⟨c2, _ | ⟨c3, _ | ⟨c4, _ | ⟨c5, _ | ⟨c6, _ | ⟨c7, _ | ⟨c8, _ | ⟨c9, t⟩⟩⟩⟩⟩⟩⟩⟩⟩⟩
  case cons.cons.cons.cons.cons.cons.cons.cons.cons.cons => exact ⟨_, _, _, _, _, _, _, _, _, _, _, rfl⟩
  all_goals simp at h
theorem dayQ_long {l : List UInt8} (h : 10 ≤ l.length) (X : List UInt8) : dayQ (l ++ X) = dayQ l := by
  obtain ⟨c0, c1, c2, c3, c4, c5, c6, c7, c8, c9, t, rfl⟩ := ten h
  rfl
theorem dayQ_app {s : UInt8} (h : blQ s = true) (l X : List UInt8) : dayQ (l ++ s :: X) = dayQ l := by
  rcases Nat.lt_or_ge l.length 10 with hl | hl
  · have e1 : ¬ dayQ l = true := fun a => by have := dayQ_len a; omega
    have e2 : ¬ dayQ (l ++ s :: X) = true := fun a => by
      obtain ⟨c, hc, hd⟩ := dayQ_at a hl
      rw [List.getElem?_append_right (Nat.le_refl _), Nat.sub_self] at hc
      injection hc with hc; subst hc
      rw [blQ_dg h] at hd
      have := blQ_nat h
      rcases hd with hd | hd
      · cases hd
      · omega
    simp only [Bool.not_eq_true] at e1 e2
    rw [e1, e2]
  · exact dayQ_long hl _
theorem datV_app {l : List UInt8} (h : 10 ≤ l.length) (X : List UInt8) : datV (l ++ X) = datV l := by
  obtain ⟨c0, c1, c2, c3, c4, c5, c6, c7, c8, c9, t, rfl⟩ := ten h
  rfl
theorem frcQ_app {s : UInt8} (h : blQ s = true) (l X : List UInt8) : frcQ (l ++ s :: X) = frcQ l := by
  have := blQ_nat h
  rcases l with _ | ⟨c, _ | ⟨d, l⟩⟩
  · cases X with
    | nil => rfl
    | cons x X => show (decide (s.toNat = 46 ∨ s.toNat = 47) && dgQ x) = false; simp; omega
  · show (decide (c.toNat = 46 ∨ c.toNat = 47) && dgQ s) = false
    rw [blQ_dg h, Bool.and_false]
  · rfl
theorem frcQ_len {l : List UInt8} (h : frcQ l = true) : 2 ≤ l.length := by
  rcases l with _ | ⟨c, _ | ⟨d, l⟩⟩
  · cases h
  · cases h
  · simp
theorem numS_le {l : List UInt8} (h : l ≠ []) : numS l ≤ l.length := by
  have : 1 ≤ l.length := by cases l with | nil => exact absurd rfl h | cons c l => simp
  unfold numS; split <;> omega
theorem numS_app {l : List UInt8} (h : l ≠ []) (X : List UInt8) : numS (l ++ X) = numS l := by
  cases l with
  | nil => exact absurd rfl h
  | cons c l => rfl
theorem take_le_app {α : Type} {l : List α} {k : Nat} (X : List α) (h : k ≤ l.length) : (l ++ X).take k = l.take k := List.take_append_of_le_length h
theorem drop_le_app {α : Type} {l : List α} {k : Nat} (X : List α) (h : k ≤ l.length) : (l ++ X).drop k = l.drop k ++ X := List.drop_append_of_le_length h
theorem headD_app {l : List UInt8} (h : 1 ≤ l.length) (X : List UInt8) (d : UInt8) : (l ++ X).headD d = l.headD d := by
  cases l with
  | nil => simp at h
  | cons c l => rfl
theorem numK_app {s : UInt8} (h : blQ s = true) {l : List UInt8} (hl : l ≠ []) (X : List UInt8) : numK (l ++ s :: X) = numK l := by
  have e1 := numS_app hl (s :: X)
  have e2 := numS_le hl
  have e3 : spn dgQ ((l ++ s :: X).drop (numS l)) = spn dgQ (l.drop (numS l)) := by rw [drop_le_app _ e2, spn_app _ _ (blQ_dg h)]
  have e4 := spn_le dgQ (l.drop (numS l))
  rw [List.length_drop] at e4
  have e5 : (l ++ s :: X).drop (numS l + spn dgQ (l.drop (numS l))) = l.drop (numS l + spn dgQ (l.drop (numS l))) ++ s :: X := drop_le_app _ (by omega)
  unfold numK
  dsimp only
  rw [e1, e3, e5, frcQ_app h, drop_le_app _ e2, take_le_app _ (by rw [List.length_drop]; omega)]
  split
  · rename_i hf
    have e6 := frcQ_len hf
    have e7 := spn_le dgQ ((l.drop (numS l + spn dgQ (l.drop (numS l)))).drop 1)
    rw [List.length_drop] at e7
    rw [headD_app (by omega), drop_le_app _ (show 1 ≤ _ by omega), spn_app _ _ (blQ_dg h), take_le_app _ (by rw [List.length_drop]; omega), drop_le_app _ (by omega), endQ_app h]
  · rw [endQ_app h]
theorem nmB_not {l : List UInt8} {s : UInt8} (hs : blQ s = true) (hm : s ∈ l) : nmB l = false := by
  unfold nmB
  have : (l.all fun c => letB c || othB c) = false := by
    rw [List.all_eq_false]
    exact ⟨s, hm, by have := blQ_wd hs; unfold wdQ at this; rw [this]; decide⟩
  rw [this, Bool.and_false]
theorem oneL_app {s : UInt8} (h : blQ s = true) {l : List UInt8} (hl : l ≠ []) (X : List UInt8) : oneL (l ++ s :: X) = oneL l := by
  cases l with
  | nil => exact absurd rfl hl
  | cons c r =>
    have hd := dgH_app h r X
    have hy := dayQ_app h (c :: r) X
    show oneL (c :: (r ++ s :: X)) = _
    change dayQ (c :: (r ++ s :: X)) = _ at hy
    rcases oneL_ways c r with w | w | w | ⟨w, v⟩ | ⟨w, v⟩ | ⟨w1, w2, w3, w4⟩
    · rw [oneL_word w, oneL_word w, spn_app _ _ (blQ_wd h)]
      have := spn_le wdQ r
      rw [show (c :: (r ++ s :: X)) = (c :: r) ++ s :: X from rfl, take_le_app _ (by simp; omega)]
    · rw [oneL_quote w, oneL_quote w]
      obtain ⟨p, hp⟩ : ∃ p : UInt8 → Bool, p = fun x => decide (x.toNat ≠ 34) := ⟨_, rfl⟩
      rw [← hp]
      have hps : p s = true := by have := blQ_nat h; rw [hp]; simp; omega
      have hle := spn_le p r
      rcases Nat.lt_or_ge (spn p r) r.length with hlt | hge
      · rw [spn_short _ hlt, take_le_app _ hle]
        have : spn p r < (r ++ s :: X).length := by simp; omega
        simp only [hlt, this, true_and]
      · have hgt := spn_long X (show spn p r = r.length by omega) hps
        have hn : nmB ((r ++ s :: X).take (spn p (r ++ s :: X))) = false := by
          refine nmB_not h ?_
          rw [List.take_append, List.mem_append]
          right
          obtain ⟨k, hk⟩ : ∃ k, spn p (r ++ s :: X) - r.length = k + 1 := ⟨spn p (r ++ s :: X) - r.length - 1, by omega⟩
          rw [hk]; simp
        rw [if_neg (by rw [hn]; simp), if_neg (by omega)]
    · rw [oneL_day w, oneL_day (by rw [hy]; exact w)]
      have h10 := dayQ_len w
      rw [show (c :: (r ++ s :: X)) = (c :: r) ++ s :: X from rfl, drop_le_app _ h10, endQ_app h, datV_app h10]
    · rw [oneL_num w v, oneL_num (by rw [hy]; exact w) (by rw [hd]; exact v)]
      exact numK_app h (List.cons_ne_nil c r) X
    · rw [oneL_mark w v, oneL_mark w (by rw [hd]; exact v)]
    · rw [oneL_none w1 w2 w3 w4, oneL_none w1 w2 w3 w4]
theorem numO_len {neg : Bool} {front : List UInt8} {mk : Nat} {back : List UInt8} {ended : Bool} {n : Nat} {t : Tk} {m : Nat} (h : numO neg front mk back ended n = .yes t m) : m = n ∧ ended = true := by
  refine ⟨numO_pos h, ?_⟩
  cases ended with
  | true => rfl
  | false => unfold numO at h; rw [if_pos (by simp)] at h; cases h
theorem endQ_nil : endQ [] = true := rfl
theorem endQ_take {l : List UInt8} (h : endQ l = true) (m : Nat) : endQ (l.take m) = true := by
  cases l with
  | nil => simp [endQ]
  | cons c l => cases m with
    | zero => rfl
    | succ m => exact h
theorem numK_le {l : List UInt8} (hl : l ≠ []) {t : Tk} {n : Nat} (h : numK l = .yes t n) : n ≤ l.length := by
  have e2 := numS_le hl
  have e4 := spn_le dgQ (l.drop (numS l))
  rw [List.length_drop] at e4
  unfold numK at h
  dsimp only at h
  split at h
  · rename_i hf
    have e6 := frcQ_len hf
    have e7 := spn_le dgQ ((l.drop (numS l + spn dgQ (l.drop (numS l)))).drop 1)
    rw [List.length_drop, List.length_drop] at e7
    rw [List.length_drop] at e6
    have := (numO_len h).1
    omega
  · have := (numO_len h).1
    omega
theorem oneL_le {l : List UInt8} {t : Tk} {n : Nat} (h : oneL l = .yes t n) : n ≤ l.length := by
  cases l with
  | nil => cases h
  | cons c r =>
    rcases oneL_ways c r with w | w | w | ⟨w, v⟩ | ⟨w, v⟩ | ⟨w1, w2, w3, w4⟩
    · rw [oneL_word w] at h; split at h
      · cases h
      · injection h with _ h; have := spn_le wdQ r; simp; omega
    · rw [oneL_quote w] at h; split at h
      · injection h with _ h; simp; omega
      · cases h
    · rw [oneL_day w] at h; have := dayQ_len w; split at h
      · split at h
        · injection h with _ h; omega
        · cases h
      · cases h
    · rw [oneL_num w v] at h; exact numK_le (by simp) h
    · rw [oneL_mark w v] at h; injection h with _ h; simp; omega
    · rw [oneL_none w1 w2 w3 w4] at h; cases h
/-- The token that is read stays if what lies behind it is cut off. -/
theorem numK_take {l : List UInt8} (hl : l ≠ []) {t : Tk} {n m : Nat} (h : numK l = .yes t n) (hm : n ≤ m) (hm0 : 1 ≤ m) : numK (l.take m) = .yes t n := by
  have e1 : numS (l.take m) = numS l := by
    cases l with
    | nil => exact absurd rfl hl
    | cons c l => obtain ⟨k, rfl⟩ : ∃ k, m = k + 1 := ⟨m - 1, by omega⟩
                  rfl
  have e2 := numS_le hl
  have e4 := spn_le dgQ (l.drop (numS l))
  rw [List.length_drop] at e4
  have hfr : frcQ (l.drop (numS l + spn dgQ (l.drop (numS l)))) = true ∨ frcQ (l.drop (numS l + spn dgQ (l.drop (numS l)))) = false := by
    cases frcQ (l.drop (numS l + spn dgQ (l.drop (numS l)))) <;> simp
  unfold numK at h ⊢
  dsimp only at h ⊢
  have hge : numS l + spn dgQ (l.drop (numS l)) ≤ n := by
    rcases hfr with hf | hf
    · rw [if_pos hf] at h; have := (numO_len h).1; omega
    · rw [if_neg (by rw [hf]; decide)] at h; have := (numO_len h).1; omega
  have e3 : spn dgQ ((l.take m).drop (numS l)) = spn dgQ (l.drop (numS l)) := by
    rw [List.drop_take, spn_take]; omega
  rw [e1, e3]
  have e5 : (l.take m).drop (numS l + spn dgQ (l.drop (numS l))) = (l.drop (numS l + spn dgQ (l.drop (numS l)))).take (m - (numS l + spn dgQ (l.drop (numS l)))) := by rw [List.drop_take]
  have e6 : ((l.take m).drop (numS l)).take (spn dgQ (l.drop (numS l))) = (l.drop (numS l)).take (spn dgQ (l.drop (numS l))) := by
    rw [List.drop_take, List.take_take, show min (spn dgQ (l.drop (numS l))) (m - numS l) = spn dgQ (l.drop (numS l)) by omega]
  rw [e5, e6]
  obtain ⟨r, hr⟩ : ∃ r, r = l.drop (numS l + spn dgQ (l.drop (numS l))) := ⟨_, rfl⟩
  obtain ⟨q, hq⟩ : ∃ q, q = numS l + spn dgQ (l.drop (numS l)) := ⟨_, rfl⟩
  rw [← hr] at h hfr ⊢
  rw [← hq] at h hge ⊢
  rcases hfr with hf | hf
  · rw [if_pos hf] at h
    have e7 := spn_le dgQ (r.drop 1)
    rw [List.length_drop] at e7
    obtain ⟨hn, he⟩ := numO_len h
    have hk : ∃ k, m - q = k + 2 ∧ 1 + spn dgQ (r.drop 1) ≤ k + 2 := by
      have : 1 ≤ spn dgQ (r.drop 1) := by
        rcases r with _ | ⟨c, _ | ⟨d, r⟩⟩
        · cases hf
        · cases hf
        · simp [frcQ] at hf
          show 1 ≤ spn dgQ (d :: r)
          unfold spn; rw [if_pos hf.2]; omega
      exact ⟨m - q - 2, by omega, by omega⟩
    obtain ⟨k, hk, hk2⟩ := hk
    have f1 : frcQ (r.take (m - q)) = true := by
      rw [hk]
      rcases r with _ | ⟨c, _ | ⟨d, r⟩⟩
      · cases hf
      · cases hf
      · exact hf
    have f2 : (r.take (m - q)).drop 1 = (r.drop 1).take (m - q - 1) := by rw [List.drop_take]
    have f3 : spn dgQ ((r.take (m - q)).drop 1) = spn dgQ (r.drop 1) := by rw [f2, spn_take]; omega
    have f4 : ((r.take (m - q)).drop 1).take (spn dgQ (r.drop 1)) = (r.drop 1).take (spn dgQ (r.drop 1)) := by
      rw [f2, List.take_take, show min (spn dgQ (r.drop 1)) (m - q - 1) = spn dgQ (r.drop 1) by omega]
    have f5 : (r.take (m - q)).headD 0 = r.headD 0 := by
      rw [hk]
      cases r with
      | nil => rfl
      | cons c r => rfl
    have f6 : endQ ((r.take (m - q)).drop (1 + spn dgQ (r.drop 1))) = endQ (r.drop (1 + spn dgQ (r.drop 1))) := by
      rw [he, List.drop_take]; exact endQ_take he _
    rw [if_pos f1, f3, f4, f5, f6]
    exact h
  · rw [if_neg (by rw [hf]; decide)] at h
    obtain ⟨hn, he⟩ := numO_len h
    have f1 : frcQ (r.take (m - q)) = false := by
      cases hh : frcQ (r.take (m - q)) with
      | false => rfl
      | true =>
        rcases r with _ | ⟨c, _ | ⟨d, r⟩⟩
        · simp [frcQ] at hh
        · rw [show frcQ (List.take (m - q) [c]) = false by cases hmq : m - q <;> simp [frcQ]] at hh; cases hh
        · rcases hmq : m - q with _ | _ | k
          · rw [hmq] at hh; cases hh
          · rw [hmq] at hh; cases hh
          · rw [hmq] at hh
            have : frcQ (c :: d :: r) = true := hh
            rw [hf] at this; cases this
    rw [if_neg (by rw [f1]; decide), endQ_take he, ← he]
    exact h
theorem oneL_take {l : List UInt8} {t : Tk} {n m : Nat} (h : oneL l = .yes t n) (hm : n ≤ m) : oneL (l.take m) = .yes t n := by
  have h1 := oneL_pos h
  have hle := oneL_le h
  cases l with
  | nil => cases h
  | cons c r =>
    obtain ⟨k, rfl⟩ : ∃ k, m = k + 1 := ⟨m - 1, by omega⟩
    rw [List.take_succ_cons]
    have hdy : dayQ (c :: r.take k) = true → dayQ (c :: r) = true := fun a => by
      have h10 := dayQ_len a
      have := dayQ_long h10 (r.drop k)
      rw [List.cons_append, List.take_append_drop] at this
      rw [this]; exact a
    have hdh : dgH (r.take k) = true → dgH r = true := fun a => by
      cases r with
      | nil => simp [dgH] at a
      | cons d r => cases k with
        | zero => cases a
        | succ k => exact a
    rcases oneL_ways c r with w | w | w | ⟨w, v⟩ | ⟨w, v⟩ | ⟨w1, w2, w3, w4⟩
    · rw [oneL_word w] at h ⊢
      split at h
      · cases h
      · rename_i hlen
        have hn : n = spn wdQ r + 1 := by injection h with _ h; exact h.symm
        have e : spn wdQ (r.take k) = spn wdQ r := by rw [spn_take]; omega
        rw [e, if_neg hlen, ← h, ← List.take_succ_cons, List.take_take, show min (spn wdQ r + 1) (k + 1) = spn wdQ r + 1 by omega]
    · rw [oneL_quote w] at h ⊢
      split at h
      · rename_i hq
        obtain ⟨p, hp⟩ : ∃ p : UInt8 → Bool, p = fun x => decide (x.toNat ≠ 34) := ⟨_, rfl⟩
        rw [← hp] at h hq ⊢
        have hn : n = spn p r + 2 := by injection h with _ h; exact h.symm
        have e : spn p (r.take k) = spn p r := by rw [spn_take]; omega
        have e2 : (r.take k).take (spn p r) = r.take (spn p r) := by rw [List.take_take, show min (spn p r) k = spn p r by omega]
        rw [e, e2, if_pos ⟨by rw [List.length_take]; omega, hq.2⟩]
        exact h
      · cases h
    · have h10 := dayQ_len w
      have hn : n = 10 := by
        rw [oneL_day w] at h
        split at h
        · split at h
          · injection h with _ h; exact h.symm
          · cases h
        · cases h
      have hl10 : 10 ≤ (c :: r.take k).length := by simp at h10 ⊢; omega
      have hb : dayQ (c :: r.take k) = true := by
        have := dayQ_long hl10 (r.drop k)
        rw [List.cons_append, List.take_append_drop] at this
        rw [← this]; exact w
      have hv : datV (c :: r) = datV (c :: r.take k) := by
        have := datV_app hl10 (r.drop k)
        rwa [List.cons_append, List.take_append_drop] at this
      rw [oneL_day w] at h
      rw [oneL_day hb, ← hv]
      split at h
      · rename_i he
        rw [← List.take_succ_cons, List.drop_take, if_pos (endQ_take he _)]
        exact h
      · cases h
    · rw [oneL_num w v] at h
      have hnl := numK_take (by simp) h hm (by omega)
      rw [List.take_succ_cons] at hnl
      rw [oneL_num (fun a => w (hdy a)) ?_]
      · exact hnl
      · rcases v with v | ⟨v1, v2⟩
        · exact .inl v
        · refine .inr ⟨v1, ?_⟩
          have h2 : 2 ≤ n := by
            unfold numK at h
            dsimp only at h
            have hs : numS (c :: r) = 1 := by unfold numS; rw [if_pos]; simp; rw [← UInt8.toNat_inj]; exact v1
            have hsp : 1 ≤ spn dgQ ((c :: r).drop (numS (c :: r))) := by
              rw [hs]
              show 1 ≤ spn dgQ r
              cases r with
              | nil => cases v2
              | cons d r => unfold spn; rw [if_pos (show dgQ d = true from v2)]; omega
            split at h
            · have := numO_pos h; omega
            · have := numO_pos h; omega
          cases r with
          | nil => cases v2
          | cons d r => obtain ⟨j, rfl⟩ : ∃ j, k = j + 1 := ⟨k - 1, by omega⟩
                        exact v2
    · rw [oneL_mark w v] at h
      rw [oneL_mark w (fun a => v ⟨a.1, hdh a.2⟩)]
      exact h
    · rw [oneL_none w1 w2 w3 w4] at h; cases h

theorem skS_bl {c : UInt8} {l : List UInt8} (h : blQ c = true) : skS false (c :: l) = skS false l + 1 := by rw [skS, if_pos h]
theorem skS_hash {c : UInt8} {l : List UInt8} (h : c.toNat = 35) : skS false (c :: l) = skS true l + 1 := by
  have : ¬ blQ c = true := fun a => by have := blQ_nat a; omega
  rw [skS, if_neg this, if_pos h]
theorem skS_tok {c : UInt8} {l : List UInt8} (h : ¬ blQ c = true) (h2 : ¬ c.toNat = 35) : skS false (c :: l) = 0 := by rw [skS, if_neg h, if_neg h2]
theorem skS_nl {c : UInt8} {l : List UInt8} (h : c.toNat = 10) : skS true (c :: l) = skS false l + 1 := by rw [skS, if_pos h]
theorem skS_in {c : UInt8} {l : List UInt8} (h : ¬ c.toNat = 10) : skS true (c :: l) = skS true l + 1 := by rw [skS, if_neg h]
theorem nl_bl {c : UInt8} (h : c.toNat = 10) : blQ c = true := by unfold blQ; simp; omega
/-- A line feed ends whatever was skipped. -/
theorem skS_line (b : Bool) (a : List UInt8) {c : UInt8} (hc : c.toNat = 10) (X : List UInt8) (h : skS b a = a.length) : skS b (a ++ c :: X) = a.length + 1 + skS false X := by
  induction a generalizing b with
  | nil =>
    cases b
    · rw [List.nil_append, skS_bl (nl_bl hc)]; simp; omega
    · rw [List.nil_append, skS_nl hc]; simp; omega
  | cons d a ih =>
    have l1 := skS_le false a
    have l2 := skS_le true a
    rw [List.cons_append]
    cases b
    · by_cases hb : blQ d = true
      · rw [skS_bl hb] at h ⊢; rw [ih _ (by simpa using h)]; simp; omega
      · by_cases h2 : d.toNat = 35
        · rw [skS_hash h2] at h ⊢; rw [ih _ (by simpa using h)]; simp; omega
        · rw [skS_tok hb h2] at h; simp at h
    · by_cases hn : d.toNat = 10
      · rw [skS_nl hn] at h ⊢; rw [ih _ (by simpa using h)]; simp; omega
      · rw [skS_in hn] at h ⊢; rw [ih _ (by simpa using h)]; simp; omega
theorem skS_stop (b : Bool) (a X : List UInt8) (h : skS b a < a.length) : skS b (a ++ X) = skS b a := by
  induction a generalizing b with
  | nil => simp at h
  | cons d a ih =>
    rw [List.cons_append]
    cases b
    · by_cases hb : blQ d = true
      · rw [skS_bl hb] at h ⊢; rw [skS_bl hb, ih _ (by simpa using h)]
      · by_cases h2 : d.toNat = 35
        · rw [skS_hash h2] at h ⊢; rw [skS_hash h2, ih _ (by simpa using h)]
        · rw [skS_tok hb h2, skS_tok hb h2]
    · by_cases hn : d.toNat = 10
      · rw [skS_nl hn] at h ⊢; rw [skS_nl hn, ih _ (by simpa using h)]
      · rw [skS_in hn] at h ⊢; rw [skS_in hn, ih _ (by simpa using h)]
/-- What was skipped up to a token may be followed by anything. -/
theorem skS_then (b : Bool) (a l X : List UInt8) (hl : l ≠ []) (h : skS b (a ++ l) = a.length) : skS b (a ++ X) = a.length + skS false X := by
  induction a generalizing b with
  | nil =>
    cases b
    · simp
    · cases l with
      | nil => exact absurd rfl hl
      | cons d l =>
        rw [List.nil_append] at h
        by_cases hn : d.toNat = 10
        · rw [skS_nl hn] at h; simp at h
        · rw [skS_in hn] at h; simp at h
  | cons d a ih =>
    rw [List.cons_append] at h ⊢
    cases b
    · by_cases hb : blQ d = true
      · rw [skS_bl hb] at h ⊢; rw [ih _ (by simpa using h)]; simp; omega
      · by_cases h2 : d.toNat = 35
        · rw [skS_hash h2] at h ⊢; rw [ih _ (by simpa using h)]; simp; omega
        · rw [skS_tok hb h2] at h; simp at h
    · by_cases hn : d.toNat = 10
      · rw [skS_nl hn] at h ⊢; rw [ih _ (by simpa using h)]; simp; omega
      · rw [skS_in hn] at h ⊢; rw [ih _ (by simpa using h)]; simp; omega
/-- Reading goes on behind what is skipped. -/
theorem lexL_skip {off k : Nat} {l : List UInt8} (hk : k ≤ l.length) (h : skS false l = k + skS false (l.drop k)) : lexL off l = lexL (off + k) (l.drop k) := by
  have hle := skS_le false (l.drop k)
  rw [List.length_drop] at hle
  have hd : (l.drop k).drop (skS false (l.drop k)) = l.drop (skS false l) := by rw [List.drop_drop, h]
  rcases Nat.lt_or_ge (skS false l) l.length with hlt | hge
  · cases ho : oneL (l.drop (skS false l)) with
    | no e =>
      rw [lexL_no hlt ho, lexL_no (e := e) (by rw [List.length_drop]; omega) (by rw [hd]; exact ho), h]
      congr 1; omega
    | yes t n =>
      rw [lexL_yes hlt ho, lexL_yes (off := off + k) (l := l.drop k) (t := t) (n := n) (by rw [List.length_drop]; omega) (by rw [hd]; exact ho), List.drop_drop, h]
      have e1 : off + (k + skS false (l.drop k)) = off + k + skS false (l.drop k) := by omega
      have e2 : k + skS false (l.drop k) + n = k + (skS false (l.drop k) + n) := by omega
      rw [e1, e2]
  · rw [lexL_end (by have := skS_le false l; omega), lexL_end (by rw [List.length_drop]; omega)]
/-- Two texts with a line feed between them. -/
theorem lexL_concat {c : UInt8} (hc : c.toNat = 10) (X : List UInt8) : ∀ (n off : Nat) (a : List UInt8), a.length ≤ n →
    lexL off (a ++ c :: X) = match lexL off a with
      | .no i e => .no i e
      | .yes ts => preL ts (lexL (off + a.length + 1) X) := by
  intro n
  induction n with
  | zero =>
    intro off a ha
    obtain rfl : a = [] := List.length_eq_zero_iff.1 (by omega)
    rw [lexL_end (l := []) rfl]
    dsimp only
    rw [preL_nil]
    exact lexL_skip (k := 1) (by simp) (by rw [List.nil_append, skS_bl (nl_bl hc)]; simp; omega)
  | succ n ih =>
    intro off a ha
    rcases Nat.lt_or_ge (skS false a) a.length with hlt | hge
    · have hs := skS_stop false a (c :: X) hlt
      have hdr : (a ++ c :: X).drop (skS false a) = a.drop (skS false a) ++ c :: X := drop_le_app _ (by omega)
      have hne : a.drop (skS false a) ≠ [] := fun h => by have := congrArg List.length h; simp at this; omega
      have hone := oneL_app (nl_bl hc) hne X
      have hlt2 : skS false (a ++ c :: X) < (a ++ c :: X).length := by rw [hs]; simp; omega
      cases ho : oneL (a.drop (skS false a)) with
      | no e =>
        rw [lexL_no hlt ho, lexL_no (e := e) hlt2 (by rw [hs, hdr, hone]; exact ho), hs]
      | yes t m =>
        have hm := oneL_le ho
        have hp := oneL_pos ho
        rw [List.length_drop] at hm
        rw [lexL_yes hlt ho, lexL_yes (t := t) (n := m) hlt2 (by rw [hs, hdr, hone]; exact ho), hs, drop_le_app _ (by omega), ih _ _ (by rw [List.length_drop]; omega)]
        cases hL : lexL (off + skS false a + m) (a.drop (skS false a + m)) with
        | no i e => rfl
        | yes ts =>
          show pre1 _ (preL ts _) = preL (_ :: ts) _
          rw [pre1_eq, preL_preL, List.length_drop, show off + skS false a + m + (a.length - (skS false a + m)) + 1 = off + a.length + 1 by omega]
          rfl
    · have hf : skS false a = a.length := by have := skS_le false a; omega
      rw [lexL_end hf]
      dsimp only
      rw [preL_nil]
      have e : (a ++ c :: X).drop (a.length + 1) = X := by
        rw [← List.drop_drop, List.drop_left]; rfl
      have := lexL_skip (off := off) (k := a.length + 1) (l := a ++ c :: X) (by simp) (by rw [e]; exact skS_line false a hc X hf)
      rw [this, e]; rfl
def mvT (d : Int) (t : Tk) : Tk := { t with place := t.place + d }
def mvR (d : Nat) : LexR → LexR
  | .no i e => .no (i + d) e
  | .yes l => .yes (l.map (mvT d))
theorem mvR_pre1 (d : Nat) (t : Tk) (R : LexR) : mvR d (pre1 t R) = pre1 (mvT d t) (mvR d R) := by cases R <;> rfl
theorem lexL_shift (d : Nat) : ∀ (n off : Nat) (a : List UInt8), a.length ≤ n → lexL (off + d) a = mvR d (lexL off a) := by
  intro n
  induction n with
  | zero =>
    intro off a ha
    obtain rfl : a = [] := List.length_eq_zero_iff.1 (by omega)
    rw [lexL_end (l := []) rfl, lexL_end (l := []) rfl]; rfl
  | succ n ih =>
    intro off a ha
    rcases Nat.lt_or_ge (skS false a) a.length with hlt | hge
    · cases ho : oneL (a.drop (skS false a)) with
      | no e =>
        rw [lexL_no hlt ho, lexL_no hlt ho]
        show LexR.no _ _ = LexR.no _ _
        congr 1; omega
      | yes t m =>
        have hm := oneL_le ho
        have hp := oneL_pos ho
        rw [List.length_drop] at hm
        rw [lexL_yes hlt ho, lexL_yes hlt ho, mvR_pre1, ← ih _ _ (by rw [List.length_drop]; omega)]
        have e1 : off + d + skS false a + m = off + skS false a + m + d := by omega
        have e2 : ((off + d + skS false a : Nat) : Int) = ((off + skS false a : Nat) : Int) + (d : Int) := by omega
        rw [e1, e2]; rfl
    · have hf : skS false a = a.length := by have := skS_le false a; omega
      rw [lexL_end hf, lexL_end hf]; rfl
/-- Reading from an offset comes to a token at a place, with these tokens in front. -/
inductive Bnd : Nat → List UInt8 → Nat → List Tk → Prop
  | here (off : Nat) (l : List UInt8) (h : skS false l < l.length) : Bnd off l (skS false l) []
  | step (off : Nat) (l : List UInt8) (t : Tk) (n p : Nat) (ts : List Tk) (h : skS false l < l.length) (ho : oneL (l.drop (skS false l)) = .yes t n)
      (hb : Bnd (off + skS false l + n) (l.drop (skS false l + n)) p ts) : Bnd off l (skS false l + n + p) ({ t with place := ((off + skS false l : Nat) : Int) } :: ts)
theorem Bnd.lt {off : Nat} {l : List UInt8} {p : Nat} {ts : List Tk} (h : Bnd off l p ts) : p < l.length := by
  induction h with
  | here off l h => exact h
  | step off l t n p ts h ho hb ih =>
    rw [List.length_drop] at ih; omega
theorem skS_zero (l : List UInt8) (h : skS false l < l.length) : skS false (l.drop (skS false l)) = 0 := by
  have hne : l.drop (skS false l) ≠ [] := fun h => by have := congrArg List.length h; simp at this; omega
  have := skS_then false (l.take (skS false l)) (l.drop (skS false l)) (l.drop (skS false l)) hne (by rw [List.take_append_drop, List.length_take]; omega)
  rw [List.take_append_drop, List.length_take] at this
  omega
theorem Bnd.read {off : Nat} {l : List UInt8} {p : Nat} {ts : List Tk} (h : Bnd off l p ts) : lexL off l = preL ts (lexL (off + p) (l.drop p)) ∧ skS false (l.drop p) = 0 := by
  induction h with
  | here off l h =>
    have hz := skS_zero l h
    refine ⟨?_, hz⟩
    rw [preL_nil]
    exact lexL_skip (by omega) (by rw [hz]; rfl)
  | step off l t n p ts h ho hb ih =>
    rw [List.drop_drop] at ih
    refine ⟨?_, ih.2⟩
    rw [lexL_yes h ho, ih.1, pre1_eq, preL_preL, show off + skS false l + n + p = off + (skS false l + n + p) by omega]
    rfl
/-- What may stand behind a token. -/
def SepX (X : List UInt8) : Prop := X = [] ∨ ∃ s Y, X = s :: Y ∧ blQ s = true
theorem oneL_cut {l : List UInt8} {t : Tk} {n m : Nat} (h : oneL l = .yes t n) (hm : n ≤ m) {X : List UInt8} (hX : SepX X) : oneL (l.take m ++ X) = .yes t n := by
  have h1 := oneL_take h hm
  rcases hX with rfl | ⟨s, Y, rfl, hs⟩
  · rw [List.append_nil]; exact h1
  · rw [oneL_app hs ?_]
    · exact h1
    · intro hh; rw [hh] at h1; cases h1
theorem Bnd.cut {off : Nat} {l : List UInt8} {p : Nat} {ts : List Tk} (h : Bnd off l p ts) {X : List UInt8} (hX : SepX X) : lexL off (l.take p ++ X) = preL ts (lexL (off + p) X) := by
  induction h with
  | here off l h =>
    have hne : l.drop (skS false l) ≠ [] := fun h => by have := congrArg List.length h; simp at this; omega
    have hs := skS_then false (l.take (skS false l)) (l.drop (skS false l)) X hne (by rw [List.take_append_drop, List.length_take]; omega)
    have hlen : (l.take (skS false l)).length = skS false l := by rw [List.length_take]; omega
    rw [hlen] at hs
    have e : (l.take (skS false l) ++ X).drop (skS false l) = X := by
      have := List.drop_left (l₁ := l.take (skS false l)) (l₂ := X)
      rwa [hlen] at this
    rw [preL_nil, lexL_skip (k := skS false l) (by rw [List.length_append, hlen]; omega) (by rw [e]; exact hs), e]
  | step off l t n p ts h ho hb ih =>
    have hp := hb.lt
    have hn := oneL_pos ho
    rw [List.length_drop] at hp
    obtain ⟨k, hk⟩ : ∃ k, k = skS false l := ⟨_, rfl⟩
    have hne : l.drop k ≠ [] := fun h => by have := congrArg List.length h; simp at this; omega
    have hlen : (l.take k).length = k := by rw [List.length_take]; omega
    have e1 : l.take (k + n + p) = l.take k ++ (l.drop k).take (n + p) := by
      rw [show k + n + p = k + (n + p) by omega, List.take_add]
    have hz : skS false ((l.drop k).take (n + p) ++ X) = 0 := by
      have hz := skS_zero l h
      rw [← hk] at hz
      cases hd : l.drop k with
      | nil => exact absurd hd hne
      | cons c r =>
        rw [hd] at hz
        obtain ⟨j, hj⟩ : ∃ j, n + p = j + 1 := ⟨n + p - 1, by omega⟩
        rw [hj, List.take_succ_cons, List.cons_append]
        by_cases hb : blQ c = true
        · rw [skS_bl hb] at hz; omega
        · by_cases h2 : c.toNat = 35
          · rw [skS_hash h2] at hz; omega
          · exact skS_tok hb h2
    have hs := skS_then false (l.take k) (l.drop k) ((l.drop k).take (n + p) ++ X) hne (by rw [List.take_append_drop, hlen]; exact hk.symm)
    rw [hlen, hz, ← List.append_assoc, ← e1] at hs
    rw [← hk] at ho ih ⊢
    have edrop : (l.take (k + n + p) ++ X).drop k = (l.drop k).take (n + p) ++ X := by
      rw [e1, List.append_assoc]
      have := List.drop_left (l₁ := l.take k) (l₂ := (l.drop k).take (n + p) ++ X)
      rwa [hlen] at this
    have hone := oneL_cut ho (show n ≤ n + p by omega) hX
    have hlt : k < l.length := by omega
    have hl2 : skS false (l.take (k + n + p) ++ X) < (l.take (k + n + p) ++ X).length := by
      rw [hs, List.length_append, List.length_take]; omega
    rw [lexL_yes hl2 (t := t) (n := n) (by rw [hs, Nat.add_zero, edrop]; exact hone), hs, Nat.add_zero]
    have e3 : (l.take (k + n + p) ++ X).drop (k + n) = (l.drop (k + n)).take p ++ X := by
      rw [← List.drop_drop, edrop, drop_le_app _ (by rw [List.length_take, List.length_drop]; omega), List.drop_take, List.drop_drop, show n + p - n = p by omega]
    rw [e3, ih, pre1_eq, preL_preL, show off + k + n + p = off + (k + n + p) by omega]
    rfl
theorem lexL_wrong : ∀ (n off : Nat) (l : List UInt8), l.length ≤ n → ∀ {i : Nat} {e : Int}, lexL off l = .no i e → ∃ p ts, i = off + p ∧ Bnd off l p ts ∧ oneL (l.drop p) = .no e := by
  intro n
  induction n with
  | zero =>
    intro off l hl i e h
    obtain rfl : l = [] := List.length_eq_zero_iff.1 (by omega)
    rw [lexL_end (l := []) rfl] at h; cases h
  | succ n ih =>
    intro off l hl i e h
    rcases Nat.lt_or_ge (skS false l) l.length with hlt | hge
    · cases ho : oneL (l.drop (skS false l)) with
      | no e' =>
        rw [lexL_no hlt ho] at h
        injection h with h1 h2
        exact ⟨skS false l, [], h1.symm, .here off l hlt, by rw [← h2]; exact ho⟩
      | yes t m =>
        have hp := oneL_pos ho
        rw [lexL_yes hlt ho] at h
        cases hL : lexL (off + skS false l + m) (l.drop (skS false l + m)) with
        | yes ts => rw [hL] at h; cases h
        | no i' e' =>
          obtain ⟨p, ts, h1, h2, h3⟩ := ih _ _ (by rw [List.length_drop]; omega) hL
          rw [hL] at h
          injection h with h4 h5
          rw [List.drop_drop] at h3
          exact ⟨skS false l + m + p, _, by omega, .step off l t m p ts hlt ho h2, by rw [← h5]; exact h3⟩
    · rw [lexL_end (by have := skS_le false l; omega)] at h; cases h
theorem lexL_token : ∀ (n off : Nat) (l : List UInt8), l.length ≤ n → ∀ {ts : List Tk}, lexL off l = .yes ts → ∀ {j : Nat}, j < ts.length →
    ∃ p t m, Bnd off l p (ts.take j) ∧ oneL (l.drop p) = .yes t m ∧ ts[j]? = some { t with place := ((off + p : Nat) : Int) } := by
  intro n
  induction n with
  | zero =>
    intro off l hl ts h j hj
    obtain rfl : l = [] := List.length_eq_zero_iff.1 (by omega)
    rw [lexL_end (l := []) rfl] at h
    injection h with h; subst h; simp at hj
  | succ n ih =>
    intro off l hl ts h j hj
    rcases Nat.lt_or_ge (skS false l) l.length with hlt | hge
    · cases ho : oneL (l.drop (skS false l)) with
      | no e' => rw [lexL_no hlt ho] at h; cases h
      | yes t m =>
        have hp := oneL_pos ho
        rw [lexL_yes hlt ho] at h
        cases hL : lexL (off + skS false l + m) (l.drop (skS false l + m)) with
        | no i e => rw [hL] at h; cases h
        | yes us =>
          rw [hL] at h
          injection h with h
          subst h
          cases j with
          | zero => exact ⟨skS false l, t, m, .here off l hlt, ho, rfl⟩
          | succ j =>
            obtain ⟨p, t', m', h1, h2, h3⟩ := ih _ _ (by rw [List.length_drop]; omega) hL (j := j) (by simpa using hj)
            rw [List.drop_drop] at h2
            refine ⟨skS false l + m + p, t', m', ?_, h2, ?_⟩
            · rw [List.take_succ_cons]; exact .step off l t m p _ hlt ho h1
            · rw [List.getElem?_cons_succ, h3]
              rw [show off + skS false l + m + p = off + (skS false l + m + p) by omega]
    · rw [lexL_end (by have := skS_le false l; omega)] at h
      injection h with h; subst h; simp at hj

end Go.Proofs.YtnmiiimbjojcmaaGreatDoor
