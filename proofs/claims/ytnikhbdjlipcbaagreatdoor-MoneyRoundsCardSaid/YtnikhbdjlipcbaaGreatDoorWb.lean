/-
  The small functions of money and its reference: amount, Sum, SameInts. No condition. Plain laws of the split of a total by weights: ranks of remainders. No program in sight. The reference's Split, where its arguments are in range. The reference's Split, where its arguments are out of range: nil and the error 2.
-/
import Derived.Test.YtnikhbdjlipcbaaGreatDoorRows
import Derived.Test.YtnikhbdjlipcbaaGreatDoorVa
namespace Go.Proofs.YtnikhbdjlipcbaaGreatDoor.Spl
open Go.RowKit

def amtB (n : Int) : Bool := decide (-1125899906842624 ≤ n ∧ n ≤ 1125899906842624)

/-- A slice of ints, as it lies in memory. -/
def Ints (w : World) (v : Value) (l : List Int) : Prop :=
  ∃ a cap, v = .slice a l.length cap ∧ l.length ≤ cap ∧ ∀ i, i < l.length → ∃ b off, a = some ⟨b, off, none⟩ ∧ w.cell? ⟨b, off + i, none⟩ = some (.int .i64 (l.getD i 0))

set_option maxHeartbeats 400000 in
theorem amount_any (n : Int) (w : World) : Calls Tryz.prog 23 #[.int .i64 n] w fun e w' => e = .returned (.bool (amtB n)) ∧ w = w' := by
  by_cases h1 : -1125899906842624 ≤ n
  · by_cases h2 : n ≤ 1125899906842624
    · have hb : amtB n = true := by unfold amtB; simp; omega
      go_enter Tryz.func23, Tryz.ntmps23
      go_wp2
      go_ret
      exact ⟨ret_bool hb.symm, rfl⟩
    · have hb : amtB n = false := by unfold amtB; simp; omega
      go_enter Tryz.func23, Tryz.ntmps23
      go_wp2
      go_ret
      exact ⟨rfl, rfl⟩
  · have hb : amtB n = false := by unfold amtB; simp; omega
    go_enter Tryz.func23, Tryz.ntmps23
    go_wp2
    go_ret
    exact ⟨rfl, rfl⟩


/-- A row of ints at an address. -/
def IntsAt (w : World) (b off : Nat) (l : List Int) : Prop := ∀ i, i < l.length → w.cell? ⟨b, off + i, none⟩ = some (.int .i64 (l.getD i 0))

theorem take_snoc' (l : List Int) (k : Nat) (h : k < l.length) : l.take (k + 1) = l.take k ++ [l[k]?.getD 0] := by
  rw [List.take_add_one, List.getElem?_eq_getElem h]; rfl

theorem same_false (l m : List Int) (k : Nat) (h : (l[k]?.getD 0 == m[k]?.getD 0) = false) : (l == m) = false := by
  rw [beq_eq_false_iff_ne]
  rintro rfl
  simp at h

theorem same_true (l m : List Int) (hlm : l.length = m.length) (h : l.take l.length = m.take l.length) : (l == m) = true := by
  rw [beq_iff_eq]
  rw [List.take_length, List.take_of_length_le (by omega)] at h
  exact h

set_option maxHeartbeats 400000 in
theorem same_ne (a1 a2 : Option Addr) (c1 c2 : Nat) (n m : Nat) (h : n ≠ m) (w : World) :
    Calls Tryz.prog 48 #[.slice a1 n c1, .slice a2 m c2] w fun e w' => e = .returned (.bool false) ∧ w = w' := by
  have hd : ((n : Int) == m) = false := by rw [beq_eq_false_iff_ne]; omega
  go_enter Tryz.func48, Tryz.ntmps48
  go_wp2
  go_ret
  exact ⟨rfl, rfl⟩


set_option maxHeartbeats 400000 in
theorem same_eq (b1 o1 b2 o2 c1 c2 n : Nat) (l m : List Int) (w : World) (hl : l.length = n) (hm : m.length = n) (hbig : n ≤ 9223372036854775807)
    (h1 : ∀ i, i < n → w.cell? ⟨b1, o1 + i, none⟩ = some (.int .i64 (l[i]?.getD 0))) (h2 : ∀ i, i < n → w.cell? ⟨b2, o2 + i, none⟩ = some (.int .i64 (m[i]?.getD 0))) :
    Calls Tryz.prog 48 #[.slice (some ⟨b1, o1, none⟩) n c1, .slice (some ⟨b2, o2, none⟩) n c2] w fun e w' => e = .returned (.bool (l == m)) ∧ ∃ q, w' = w.drewN q := by
  have HL := Lib.hid hl
  have HM := Lib.hid hm
  clear hl hm
  go_enter Tryz.func48, Tryz.ntmps48
  go_wp2
  go_loopw [5] (fun i wr => ∃ k q : Nat, k ≤ n ∧ i = .int .i64 k ∧ wr = w.drewN q ∧ Hid (l.take k = m.take k)) (fun i _ => n - (intOf i).toNat)
  case atStart => exact ⟨0, 0, Nat.zero_le _, rfl, rfl, rfl⟩
  case round =>
    obtain ⟨k, q, hk, rfl, rfl, hT⟩ := hrel
    by_cases hlt : k < n
    · have g1 := h1 k hlt
      have g2 := h2 k hlt
      clear h1 h2
      by_cases he : (l[k]?.getD 0 == m[k]?.getD 0) = true
      · have hT' : Hid (l.take (k + 1) = m.take (k + 1)) := by
          have a := HL.out; have b := HM.out; have c := hT.out
          show l.take (k + 1) = m.take (k + 1)
          rw [take_snoc' l k (by omega), take_snoc' m k (by omega), c, beq_iff_eq.1 he]
        have hn : (l[k]?.getD 0 != m[k]?.getD 0) = false := by simpa using he
        go_wp2
        go_quiet (fail)
        go_wp2
        go_roundw
        case rel => exact ⟨k + 1, _, by omega, by go_num, rfl, hT'⟩
        case measure => simp [intOf]; omega
      · have hf : (l == m) = false := same_false l m k (by simpa using he)
        have hn : (l[k]?.getD 0 != m[k]?.getD 0) = true := by simpa using he
        have hn' : (l[k]?.getD 0 == m[k]?.getD 0) = false := by simpa using he
        have HF := Lib.hid hf
        clear hf he
        go_wp2
        go_quiet (fail)
        go_wp2
        go_ret
        exact ⟨ret_bool HF.out.symm, _, World.drewN_drewN _ _ _⟩
    · have ht : (l == m) = true := by
        have a := HL.out; have b := HM.out; have c := hT.out
        have e : k = n := by omega
        exact same_true l m (by omega) (by rw [a, ← e]; exact c)
      have HT := Lib.hid ht
      clear ht h1 h2
      go_wp2
      go_ret
      exact ⟨ret_bool HT.out.symm, _, rfl⟩


/-! ### Sum -/
def sumOf (l : List Int) : Int := l.foldl (· + ·) 0
def allAmt (l : List Int) : Bool := l.all amtB
def sumN (l : List Int) : Int := if l.length ≤ 5000 ∧ allAmt l = true ∧ amtB (sumOf l) = true then sumOf l else 0
def sumE (l : List Int) : Int := if 5000 < l.length then 4 else if allAmt l = false then 2 else if amtB (sumOf l) = false then 14 else 0

theorem sumOf_snoc (l : List Int) (x : Int) : sumOf (l ++ [x]) = sumOf l + x := by simp [sumOf]
theorem amtB_true {n : Int} (h : amtB n = true) : -1125899906842624 ≤ n ∧ n ≤ 1125899906842624 := by unfold amtB at h; simpa using h
theorem allAmt_snoc (l : List Int) (x : Int) : allAmt (l ++ [x]) = (allAmt l && amtB x) := by simp [allAmt]
theorem sum_bd (l : List Int) (h : allAmt l = true) : -(1125899906842624 * (l.length : Int)) ≤ sumOf l ∧ sumOf l ≤ 1125899906842624 * (l.length : Int) := by
  generalize hn : l.length = n
  induction n generalizing l with
  | zero => have : l = [] := List.eq_nil_of_length_eq_zero hn
            subst this; simp [sumOf]
  | succ n ih =>
    have hne : l ≠ [] := by rintro rfl; simp at hn
    obtain ⟨m, x, rfl⟩ : ∃ m x, l = m ++ [x] := ⟨l.dropLast, l.getLast hne, (List.dropLast_concat_getLast hne).symm⟩
    rw [allAmt_snoc] at h
    simp only [Bool.and_eq_true] at h
    have h1 := ih m h.1 (by simpa using hn)
    have h2 := amtB_true h.2
    rw [sumOf_snoc]
    omega
theorem allAmt_false (l : List Int) (k : Nat) (hk : k < l.length) (h : amtB (l[k]?.getD 0) = false) : allAmt l = false := by
  unfold allAmt
  rw [List.all_eq_false]
  refine ⟨l[k], List.getElem_mem hk, ?_⟩
  rw [List.getElem?_eq_getElem hk] at h
  simpa using h


theorem sum_long (l : List Int) (h : 5000 < l.length) : sumN l = 0 ∧ sumE l = 4 := ⟨by unfold sumN; rw [if_neg (by omega)], by unfold sumE; rw [if_pos h]⟩
theorem sum_bad (l : List Int) (h : l.length ≤ 5000) (h2 : allAmt l = false) : sumN l = 0 ∧ sumE l = 2 := ⟨by unfold sumN; rw [if_neg (by simp [h2])], by unfold sumE; rw [if_neg (by omega), if_pos h2]⟩
theorem sum_big (l : List Int) (h : l.length ≤ 5000) (h2 : allAmt l = true) (h3 : amtB (sumOf l) = false) : sumN l = 0 ∧ sumE l = 14 := ⟨by unfold sumN; rw [if_neg (by simp [h3])], by unfold sumE; rw [if_neg (by omega), if_neg (by simp [h2]), if_pos h3]⟩
theorem sum_ok (l : List Int) (h : l.length ≤ 5000) (h2 : allAmt l = true) (h3 : amtB (sumOf l) = true) : sumN l = sumOf l ∧ sumE l = 0 := ⟨by unfold sumN; rw [if_pos ⟨h, h2, h3⟩], by unfold sumE; rw [if_neg (by omega), if_neg (by simp [h2]), if_neg (by simp [h3])]⟩

def SumPost (l : List Int) (w : World) (e : Ending) (w' : World) : Prop := e = .returned (.tuple #[.int .i64 (sumN l), .int .i64 (sumE l)]) ∧ w = w'

set_option maxHeartbeats 400000 in
theorem sum_go (b o c n : Nat) (l : List Int) (w : World) (hl : l.length = n) (hbig : n ≤ 9223372036854775807)
    (h1 : ∀ i, i < n → w.cell? ⟨b, o + i, none⟩ = some (.int .i64 (l[i]?.getD 0))) :
    Calls Tryz.prog 15 #[.slice (some ⟨b, o, none⟩) n c] w (SumPost l w) := by
  by_cases h5 : n ≤ 5000
  · have HL := Lib.hid hl
    clear hl
    go_enter Tryz.func15, Tryz.ntmps15
    go_wp2
    go_loop [4, 6, 12] (fun s x i => ∃ k : Nat, k ≤ n ∧ i = .int .i64 k ∧ s = .int .i64 (sumOf (l.take k)) ∧ Hid (allAmt (l.take k) = true)) (fun _ _ i => n - (intOf i).toNat)
    case atStart => exact ⟨0, Nat.zero_le _, rfl, rfl, rfl⟩
    case round =>
      obtain ⟨k, hk, rfl, rfl, hT⟩ := hrel
      have hbd := sum_bd (l.take k) hT.out
      have hlk : (l.take k).length = k := by have := HL.out; simp; omega
      rw [hlk] at hbd
      clear hlk
      obtain ⟨bd1, bd2⟩ := hbd
      by_cases hlt : k < n
      · have g1 := h1 k hlt
        clear h1
        by_cases ha : amtB (l[k]?.getD 0) = true
        · have bd3 := amtB_true ha
          obtain ⟨bd3, bd4⟩ := bd3
          have hs : Hid (sumOf (l.take (k + 1)) = sumOf (l.take k) + l[k]?.getD 0 ∧ allAmt (l.take (k + 1)) = true) := by
            have a := HL.out
            show _ ∧ _
            rw [take_snoc' l k (by omega), sumOf_snoc, allAmt_snoc, hT.out, ha]
            exact ⟨rfl, rfl⟩
          go_wp2_with (go_at_call 23; refine (amount_any _ _).mono ?_; rintro e w' ⟨rfl, rfl⟩)
          go_round
          case rel => exact ⟨k + 1, by omega, by go_num, by rw [hs.out.1], hs.out.2⟩
          case measure => simp [intOf]; omega
        · have ha : amtB (l[k]?.getD 0) = false := by simpa using ha
          have hb := Lib.hid (sum_bad l (by have := HL.out; omega) (allAmt_false l k (by have := HL.out; omega) ha))
          go_wp2_with (go_at_call 23; refine (amount_any _ _).mono ?_; rintro e w' ⟨rfl, rfl⟩)
          go_ret2
          exact ⟨ret_two hb.out.1.symm hb.out.2.symm, rfl⟩
      · have hlen : Hid (l.take k = l) := by have := HL.out; exact List.take_of_length_le (by omega)
        clear h1
        by_cases ha : amtB (sumOf (l.take k)) = true
        · have hb : Hid (sumN l = sumOf (l.take k) ∧ sumE l = 0) := by
            have e := hlen.out; have t := hT.out; have a := ha; rw [e] at a t; show _ ∧ _; rw [e]; exact sum_ok l (by have := HL.out; omega) t a
          go_wp2_with (go_at_call 23; refine (amount_any _ _).mono ?_; rintro e w' ⟨rfl, rfl⟩)
          go_ret2
          exact ⟨ret_two hb.out.1.symm hb.out.2.symm, rfl⟩
        · have ha : amtB (sumOf (l.take k)) = false := by simpa using ha
          have hb : Hid (sumN l = 0 ∧ sumE l = 14) := by
            have e := hlen.out; have t := hT.out; have a := ha; rw [e] at a t; show _ ∧ _; exact sum_big l (by have := HL.out; omega) t a
          go_wp2_with (go_at_call 23; refine (amount_any _ _).mono ?_; rintro e w' ⟨rfl, rfl⟩)
          go_ret2
          exact ⟨ret_two hb.out.1.symm hb.out.2.symm, rfl⟩
  · have hb := Lib.hid (sum_long l (by omega))
    clear hl h1
    go_enter Tryz.func15, Tryz.ntmps15
    go_wp2
    go_ret2
    exact ⟨ret_two hb.out.1.symm hb.out.2.symm, rfl⟩


/-- No element: whatever the slice's address. -/
theorem sum_go_nil (a : Option Addr) (c : Nat) (w : World) : Calls Tryz.prog 15 #[.slice a 0 c] w (SumPost [] w) := by
  have h0 : amtB 0 = true := by decide
  go_enter Tryz.func15, Tryz.ntmps15
  go_wp2
  refine wp_loop_rounds 1 ?_
  rw [rounds_succ]
  go_wp2_with (go_at_call 23; refine (amount_any _ _).mono ?_; rintro e w' ⟨rfl, rfl⟩)
  go_ret2
  exact ⟨rfl, rfl⟩
end Go.Proofs.YtnikhbdjlipcbaaGreatDoor.Spl

namespace Go.Proofs.YtnikhbdjlipcbaaGreatDoor.Spl

/-- j comes before i: a greater remainder, or the same one and a smaller place. -/
def bef (r : Nat → Int) (j i : Nat) : Prop := r i < r j ∨ (r j = r i ∧ j < i)
instance (r : Nat → Int) (j i : Nat) : Decidable (bef r j i) := by unfold bef; exact inferInstance
theorem bef_irrefl (r : Nat → Int) (i : Nat) : ¬ bef r i i := by unfold bef; omega
theorem bef_asymm (r : Nat → Int) (i j : Nat) (h : bef r i j) : ¬ bef r j i := by unfold bef at *; omega
theorem bef_trans (r : Nat → Int) (i j k : Nat) (h : bef r i j) (h2 : bef r j k) : bef r i k := by unfold bef at *; omega
theorem bef_total (r : Nat → Int) (i j : Nat) (h : i ≠ j) : bef r i j ∨ bef r j i := by unfold bef; omega

/-- How many places of n come before i. -/
def rk (r : Nat → Int) (n i : Nat) : Nat := (List.range n).countP fun j => decide (bef r j i)

theorem rk_lt_of_bef (r : Nat → Int) (n i j : Nat) (hi : i < n) (h : bef r i j) : rk r n i < rk r n j := by
  unfold rk
  have hsub : ∀ l : List Nat, l.countP (fun k => decide (bef r k i)) ≤ l.countP (fun k => decide (bef r k j)) := fun l => by
    apply List.countP_mono_left
    intro x _ hx
    simp only [decide_eq_true_eq] at hx ⊢
    exact bef_trans r x i j hx h
  have key : ∀ l : List Nat, i ∈ l → l.countP (fun k => decide (bef r k i)) < l.countP (fun k => decide (bef r k j)) := by
    intro l
    induction l with
    | nil => intro h; simp at h
    | cons x l ih =>
      intro hx
      rw [List.countP_cons, List.countP_cons]
      by_cases e : x = i
      · subst e
        have h1 : decide (bef r x x) = false := by simpa using bef_irrefl r x
        have h2 : decide (bef r x j) = true := by simpa using h
        rw [h1, h2]
        have := hsub l
        simp
        omega
      · have := ih (by simpa [Ne.symm e] using hx)
        by_cases b : bef r x i
        · have b2 := bef_trans r x i j b h
          simp [b, b2]; omega
        · simp [b]
          split <;> omega
  exact key _ (by simpa using hi)

/-- A permutation of the places in which each comes before all later ones: the rank of what stands at k is k. -/
theorem rk_of_sorted (r : Nat → Int) (n : Nat) (L : List Nat) (hp : L.Perm (List.range n)) (hs : L.Pairwise (bef r)) (k : Nat) (hk : k < L.length) : rk r n L[k] = k := by
  unfold rk
  rw [← List.Perm.countP_eq _ hp]
  have e : L = L.take k ++ L[k] :: L.drop (k + 1) := by
    rw [← List.drop_eq_getElem_cons hk, List.take_append_drop]
  have h1 : (L.take k).countP (fun j => decide (bef r j L[k])) = k := by
    have : (L.take k).countP (fun j => decide (bef r j L[k])) = (L.take k).length := by
      rw [List.countP_eq_length]
      intro x hx
      obtain ⟨i, hi, rfl⟩ := List.mem_iff_getElem.1 hx
      simp only [List.length_take] at hi
      simp only [List.getElem_take, decide_eq_true_eq]
      exact List.pairwise_iff_getElem.1 hs i k (by omega) hk (by omega)
    rw [this, List.length_take]; omega
  have h2 : (L.drop (k + 1)).countP (fun j => decide (bef r j L[k])) = 0 := by
    rw [List.countP_eq_zero]
    intro x hx
    obtain ⟨i, hi, rfl⟩ := List.mem_iff_getElem.1 hx
    simp only [List.length_drop] at hi
    simp only [List.getElem_drop, decide_eq_true_eq]
    exact bef_asymm r _ _ (List.pairwise_iff_getElem.1 hs k (k + 1 + i) hk (by omega) (by omega))
  have e2 := congrArg (List.countP (fun j => decide (bef r j L[k]))) e
  rw [e2, List.countP_append, List.countP_cons, h1, h2]
  simp [bef_irrefl]

def sumL (l : List Int) : Int := l.foldl (· + ·) 0
theorem sumL_snoc (l : List Int) (x : Int) : sumL (l ++ [x]) = sumL l + x := by simp [sumL]

/-- The part of place i before the rest is handed out; its remainder. -/
def qOf (size s : Int) (ws : List Int) (i : Nat) : Int := size * (ws[i]?.getD 0) / s
def rOf (size s : Int) (ws : List Int) (i : Nat) : Int := size * (ws[i]?.getD 0) % s
/-- What is left when k parts are taken off. -/
def leftAt (size s : Int) (ws : List Int) : Nat → Int
  | 0 => size
  | k + 1 => leftAt size s ws k - qOf size s ws k
def lft (size : Int) (ws : List Int) : Int := leftAt size (sumL ws) ws ws.length
/-- The parts of a size that is not negative. -/
def parts (size : Int) (ws : List Int) : List Int :=
  (List.range ws.length).map fun i => qOf size (sumL ws) ws i + if (rk (rOf size (sumL ws) ws) ws.length i : Int) < lft size ws then 1 else 0
def wOK (w : Int) : Bool := decide (0 ≤ w ∧ w ≤ 4000)

/-- Sums of remainders bound what is left. -/
theorem left_bd (size s : Int) (ws : List Int) (hs : 0 < s) (k : Nat) (hk : k ≤ ws.length) :
    0 ≤ s * leftAt size s ws k - size * (s - sumL (ws.take k)) ∧ s * leftAt size s ws k - size * (s - sumL (ws.take k)) ≤ (k : Int) * (s - 1) := by
  induction k with
  | zero => simp [leftAt, sumL, Int.mul_comm]
  | succ k ih =>
    obtain ⟨i1, i2⟩ := ih (by omega)
    have ht : ws.take (k + 1) = ws.take k ++ [ws[k]?.getD 0] := by
      rw [List.take_add_one, List.getElem?_eq_getElem (by omega)]; rfl
    rw [ht, sumL_snoc, leftAt]
    have hd := Int.mul_ediv_add_emod (size * (ws[k]?.getD 0)) s
    have hm0 := Int.emod_nonneg (size * (ws[k]?.getD 0)) (show s ≠ 0 by omega)
    have hm1 := Int.emod_lt_of_pos (size * (ws[k]?.getD 0)) hs
    unfold qOf
    generalize ws[k]?.getD 0 = x at *
    generalize size * x / s = q at *
    generalize size * x % s = m at *
    have e1 : s * (leftAt size s ws k - q) = s * leftAt size s ws k - s * q := by rw [Int.mul_sub]
    have e2 : size * (s - (sumL (ws.take k) + x)) = size * (s - sumL (ws.take k)) - size * x := by rw [← Int.mul_sub]; congr 1; omega
    have e3 : ((k + 1 : Nat) : Int) * (s - 1) = (k : Int) * (s - 1) + (s - 1) := by rw [Int.natCast_add, Int.add_mul]; simp
    rw [e1, e2, e3]
    omega

theorem lft_bd (size : Int) (ws : List Int) (hs : 0 < sumL ws) : 0 ≤ lft size ws ∧ (lft size ws < ws.length ∨ ws.length = 0) := by
  have h := left_bd size (sumL ws) ws hs ws.length (Nat.le_refl _)
  rw [List.take_length] at h
  unfold lft
  generalize leftAt size (sumL ws) ws ws.length = L at *
  generalize sumL ws = s at *
  simp only [Int.sub_self, Int.mul_zero, Int.sub_zero] at h
  obtain ⟨h1, h2⟩ := h
  refine ⟨?_, ?_⟩
  · exact Int.nonneg_of_mul_nonneg_right h1 hs
  · by_cases e : ws.length = 0
    · exact .inr e
    · left
      refine Int.lt_of_mul_lt_mul_left (a := s) ?_ (by omega)
      have : s * (ws.length : Int) = (ws.length : Int) * (s - 1) + ws.length := by
        rw [Int.mul_sub, Int.mul_comm]; simp
      omega


theorem rk_inj (r : Nat → Int) (n i j : Nat) (hi : i < n) (hj : j < n) (h : rk r n i = rk r n j) : i = j := by
  refine Decidable.byContradiction fun hne => ?_
  rcases bef_total r i j hne with h1 | h1
  · have := rk_lt_of_bef r n i j hi h1; omega
  · have := rk_lt_of_bef r n j i hj h1; omega

/-- How many places have a rank below t. -/
def below (r : Nat → Int) (n t : Nat) : Nat := (List.range n).countP fun j => decide (rk r n j < t)
theorem below_zero (r : Nat → Int) (n : Nat) : below r n 0 = 0 := by
  unfold below; rw [List.countP_eq_zero]; intro x _; simp

theorem below_succ (r : Nat → Int) (n t i : Nat) (hi : i < n) (h : rk r n i = t) : below r n (t + 1) = below r n t + 1 := by
  have key : ∀ l : List Nat, l.Nodup → (∀ x ∈ l, x < n) → l.countP (fun j => decide (rk r n j < t + 1)) = l.countP (fun j => decide (rk r n j < t)) + (if i ∈ l then 1 else 0) := by
    intro l
    induction l with
    | nil => intro _ _; simp
    | cons x l ih =>
      intro hnd hlt
      have hnd' := List.nodup_cons.1 hnd
      have := ih hnd'.2 (fun y hy => hlt y (by simp [hy]))
      rw [List.countP_cons, List.countP_cons, this]
      by_cases e : x = i
      · subst e
        rw [if_neg hnd'.1]
        simp [h]
      · have hx : rk r n x ≠ t := fun e2 => e (rk_inj r n x i (hlt x (by simp)) hi (by omega))
        have e3 : decide (rk r n x < t + 1) = decide (rk r n x < t) := by
          rw [decide_eq_decide]; omega
        rw [e3]
        have e4 : (i ∈ x :: l) ↔ i ∈ l := by simp [Ne.symm e]
        simp only [e4]
        omega
  have := key (List.range n) List.nodup_range (fun x hx => by simpa using hx)
  unfold below
  rw [this, if_pos (by simpa using hi)]

/-- The first greatest of those that are not marked has rank t. -/
theorem best_rank (r : Nat → Int) (n t b : Nat) (hr : ∀ i, i < n → 0 ≤ r i) (hb : b < n) (ht : below r n t = t) (htn : t < n)
    (f : Nat → Int) (hf : ∀ i, i < n → f i = if rk r n i < t then -1 else r i)
    (h1 : ∀ j, j < n → f j ≤ f b) (h2 : ∀ j, j < b → f j < f b) : rk r n b = t := by
  have hex : ∃ j, j < n ∧ ¬ rk r n j < t := by
    refine Decidable.byContradiction fun hno => ?_
    have : below r n t = n := by
      unfold below
      have : (List.range n).countP (fun j => decide (rk r n j < t)) = (List.range n).length := by
        rw [List.countP_eq_length]
        intro x hx
        have hx' : x < n := by simpa using hx
        simp only [decide_eq_true_eq]
        exact Decidable.byContradiction fun h => hno ⟨x, hx', h⟩
      rw [this, List.length_range]
    omega
  obtain ⟨j0, hj0, hj1⟩ := hex
  have hb0 : 0 ≤ f b := by
    have := h1 j0 hj0
    rw [hf j0 hj0, if_neg hj1] at this
    have := hr j0 hj0
    omega
  have hbt : ¬ rk r n b < t := by
    intro h
    rw [hf b hb, if_pos h] at hb0
    omega
  have hfb : f b = r b := by rw [hf b hb, if_neg hbt]
  have hiff : ∀ j, j < n → (bef r j b ↔ rk r n j < t) := by
    intro j hj
    constructor
    · intro h
      refine Decidable.byContradiction fun hn => ?_
      have e := hf j hj
      rw [if_neg hn] at e
      have h3 := h1 j hj
      rw [e, hfb] at h3
      unfold bef at h
      rcases h with h | ⟨h, h'⟩
      · omega
      · have := h2 j h'
        rw [e, hfb] at this
        omega
    · intro h
      by_cases e : j = b
      · subst e; exact absurd h hbt
      · rcases bef_total r j b e with h3 | h3
        · exact h3
        · have := rk_lt_of_bef r n b j hb h3
          omega
  rw [← ht]
  unfold rk below
  apply List.countP_congr
  intro x hx
  have hx' : x < n := by simpa using hx
  simp only [decide_eq_true_eq]
  exact hiff x hx'

/-- The remainders that are left after t rounds; the parts after t rounds. -/
def restL (r : Nat → Int) (n t : Nat) : List Int := (List.range n).map fun i => if rk r n i < t then -1 else r i
def outL (q r : Nat → Int) (n t : Nat) : List Int := (List.range n).map fun i => q i + if rk r n i < t then 1 else 0
theorem restL_length (r : Nat → Int) (n t : Nat) : (restL r n t).length = n := by simp [restL]
theorem outL_length (q r : Nat → Int) (n t : Nat) : (outL q r n t).length = n := by simp [outL]
theorem restL_get (r : Nat → Int) (n t i : Nat) (hi : i < n) : (restL r n t)[i]?.getD 0 = if rk r n i < t then -1 else r i := by simp [restL, hi]
theorem outL_get (q r : Nat → Int) (n t i : Nat) (hi : i < n) : (outL q r n t)[i]?.getD 0 = q i + if rk r n i < t then 1 else 0 := by simp [outL, hi]
theorem restL_set (r : Nat → Int) (n t b : Nat) (hb : b < n) (h : rk r n b = t) : (restL r n t).set b (-1) = restL r n (t + 1) := by
  apply List.ext_getElem
  · simp [restL]
  · intro i h1 h2
    have hi : i < n := by simpa [restL] using h2
    by_cases e : b = i
    · subst e; simp [restL, h]
    · have : rk r n i ≠ t := fun e2 => e (rk_inj r n b i hb hi (by omega))
      rw [List.getElem_set_ne e]
      simp only [restL, List.getElem_map, List.getElem_range]
      by_cases c : rk r n i < t
      · rw [if_pos c, if_pos (by omega)]
      · rw [if_neg c, if_neg (by omega)]
theorem outL_set (q r : Nat → Int) (n t b : Nat) (hb : b < n) (h : rk r n b = t) : (outL q r n t).set b (q b + 1) = outL q r n (t + 1) := by
  apply List.ext_getElem
  · simp [outL]
  · intro i h1 h2
    have hi : i < n := by simpa [outL] using h2
    by_cases e : b = i
    · subst e; simp [outL, h]
    · have : rk r n i ≠ t := fun e2 => e (rk_inj r n b i hb hi (by omega))
      rw [List.getElem_set_ne e]
      simp only [outL, List.getElem_map, List.getElem_range]
      by_cases c : rk r n i < t
      · rw [if_pos c, if_pos (by omega)]
      · rw [if_neg c, if_neg (by omega)]
theorem parts_eq (size : Int) (ws : List Int) (h : 0 ≤ lft size ws) : parts size ws = outL (qOf size (sumL ws) ws) (rOf size (sumL ws) ws) ws.length (lft size ws).toNat := by
  unfold parts outL
  apply List.map_congr_left
  intro i _
  congr 1
  by_cases c : (rk (rOf size (sumL ws) ws) ws.length i : Int) < lft size ws
  · rw [if_pos c, if_pos (by omega)]
  · rw [if_neg c, if_neg (by omega)]
theorem outL_zero (q r : Nat → Int) (n : Nat) : outL q r n 0 = (List.range n).map q := by
  unfold outL; apply List.map_congr_left; intro i _; simp
theorem restL_zero (r : Nat → Int) (n : Nat) : restL r n 0 = (List.range n).map r := by
  unfold restL; apply List.map_congr_left; intro i _; simp
theorem range_map_snoc (f : Nat → Int) (k : Nat) : (List.range (k + 1)).map f = (List.range k).map f ++ [f k] := by rw [List.range_succ, List.map_append]; rfl


theorem sumL_bd (ws : List Int) (h : ∀ i, i < ws.length → 0 ≤ ws[i]?.getD 0 ∧ ws[i]?.getD 0 ≤ 4000) (k : Nat) (hk : k ≤ ws.length) : 0 ≤ sumL (ws.take k) ∧ sumL (ws.take k) ≤ 4000 * (k : Int) := by
  induction k with
  | zero => simp [sumL]
  | succ k ih =>
    have ht : ws.take (k + 1) = ws.take k ++ [ws[k]?.getD 0] := by
      rw [List.take_add_one, List.getElem?_eq_getElem (by omega)]; rfl
    rw [ht, sumL_snoc]
    have := ih (by omega)
    have := h k (by omega)
    omega
theorem sumL_mono (ws : List Int) (h : ∀ i, i < ws.length → 0 ≤ ws[i]?.getD 0 ∧ ws[i]?.getD 0 ≤ 4000) (k : Nat) (hk : k ≤ ws.length) : sumL (ws.take k) ≤ sumL ws := by
  have key : ∀ d, k + d ≤ ws.length → sumL (ws.take k) ≤ sumL (ws.take (k + d)) := by
    intro d
    induction d with
    | zero => intro _; exact Int.le_refl _
    | succ d ih =>
      intro hd
      have ht : ws.take (k + d + 1) = ws.take (k + d) ++ [ws[k + d]?.getD 0] := by
        rw [List.take_add_one, List.getElem?_eq_getElem (by omega)]; rfl
      rw [← Nat.add_assoc, ht, sumL_snoc]
      have := ih (by omega)
      have := h (k + d) (by omega)
      omega
  have := key (ws.length - k) (by omega)
  rwa [show k + (ws.length - k) = ws.length by omega, List.take_length] at this
/-- What the walk is told of a part: all its numbers are in range. -/
theorem part_bd (size s x : Int) (h0 : 0 ≤ size) (h1 : size ≤ 1125899906842624) (hs : 0 < s) (hx : 0 ≤ x) (hx4 : x ≤ 4000) :
    0 ≤ size * x ∧ size * x ≤ 4503599627370496000 ∧ 0 ≤ size * x / s ∧ size * x / s ≤ 4503599627370496000 ∧ 0 ≤ size * x % s ∧ size * x % s < s := by
  have a : 0 ≤ size * x := Int.mul_nonneg h0 hx
  have b : size * x ≤ 1125899906842624 * 4000 := Int.mul_le_mul h1 hx4 hx (by omega)
  have c := Int.ediv_nonneg a (Int.le_of_lt hs)
  have d : size * x / s ≤ size * x := Int.ediv_le_self _ a
  exact ⟨a, by omega, c, by omega, Int.emod_nonneg _ (by omega), Int.emod_lt_of_pos _ hs⟩
theorem leftAt_bd (size : Int) (ws : List Int) (h0 : 0 ≤ size) (hs : 0 < sumL ws) (h : ∀ i, i < ws.length → 0 ≤ ws[i]?.getD 0 ∧ ws[i]?.getD 0 ≤ 4000) (k : Nat) (hk : k ≤ ws.length) :
    0 ≤ leftAt size (sumL ws) ws k ∧ leftAt size (sumL ws) ws k ≤ size := by
  constructor
  · have h1 := (left_bd size (sumL ws) ws hs k hk).1
    have h2 := sumL_mono ws h k hk
    have h3 : 0 ≤ size * (sumL ws - sumL (ws.take k)) := Int.mul_nonneg h0 (by omega)
    have h4 : 0 ≤ sumL ws * leftAt size (sumL ws) ws k := by omega
    exact Int.nonneg_of_mul_nonneg_right h4 hs
  · clear hk
    induction k with
    | zero => exact Int.le_refl _
    | succ k ih =>
      rw [leftAt]
      have : 0 ≤ qOf size (sumL ws) ws k := by
        unfold qOf
        refine Int.ediv_nonneg (Int.mul_nonneg h0 ?_) (Int.le_of_lt hs)
        by_cases e : k < ws.length
        · exact (h k e).1
        · rw [List.getElem?_eq_none (by omega)]; simp
      omega


/-- The first k of a list negated. -/
def negL (k : Nat) (l : List Int) : List Int := (l.take k).map (fun x => -x) ++ l.drop k
theorem negL_length (k : Nat) (l : List Int) : (negL k l).length = l.length := by simp [negL]; omega
theorem negL_zero (l : List Int) : negL 0 l = l := by simp [negL]
theorem negL_all (l : List Int) : negL l.length l = l.map (fun x => -x) := by simp [negL]
theorem negL_get (k : Nat) (l : List Int) (hk : k < l.length) : (negL k l)[k]?.getD 0 = l[k]?.getD 0 := by
  unfold negL
  rw [List.getElem?_append_right (by simp; omega)]
  simp [Nat.min_eq_left (Nat.le_of_lt hk)]
theorem negL_set (k : Nat) (l : List Int) (hk : k < l.length) : (negL k l).set k (-(l[k]?.getD 0)) = negL (k + 1) l := by
  unfold negL
  have e1 : ((l.take k).map (fun x => -x)).length = k := by simp; omega
  rw [List.set_append_right _ _ (by omega), e1, Nat.sub_self, List.drop_eq_getElem_cons hk, List.take_succ_eq_append_getElem hk, List.map_append, List.set_cons_zero, List.append_assoc]
  congr 1
  rw [List.getElem?_eq_getElem hk]
  rfl
theorem parts_length (size : Int) (ws : List Int) : (parts size ws).length = ws.length := by simp [parts]
theorem parts_bd (size : Int) (ws : List Int) (h0 : 0 ≤ size) (h1 : size ≤ 1125899906842624) (hs : 0 < sumL ws) (h : ∀ i, i < ws.length → 0 ≤ ws[i]?.getD 0 ∧ ws[i]?.getD 0 ≤ 4000) (i : Nat) (hi : i < ws.length) :
    0 ≤ (parts size ws)[i]?.getD 0 ∧ (parts size ws)[i]?.getD 0 ≤ 4503599627370496001 := by
  have hp := part_bd size (sumL ws) (ws[i]?.getD 0) h0 h1 hs (h i hi).1 (h i hi).2
  have e : (parts size ws)[i]?.getD 0 = qOf size (sumL ws) ws i + if (rk (rOf size (sumL ws) ws) ws.length i : Int) < lft size ws then 1 else 0 := by
    simp [parts, hi]
  rw [e]
  obtain ⟨_, _, h3, h4, _, _⟩ := hp
  have q3 : 0 ≤ qOf size (sumL ws) ws i := h3
  have q4 : qOf size (sumL ws) ws i ≤ 4503599627370496000 := h4
  split <;> omega
/-- The result of Split. -/
def splitOut (total : Int) (ws : List Int) : List Int := if total < 0 then (parts (-total) ws).map (fun x => -x) else parts total ws

end Go.Proofs.YtnikhbdjlipcbaaGreatDoor.Spl

namespace Go.Proofs.YtnikhbdjlipcbaaGreatDoor.Spl
open Go.RowKit

theorem infoI : (Tryz.prog.info? 3).map (fun i => (i.zero, i.size, i.bytes)) = some (some (.int .i64 0), 1, 8) := by kernel_rfl
def ints (l : List Int) : List Value := l.map (Value.int .i64)
theorem ints_length (l : List Int) : (ints l).length = l.length := by simp [ints]
theorem ints_get (l : List Int) (i : Nat) (hi : i < l.length) : (ints l)[i]? = some (.int .i64 (l[i]?.getD 0)) := by
  simp [ints, List.getElem?_eq_getElem hi]
theorem ints_set (l : List Int) (i : Nat) (x : Int) : (ints l).set i (.int .i64 x) = ints (l.set i x) := by simp [ints, List.map_set]
theorem ints_snoc (l : List Int) (x : Int) : ints l ++ [.int .i64 x] = ints (l ++ [x]) := by simp [ints]

/-- The weights are in range, and the total: the split is made. -/
structure Good (size : Int) (ws : List Int) : Prop where
  s0 : 0 ≤ size
  s1 : size ≤ 1125899906842624
  n1 : ws.length ≤ 100
  w1 : ∀ i, i < ws.length → 0 ≤ ws[i]?.getD 0 ∧ ws[i]?.getD 0 ≤ 4000
  s2 : 0 < sumL ws

/-- The weights as they lie in memory. -/
def Lies (w : World) (b o : Nat) (n : Nat) (l : List Int) : Prop := ∀ i, i < n → w.cell? ⟨b, o + i, none⟩ = some (.int .i64 (l[i]?.getD 0))

/-- Behind the loop that fills 'out' and 'rest'. -/
def FillRel (w : World) (size : Int) (ws : List Int) (n : Nat) (o r l i : Value) (wr : World) : Prop :=
  ∃ k : Nat, k ≤ n ∧ i = .int .i64 k ∧ l = .int .i64 (leftAt size (sumL ws) ws k) ∧
    wr.ownsRow w.heap.size 3 1 o k (ints ((List.range k).map (qOf size (sumL ws) ws))) ∧
    wr.ownsRow w.heap.size 3 1 r k (ints ((List.range k).map (rOf size (sumL ws) ws))) ∧
    (o.ownBlock = none ∨ o.ownBlock ≠ r.ownBlock) ∧ (r.ownBlock = none ∨ r.ownBlock ≠ o.ownBlock) ∧ Below w.heap.size w wr

/-- The split is made: a new row. -/
def SplitPost (w : World) (n : Nat) (l : List Int) (e : Ending) (w' : World) : Prop :=
  ∃ g cap, e = .returned (.tuple #[.slice (some ⟨g, 0, none⟩) n cap, .int .i64 0]) ∧ w.heap.size ≤ g ∧ n ≤ cap ∧ RowAt w' g 3 (ints l) ∧ Below w.heap.size w w'

/-- The loop that hands out what is left. -/
def HandRel (w : World) (size : Int) (ws : List Int) (n g1 g2 : Nat) (l : Value) (wr : World) : Prop :=
  ∃ t : Nat, (t : Int) ≤ lft size ws ∧ l = .int .i64 (lft size ws - t) ∧
    RowAt wr g1 3 (ints (outL (qOf size (sumL ws) ws) (rOf size (sumL ws) ws) n t)) ∧ RowAt wr g2 3 (ints (restL (rOf size (sumL ws) ws) n t)) ∧
    below (rOf size (sumL ws) ws) n t = t ∧ Below w.heap.size w wr
/-- The first greatest so far. -/
def BestRel (f : Nat → Int) (n : Nat) (w1 : World) (b i : Value) (wr : World) : Prop :=
  ∃ k m q : Nat, k ≤ n ∧ m < k ∧ b = .int .i64 m ∧ i = .int .i64 k ∧ wr = w1.drewN q ∧ (∀ j, j < k → f j ≤ f m) ∧ (∀ j, j < m → f j < f m)

def NegRel (w : World) (g n : Nat) (l : List Int) (i : Value) (wr : World) : Prop :=
  ∃ k : Nat, k ≤ n ∧ i = .int .i64 k ∧ RowAt wr g 3 (ints (negL k l)) ∧ Below w.heap.size w wr

end Go.Proofs.YtnikhbdjlipcbaaGreatDoor.Spl

namespace Go.Proofs.YtnikhbdjlipcbaaGreatDoor.Spl
open Go.RowKit

def NoSplit (w : World) (e : Ending) (w' : World) : Prop := e = .returned (.tuple #[.slice none 0 0, .int .i64 2]) ∧ w = w'

end Go.Proofs.YtnikhbdjlipcbaaGreatDoor.Spl
