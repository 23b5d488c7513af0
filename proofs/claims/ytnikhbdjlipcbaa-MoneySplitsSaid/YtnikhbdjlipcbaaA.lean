/-
  The small functions of money and its reference: amount, Sum, SameInts. No condition.
-/
import Derived.Test.YtnikhbdjlipcbaaRows
import Derived.Test.YtnikhbdjlipcbaaKit
namespace Go.Proofs.Ytnikhbdjlipcbaa
open Go.RowKit

def amtB (n : Int) : Bool := decide (-1125899906842624 ≤ n ∧ n ≤ 1125899906842624)

/-- A slice of ints, as it lies in memory. -/
def Ints (w : World) (v : Value) (l : List Int) : Prop :=
  ∃ a cap, v = .slice a l.length cap ∧ l.length ≤ cap ∧ ∀ i, i < l.length → ∃ b off, a = some ⟨b, off, none⟩ ∧ w.cell? ⟨b, off + i, none⟩ = some (.int .i64 (l.getD i 0))

set_option maxHeartbeats 400000 in
theorem amount_any (n : Int) (w : World) : Calls Try.prog 9 #[.int .i64 n] w fun e w' => e = .returned (.bool (amtB n)) ∧ w = w' := by
  by_cases h1 : -1125899906842624 ≤ n
  · by_cases h2 : n ≤ 1125899906842624
    · have hb : amtB n = true := by unfold amtB; simp; omega
      go_enter Try.func9, Try.ntmps9
      go_wp2
      go_ret
      exact ⟨ret_bool hb.symm, rfl⟩
    · have hb : amtB n = false := by unfold amtB; simp; omega
      go_enter Try.func9, Try.ntmps9
      go_wp2
      go_ret
      exact ⟨rfl, rfl⟩
  · have hb : amtB n = false := by unfold amtB; simp; omega
    go_enter Try.func9, Try.ntmps9
    go_wp2
    go_ret
    exact ⟨rfl, rfl⟩


set_option maxHeartbeats 400000 in
theorem amountR_any (n : Int) (w : World) : Calls Try.prog 12 #[.int .i64 n] w fun e w' => e = .returned (.bool (amtB n)) ∧ w = w' := by
  by_cases h1 : -1125899906842624 ≤ n
  · by_cases h2 : n ≤ 1125899906842624
    · have hb : amtB n = true := by unfold amtB; simp; omega
      go_enter Try.func12, Try.ntmps12
      go_wp2
      go_ret
      exact ⟨ret_bool hb.symm, rfl⟩
    · have hb : amtB n = false := by unfold amtB; simp; omega
      go_enter Try.func12, Try.ntmps12
      go_wp2
      go_ret
      exact ⟨rfl, rfl⟩
  · have hb : amtB n = false := by unfold amtB; simp; omega
    go_enter Try.func12, Try.ntmps12
    go_wp2
    go_ret
    exact ⟨rfl, rfl⟩

/-- A row of ints at an address. -/
def IntsAt (w : World) (b off : Nat) (l : List Int) : Prop := ∀ i, i < l.length → w.cell? ⟨b, off + i, none⟩ = some (.int .i64 (l.getD i 0))

theorem take_snoc' (l : List Int) (k : Nat) (h : k < l.length) : l.take (k + 1) = l.take k ++ [l[k]?.getD 0] := by
  rw [List.take_add_one, List.getElem?_eq_getElem h]; rfl

theorem same_false (l m : List Int) (k : Nat) (h : (l[k]?.getD 0 == m[k]?.getD 0) = false) : (l == m) = false := by
  rw [beq_eq_false_iff_ne]
  rintro rfl
  simp at h

theorem same_true (l m : List Int) (hlm : l.length = m.length) (h : l.take l.length = m.take l.length) : (l == m) = true := by
  rw [beq_iff_eq]
  rw [List.take_length, List.take_of_length_le (by omega)] at h
  exact h

set_option maxHeartbeats 400000 in
theorem same_ne (a1 a2 : Option Addr) (c1 c2 : Nat) (n m : Nat) (h : n ≠ m) (w : World) :
    Calls Try.prog 8 #[.slice a1 n c1, .slice a2 m c2] w fun e w' => e = .returned (.bool false) ∧ w = w' := by
  have hd : ((n : Int) == m) = false := by rw [beq_eq_false_iff_ne]; omega
  go_enter Try.func8, Try.ntmps8
  go_wp2
  go_ret
  exact ⟨rfl, rfl⟩


set_option maxHeartbeats 400000 in
theorem same_eq (b1 o1 b2 o2 c1 c2 n : Nat) (l m : List Int) (w : World) (hl : l.length = n) (hm : m.length = n) (hbig : n ≤ 9223372036854775807)
    (h1 : ∀ i, i < n → w.cell? ⟨b1, o1 + i, none⟩ = some (.int .i64 (l[i]?.getD 0))) (h2 : ∀ i, i < n → w.cell? ⟨b2, o2 + i, none⟩ = some (.int .i64 (m[i]?.getD 0))) :
    Calls Try.prog 8 #[.slice (some ⟨b1, o1, none⟩) n c1, .slice (some ⟨b2, o2, none⟩) n c2] w fun e w' => e = .returned (.bool (l == m)) ∧ ∃ q, w' = w.drewN q := by
  have HL := Lib.hid hl
  have HM := Lib.hid hm
  clear hl hm
  go_enter Try.func8, Try.ntmps8
  go_wp2
  go_loopw [5] (fun i wr => ∃ k q : Nat, k ≤ n ∧ i = .int .i64 k ∧ wr = w.drewN q ∧ Hid (l.take k = m.take k)) (fun i _ => n - (intOf i).toNat)
  case atStart => exact ⟨0, 0, Nat.zero_le _, rfl, rfl, rfl⟩
  case round =>
    obtain ⟨k, q, hk, rfl, rfl, hT⟩ := hrel
    by_cases hlt : k < n
    · have g1 := h1 k hlt
      have g2 := h2 k hlt
      clear h1 h2
      by_cases he : (l[k]?.getD 0 == m[k]?.getD 0) = true
      · have hT' : Hid (l.take (k + 1) = m.take (k + 1)) := by
          have a := HL.out; have b := HM.out; have c := hT.out
          show l.take (k + 1) = m.take (k + 1)
          rw [take_snoc' l k (by omega), take_snoc' m k (by omega), c, beq_iff_eq.1 he]
        have hn : (l[k]?.getD 0 != m[k]?.getD 0) = false := by simpa using he
        go_wp2
        go_quiet (fail)
        go_wp2
        go_roundw
        case rel => exact ⟨k + 1, _, by omega, by go_num, rfl, hT'⟩
        case measure => simp [intOf]; omega
      · have hf : (l == m) = false := same_false l m k (by simpa using he)
        have hn : (l[k]?.getD 0 != m[k]?.getD 0) = true := by simpa using he
        have hn' : (l[k]?.getD 0 == m[k]?.getD 0) = false := by simpa using he
        have HF := Lib.hid hf
        clear hf he
        go_wp2
        go_quiet (fail)
        go_wp2
        go_ret
        exact ⟨ret_bool HF.out.symm, _, World.drewN_drewN _ _ _⟩
    · have ht : (l == m) = true := by
        have a := HL.out; have b := HM.out; have c := hT.out
        have e : k = n := by omega
        exact same_true l m (by omega) (by rw [a, ← e]; exact c)
      have HT := Lib.hid ht
      clear ht h1 h2
      go_wp2
      go_ret
      exact ⟨ret_bool HT.out.symm, _, rfl⟩


/-! ### Sum -/
def sumOf (l : List Int) : Int := l.foldl (· + ·) 0
def allAmt (l : List Int) : Bool := l.all amtB
def sumN (l : List Int) : Int := if l.length ≤ 5000 ∧ allAmt l = true ∧ amtB (sumOf l) = true then sumOf l else 0
def sumE (l : List Int) : Int := if 5000 < l.length then 4 else if allAmt l = false then 2 else if amtB (sumOf l) = false then 14 else 0

theorem sumOf_snoc (l : List Int) (x : Int) : sumOf (l ++ [x]) = sumOf l + x := by simp [sumOf]
theorem amtB_true {n : Int} (h : amtB n = true) : -1125899906842624 ≤ n ∧ n ≤ 1125899906842624 := by unfold amtB at h; simpa using h
theorem allAmt_snoc (l : List Int) (x : Int) : allAmt (l ++ [x]) = (allAmt l && amtB x) := by simp [allAmt]
theorem sum_bd (l : List Int) (h : allAmt l = true) : -(1125899906842624 * (l.length : Int)) ≤ sumOf l ∧ sumOf l ≤ 1125899906842624 * (l.length : Int) := by
  generalize hn : l.length = n
  induction n generalizing l with
  | zero => have : l = [] := List.eq_nil_of_length_eq_zero hn
            subst this; simp [sumOf]
  | succ n ih =>
    have hne : l ≠ [] := by rintro rfl; simp at hn
    obtain ⟨m, x, rfl⟩ : ∃ m x, l = m ++ [x] := ⟨l.dropLast, l.getLast hne, (List.dropLast_concat_getLast hne).symm⟩
    rw [allAmt_snoc] at h
    simp only [Bool.and_eq_true] at h
    have h1 := ih m h.1 (by simpa using hn)
    have h2 := amtB_true h.2
    rw [sumOf_snoc]
    omega
theorem allAmt_false (l : List Int) (k : Nat) (hk : k < l.length) (h : amtB (l[k]?.getD 0) = false) : allAmt l = false := by
  unfold allAmt
  rw [List.all_eq_false]
  refine ⟨l[k], List.getElem_mem hk, ?_⟩
  rw [List.getElem?_eq_getElem hk] at h
  simpa using h


theorem sum_long (l : List Int) (h : 5000 < l.length) : sumN l = 0 ∧ sumE l = 4 := ⟨by unfold sumN; rw [if_neg (by omega)], by unfold sumE; rw [if_pos h]⟩
theorem sum_bad (l : List Int) (h : l.length ≤ 5000) (h2 : allAmt l = false) : sumN l = 0 ∧ sumE l = 2 := ⟨by unfold sumN; rw [if_neg (by simp [h2])], by unfold sumE; rw [if_neg (by omega), if_pos h2]⟩
theorem sum_big (l : List Int) (h : l.length ≤ 5000) (h2 : allAmt l = true) (h3 : amtB (sumOf l) = false) : sumN l = 0 ∧ sumE l = 14 := ⟨by unfold sumN; rw [if_neg (by simp [h3])], by unfold sumE; rw [if_neg (by omega), if_neg (by simp [h2]), if_pos h3]⟩
theorem sum_ok (l : List Int) (h : l.length ≤ 5000) (h2 : allAmt l = true) (h3 : amtB (sumOf l) = true) : sumN l = sumOf l ∧ sumE l = 0 := ⟨by unfold sumN; rw [if_pos ⟨h, h2, h3⟩], by unfold sumE; rw [if_neg (by omega), if_neg (by simp [h2]), if_neg (by simp [h3])]⟩

def SumPost (l : List Int) (w : World) (e : Ending) (w' : World) : Prop := e = .returned (.tuple #[.int .i64 (sumN l), .int .i64 (sumE l)]) ∧ w = w'

set_option maxHeartbeats 400000 in
theorem sum_go (b o c n : Nat) (l : List Int) (w : World) (hl : l.length = n) (hbig : n ≤ 9223372036854775807)
    (h1 : ∀ i, i < n → w.cell? ⟨b, o + i, none⟩ = some (.int .i64 (l[i]?.getD 0))) :
    Calls Try.prog 6 #[.slice (some ⟨b, o, none⟩) n c] w (SumPost l w) := by
  by_cases h5 : n ≤ 5000
  · have HL := Lib.hid hl
    clear hl
    go_enter Try.func6, Try.ntmps6
    go_wp2
    go_loop [4, 6, 12] (fun s x i => ∃ k : Nat, k ≤ n ∧ i = .int .i64 k ∧ s = .int .i64 (sumOf (l.take k)) ∧ Hid (allAmt (l.take k) = true)) (fun _ _ i => n - (intOf i).toNat)
    case atStart => exact ⟨0, Nat.zero_le _, rfl, rfl, rfl⟩
    case round =>
      obtain ⟨k, hk, rfl, rfl, hT⟩ := hrel
      have hbd := sum_bd (l.take k) hT.out
      have hlk : (l.take k).length = k := by have := HL.out; simp; omega
      rw [hlk] at hbd
      clear hlk
      obtain ⟨bd1, bd2⟩ := hbd
      by_cases hlt : k < n
      · have g1 := h1 k hlt
        clear h1
        by_cases ha : amtB (l[k]?.getD 0) = true
        · have bd3 := amtB_true ha
          obtain ⟨bd3, bd4⟩ := bd3
          have hs : Hid (sumOf (l.take (k + 1)) = sumOf (l.take k) + l[k]?.getD 0 ∧ allAmt (l.take (k + 1)) = true) := by
            have a := HL.out
            show _ ∧ _
            rw [take_snoc' l k (by omega), sumOf_snoc, allAmt_snoc, hT.out, ha]
            exact ⟨rfl, rfl⟩
          go_wp2_with (go_at_call 9; refine (amount_any _ _).mono ?_; rintro e w' ⟨rfl, rfl⟩)
          go_round
          case rel => exact ⟨k + 1, by omega, by go_num, by rw [hs.out.1], hs.out.2⟩
          case measure => simp [intOf]; omega
        · have ha : amtB (l[k]?.getD 0) = false := by simpa using ha
          have hb := Lib.hid (sum_bad l (by have := HL.out; omega) (allAmt_false l k (by have := HL.out; omega) ha))
          go_wp2_with (go_at_call 9; refine (amount_any _ _).mono ?_; rintro e w' ⟨rfl, rfl⟩)
          go_ret2
          exact ⟨ret_two hb.out.1.symm hb.out.2.symm, rfl⟩
      · have hlen : Hid (l.take k = l) := by have := HL.out; exact List.take_of_length_le (by omega)
        clear h1
        by_cases ha : amtB (sumOf (l.take k)) = true
        · have hb : Hid (sumN l = sumOf (l.take k) ∧ sumE l = 0) := by
            have e := hlen.out; have t := hT.out; have a := ha; rw [e] at a t; show _ ∧ _; rw [e]; exact sum_ok l (by have := HL.out; omega) t a
          go_wp2_with (go_at_call 9; refine (amount_any _ _).mono ?_; rintro e w' ⟨rfl, rfl⟩)
          go_ret2
          exact ⟨ret_two hb.out.1.symm hb.out.2.symm, rfl⟩
        · have ha : amtB (sumOf (l.take k)) = false := by simpa using ha
          have hb : Hid (sumN l = 0 ∧ sumE l = 14) := by
            have e := hlen.out; have t := hT.out; have a := ha; rw [e] at a t; show _ ∧ _; exact sum_big l (by have := HL.out; omega) t a
          go_wp2_with (go_at_call 9; refine (amount_any _ _).mono ?_; rintro e w' ⟨rfl, rfl⟩)
          go_ret2
          exact ⟨ret_two hb.out.1.symm hb.out.2.symm, rfl⟩
  · have hb := Lib.hid (sum_long l (by omega))
    clear hl h1
    go_enter Try.func6, Try.ntmps6
    go_wp2
    go_ret2
    exact ⟨ret_two hb.out.1.symm hb.out.2.symm, rfl⟩


set_option maxHeartbeats 400000 in
theorem sum_ref (b o c n : Nat) (l : List Int) (w : World) (hl : l.length = n) (hbig : n ≤ 9223372036854775807)
    (h1 : ∀ i, i < n → w.cell? ⟨b, o + i, none⟩ = some (.int .i64 (l[i]?.getD 0))) :
    Calls Try.prog 7 #[.slice (some ⟨b, o, none⟩) n c] w (SumPost l w) := by
  by_cases h5 : n ≤ 5000
  · have HL := Lib.hid hl
    clear hl
    go_enter Try.func7, Try.ntmps7
    go_wp2
    go_loop [4] (fun i => ∃ k : Nat, k ≤ n ∧ i = .int .i64 k ∧ Hid (allAmt (l.take k) = true)) (fun i => n - (intOf i).toNat)
    case atStart => exact ⟨0, Nat.zero_le _, rfl, rfl⟩
    case round =>
      obtain ⟨k, hk, rfl, hT⟩ := hrel
      by_cases hlt : k < n
      · have g1 := h1 k hlt
        clear h1
        by_cases ha : amtB (l[k]?.getD 0) = true
        · have hs : Hid (allAmt (l.take (k + 1)) = true) := by
            have a := HL.out
            show allAmt _ = true
            rw [take_snoc' l k (by omega), allAmt_snoc, hT.out, ha]
            rfl
          go_wp2_with (go_at_call 12; refine (amountR_any _ _).mono ?_; rintro e w' ⟨rfl, rfl⟩)
          go_round
          case rel => exact ⟨k + 1, by omega, by go_num, hs⟩
          case measure => simp [intOf]; omega
        · have ha : amtB (l[k]?.getD 0) = false := by simpa using ha
          have hb := Lib.hid (sum_bad l (by have := HL.out; omega) (allAmt_false l k (by have := HL.out; omega) ha))
          go_wp2_with (go_at_call 12; refine (amountR_any _ _).mono ?_; rintro e w' ⟨rfl, rfl⟩)
          go_ret2
          exact ⟨ret_two hb.out.1.symm hb.out.2.symm, rfl⟩
      · have hlen : Hid (l.take k = l) := by have := HL.out; exact List.take_of_length_le (by omega)
        go_wp2_with fail
        go_loop [5, 6] (fun s i => ∃ k : Nat, k ≤ n ∧ i = .int .i64 k ∧ s = .int .i64 (sumOf (l.take k))) (fun _ i => n - (intOf i).toNat)
        case atStart => exact ⟨0, Nat.zero_le _, rfl, rfl⟩
        case round =>
          obtain ⟨j, hj, rfl, rfl⟩ := hrel
          have hbd := sum_bd (l.take j) (by
            have t := hT.out; rw [hlen.out] at t
            unfold allAmt at t ⊢
            rw [List.all_eq_true] at t ⊢
            exact fun x hx => t x (List.mem_of_mem_take hx))
          have hlk : (l.take j).length = j := by have := HL.out; simp; omega
          rw [hlk] at hbd
          clear hlk
          obtain ⟨bd1, bd2⟩ := hbd
          by_cases hlt2 : j < n
          · have g1 := h1 j hlt2
            have ha : amtB (l[j]?.getD 0) = true := by
              have t := hT.out; rw [hlen.out] at t
              unfold allAmt at t
              rw [List.all_eq_true] at t
              have a := HL.out
              have hj' : j < l.length := by omega
              rw [List.getElem?_eq_getElem hj']
              exact t _ (List.getElem_mem hj')
            obtain ⟨bd3, bd4⟩ := amtB_true ha
            have hs : Hid (sumOf (l.take (j + 1)) = sumOf (l.take j) + l[j]?.getD 0) := by
              have a := HL.out
              show _ = _
              rw [take_snoc' l j (by omega), sumOf_snoc]
            clear h1 ha
            go_wp2_with fail
            go_round
            case rel => exact ⟨j + 1, by omega, by go_num, by rw [hs.out]⟩
            case measure => simp [intOf]; omega
          · have hlen2 : Hid (l.take j = l) := by have := HL.out; exact List.take_of_length_le (by omega)
            clear h1
            by_cases ha : amtB (sumOf (l.take j)) = true
            · have hb : Hid (sumN l = sumOf (l.take j) ∧ sumE l = 0) := by
                have e := hlen.out; have e2 := hlen2.out; have t := hT.out; have a := ha; rw [e2] at a; rw [e] at t; show _ ∧ _; rw [e2]; exact sum_ok l (by have := HL.out; omega) t a
              go_wp2_with (go_at_call 12; refine (amountR_any _ _).mono ?_; rintro e w' ⟨rfl, rfl⟩)
              go_ret2
              exact ⟨ret_two hb.out.1.symm hb.out.2.symm, rfl⟩
            · have ha : amtB (sumOf (l.take j)) = false := by simpa using ha
              have hb : Hid (sumN l = 0 ∧ sumE l = 14) := by
                have e := hlen.out; have e2 := hlen2.out; have t := hT.out; have a := ha; rw [e2] at a; rw [e] at t; show _ ∧ _; exact sum_big l (by have := HL.out; omega) t a
              go_wp2_with (go_at_call 12; refine (amountR_any _ _).mono ?_; rintro e w' ⟨rfl, rfl⟩)
              go_ret2
              exact ⟨ret_two hb.out.1.symm hb.out.2.symm, rfl⟩
  · have hb := Lib.hid (sum_long l (by omega))
    clear hl h1
    go_enter Try.func7, Try.ntmps7
    go_wp2
    go_ret2
    exact ⟨ret_two hb.out.1.symm hb.out.2.symm, rfl⟩

/-- No element: whatever the slice's address. -/
theorem sum_go_nil (a : Option Addr) (c : Nat) (w : World) : Calls Try.prog 6 #[.slice a 0 c] w (SumPost [] w) := by
  have h0 : amtB 0 = true := by decide
  go_enter Try.func6, Try.ntmps6
  go_wp2
  refine wp_loop_rounds 1 ?_
  rw [rounds_succ]
  go_wp2_with (go_at_call 9; refine (amount_any _ _).mono ?_; rintro e w' ⟨rfl, rfl⟩)
  go_ret2
  exact ⟨rfl, rfl⟩
theorem sum_ref_nil (a : Option Addr) (c : Nat) (w : World) : Calls Try.prog 7 #[.slice a 0 c] w (SumPost [] w) := by
  have h0 : amtB 0 = true := by decide
  go_enter Try.func7, Try.ntmps7
  go_wp2
  refine wp_loop_rounds 1 ?_
  rw [rounds_succ]
  go_wp2_with fail
  refine wp_loop_rounds 1 ?_
  rw [rounds_succ]
  go_wp2_with (go_at_call 12; refine (amountR_any _ _).mono ?_; rintro e w' ⟨rfl, rfl⟩)
  go_ret2
  exact ⟨rfl, rfl⟩

end Go.Proofs.Ytnikhbdjlipcbaa
