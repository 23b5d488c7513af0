/-
  The program's Read of an amount's text. Condition: what the package-level variables hold; at most 100,000 bytes.
-/
import Derived.Test.YtnikhbdjlipcbaaDoorYf
import Derived.Lib.AtoiAllCases
import Derived.Lib.TrimByte
namespace Go.Proofs.YtnikhbdjlipcbaaDoor
open Go.RowKit Go.Shelf

def numF (n : Nat) (l : List UInt8) : Nat := l.foldl (fun n c => 10 * n + (c.toNat - 48)) n
theorem numF_le (l : List UInt8) : ∀ n, n ≤ numF n l := by
  induction l with
  | nil => intro n; exact Nat.le_refl _
  | cons c l ih => intro n; exact Nat.le_trans (by omega) (ih (10 * n + (c.toNat - 48)))
theorem isDig_iff {c : UInt8} : isDig c = true ↔ 48 ≤ c.toNat ∧ c.toNat ≤ 57 := by unfold isDig; simp
theorem parse_digs (l : List UInt8) : ∀ acc, acc < 18446744073709551616 → (∀ c ∈ l, isDig c = true) → Lib.parseUint10 acc l = if numF acc l < 18446744073709551616 then .ok (numF acc l) else .range := by
  induction l with
  | nil =>
    intro acc h _
    have e : numF acc [] = acc := rfl
    rw [e, if_pos h]; rfl
  | cons c l ih =>
    intro acc h hd
    have hc := isDig_iff.1 (hd c List.mem_cons_self)
    have e : numF acc (c :: l) = numF (10 * acc + (c.toNat - 48)) l := rfl
    have hle := numF_le l (10 * acc + (c.toNat - 48))
    simp only [Lib.parseUint10]
    rw [if_pos hc, e]
    by_cases h1 : 1844674407370955162 ≤ acc
    · rw [if_pos h1, if_neg (by omega)]
    · rw [if_neg h1]
      by_cases h2 : 18446744073709551616 ≤ acc * 10 + (c.toNat - 48)
      · rw [if_pos h2, if_neg (by omega)]
      · rw [if_neg h2, Nat.mul_comm acc 10]
        exact ih _ (by omega) fun x hx => hd x (List.mem_cons_of_mem _ hx)
theorem atoi_digs {l : List UInt8} (h0 : l ≠ []) (hd : ∀ c ∈ l, isDig c = true) : Lib.atoiAll l = if numL l < 9223372036854775808 then .ok (numL l : Int) else .range := by
  cases l with
  | nil => exact absurd rfl h0
  | cons c r =>
    have hc := isDig_iff.1 (hd c List.mem_cons_self)
    have e : numL (c :: r) = numF 0 (c :: r) := rfl
    rw [Lib.atoiAll_plain c r (by omega) (by omega)]
    unfold Lib.parseMag
    rw [if_neg (by simp), parse_digs _ 0 (by omega) hd, ← e]
    by_cases h1 : numL (c :: r) < 18446744073709551616
    · rw [if_pos h1]
      simp only [Lib.signless]
      by_cases h2 : numL (c :: r) < 9223372036854775808
      · rw [if_pos h2, if_neg (by omega)]
      · rw [if_neg h2, if_pos (by omega)]
    · rw [if_neg h1, if_neg (by omega)]; rfl
theorem trim_digs (l : List UInt8) (hd : ∀ c ∈ l, isDig c = true) : numL (Lib.trimLeftB l 48) = numL l ∧ (Lib.trimLeftB l 48 = [] ↔ numL l = 0) ∧ (∀ c ∈ Lib.trimLeftB l 48, isDig c = true) ∧ (Lib.trimLeftB l 48).length ≤ l.length := by
  induction l with
  | nil => exact ⟨rfl, by simp [Lib.trimLeftB, numL], by simp [Lib.trimLeftB], by simp [Lib.trimLeftB]⟩
  | cons c l ih =>
    have hc := isDig_iff.1 (hd c List.mem_cons_self)
    by_cases h : c = 48
    · subst h
      have e : Lib.trimLeftB (48 :: l) 48 = Lib.trimLeftB l 48 := by simp [Lib.trimLeftB]
      obtain ⟨h1, h2, h3, h4⟩ := ih fun x hx => hd x (List.mem_cons_of_mem _ hx)
      rw [e, numL_zero]
      exact ⟨h1, h2, h3, Nat.le_trans h4 (by simp)⟩
    · have e : Lib.trimLeftB (c :: l) 48 = c :: l := by simp [Lib.trimLeftB, h]
      have hne : c.toNat ≠ 48 := fun hh => h (UInt8.toNat_inj.1 (by rw [hh]; rfl))
      have hp : 1 ≤ numL (c :: l) := Nat.le_trans (show 1 ≤ 10 * 0 + (c.toNat - 48) by omega) (numF_le l _)
      rw [e]
      exact ⟨rfl, ⟨fun hh => (by cases hh), fun hh => (by omega)⟩, hd, Nat.le_refl _⟩

/-- The loop over digits. -/
def FgR (s : ByteArray) (i : Value) : Prop := ∃ k : Nat, k ≤ s.size ∧ i = .int .i64 (k : Int) ∧ ∀ c ∈ s.data.toList.take k, isDig c = true
def figsB (l : List UInt8) : Bool := decide (1 ≤ l.length) && l.all isDig
set_option maxHeartbeats 4000000 in
set_option maxRecDepth 100000 in
theorem figs_any (s : ByteArray) (w : World) (hs : s.size ≤ 1000000) : Calls Tryd.prog 38 #[.string s] w (RetB w (figsB s.data.toList)) := by
  have HST : Hid (FgR s (.int .i64 0)) := ⟨0, Nat.zero_le _, rfl, by simp⟩
  have HY : Hid ((∀ c ∈ s.data.toList, isDig c = true) → figsB s.data.toList = decide (0 < s.size)) := fun h => by
    unfold figsB
    rw [List.all_eq_true.2 h, Bool.and_true, data_len]
    congr 1
  have HN : Hid (∀ k (hk : k < s.size), isDig s[k] = false → figsB s.data.toList = false) := fun k hk h => by
    unfold figsB
    have : s.data.toList.all isDig = false := by
      cases hq : s.data.toList.all isDig with
      | false => rfl
      | true => rw [List.all_eq_true.1 hq _ (data_mem s k hk)] at h; cases h
    rw [this, Bool.and_false]
  go_enter Tryd.func38, Tryd.ntmps38
  go_wp2_with fail
  go_loop [6] (fun i => FgR s i) (fun i => s.size - (intOf i).toNat)
  case atStart => exact HST.out
  case round =>
    obtain ⟨k, hk, rfl, hd⟩ := hrel
    have HD := Lib.hid hd
    clear hd HST
    by_cases hlt : k < s.size
    · have HNK := Lib.hid (HN.out k hlt)
      have HDK : Hid (isDig s[k] = true → ∀ c ∈ s.data.toList.take (k + 1), isDig c = true) := fun h c hc => by
        rw [data_take s k hlt] at hc
        rcases List.mem_append.1 hc with hc | hc
        · exact HD.out c hc
        · rw [List.mem_singleton.1 hc]; exact h
      by_cases c1 : s[k].toNat < 48
      · have e := Lib.hid (HNK.out (by unfold isDig; simp; omega))
        clear HNK HDK HN HY HD
        go_wp2_with fail
        go_ret
        exact ⟨ret_bool e.out.symm, rfl⟩
      · by_cases c2 : 57 < s[k].toNat
        · have e := Lib.hid (HNK.out (by unfold isDig; simp; omega))
          clear HNK HDK HN HY HD
          go_wp2_with fail
          go_ret
          exact ⟨ret_bool e.out.symm, rfl⟩
        · have NX : Hid (FgR s (.int .i64 ((k : Int) + 1))) := ⟨k + 1, by omega, by congr 1, HDK.out (by unfold isDig; simp; omega)⟩
          clear HNK HDK HN HY HD
          go_wp2_with fail
          go_round
          case rel => simpa using NX.out
          case measure => simp [intOf]; omega
    · have e := Lib.hid (HY.out (by
        have := HD.out
        rwa [List.take_of_length_le (by rw [data_len]; omega)] at this))
      clear HN HY HD
      go_wp2_with fail
      go_ret
      exact ⟨ret_bool e.out.symm, rfl⟩
def preD (l : List UInt8) : List UInt8 := if l.head? = some 45 then l.tail else l
theorem prefix_one (l : List UInt8) : Lib.hasPrefix l [45] = decide (l.head? = some 45) := by
  cases l with
  | nil => rfl
  | cons c l =>
    by_cases h : c = 45
    · subst h; rfl
    · simp [Lib.hasPrefix, List.isPrefixOf, h, Ne.symm h]
set_option maxHeartbeats 4000000 in
set_option maxRecDepth 100000 in
theorem cutp_any (s : ByteArray) (w : World) : Calls Tryd.prog 37 #[.string s, .string ⟨#[45]⟩] w fun e w' => e = .returned (.tuple #[.string ⟨(preD s.data.toList).toArray⟩, .bool (decide (s.data.toList.head? = some 45))]) ∧ Below w.heap.size w w' := by
  have HP := Lib.hid (fun W => Tryd.stringslite_HasPrefix s ⟨#[45]⟩ W)
  rw [show (⟨#[45]⟩ : ByteArray).data.toList = [45] from rfl, prefix_one] at HP
  have HI : Hid (∀ W, Calls Tryd.prog 84 #[.string s, .string ⟨#[45]⟩] W fun e w' => e = .returned (.tuple #[.string ⟨(preD s.data.toList).toArray⟩, .bool (decide (s.data.toList.head? = some 45))]) ∧ Below W.heap.size W w') := fun W => by
    by_cases h : s.data.toList.head? = some 45
    · have hsz : 1 ≤ s.size := by
        rw [← data_len]
        cases hl : s.data.toList with
        | nil => rw [hl] at h; cases h
        | cons a b => simp
      have e : s.extract 1 s.size = ⟨(preD s.data.toList).toArray⟩ := Go.WideShapes.bytes_inj (by
        unfold preD
        rw [if_pos h, ext_data, List.take_of_length_le (by simp)]
        simp)
      have HE := Lib.hid e
      rw [decide_eq_true h] at HP ⊢
      clear h e
      go_enter Tryd.func84, Tryd.ntmps84
      go_wp2_with fail
      refine (HP.out _).mono ?_
      rintro e w' ⟨rfl, hw⟩
      rw [hw]
      clear hw
      go_wp2_with fail
      go_ret2
      exact ⟨by rw [← HE.out]; rfl, Below.refl _ _⟩
    · have e : s = ⟨(preD s.data.toList).toArray⟩ := Go.WideShapes.bytes_inj (by unfold preD; rw [if_neg h])
      have HE := Lib.hid e
      rw [decide_eq_false h] at HP ⊢
      clear h e
      go_enter Tryd.func84, Tryd.ntmps84
      go_wp2_with fail
      refine (HP.out _).mono ?_
      rintro e w' ⟨rfl, hw⟩
      rw [hw]
      clear hw
      go_wp2_with fail
      go_ret2
      exact ⟨by rw [← HE.out]; rfl, Below.refl _ _⟩
  clear HP
  go_enter Tryd.func37, Tryd.ntmps37
  go_wp2_with fail
  refine (HI.out _).mono ?_
  rintro e w' ⟨rfl, hb⟩
  have HB := Lib.hid hb
  clear hb
  go_wp2_with fail
  go_ret2
  exact ⟨rfl, HB.out⟩

end Go.Proofs.YtnikhbdjlipcbaaDoor
