/-
  The program's Read of an amount's text. Condition: what the package-level variables hold; at most 100,000 bytes. The program's Read of an amount's text, walked. Condition: the contracts of the callees, as hypotheses. The program's Read at any text. Condition: what the package-level variables hold; at most 100,000 bytes.
-/
import Derived.Test.YtnikhbdjlipcbaaGreatDoorVy
import Derived.Lib.AtoiAllCases
import Derived.Lib.TrimByte
namespace Go.Proofs.YtnikhbdjlipcbaaGreatDoor
open Go.RowKit Go.Shelf

def numF (n : Nat) (l : List UInt8) : Nat := l.foldl (fun n c => 10 * n + (c.toNat - 48)) n
theorem numF_le (l : List UInt8) : ∀ n, n ≤ numF n l := by
  induction l with
  | nil => intro n; exact Nat.le_refl _
  | cons c l ih => intro n; exact Nat.le_trans (by omega) (ih (10 * n + (c.toNat - 48)))
theorem isDig_iff {c : UInt8} : isDig c = true ↔ 48 ≤ c.toNat ∧ c.toNat ≤ 57 := by unfold isDig; simp
theorem parse_digs (l : List UInt8) : ∀ acc, acc < 18446744073709551616 → (∀ c ∈ l, isDig c = true) → Lib.parseUint10 acc l = if numF acc l < 18446744073709551616 then .ok (numF acc l) else .range := by
  induction l with
  | nil =>
    intro acc h _
    have e : numF acc [] = acc := rfl
    rw [e, if_pos h]; rfl
  | cons c l ih =>
    intro acc h hd
    have hc := isDig_iff.1 (hd c List.mem_cons_self)
    have e : numF acc (c :: l) = numF (10 * acc + (c.toNat - 48)) l := rfl
    have hle := numF_le l (10 * acc + (c.toNat - 48))
    simp only [Lib.parseUint10]
    rw [if_pos hc, e]
    by_cases h1 : 1844674407370955162 ≤ acc
    · rw [if_pos h1, if_neg (by omega)]
    · rw [if_neg h1]
      by_cases h2 : 18446744073709551616 ≤ acc * 10 + (c.toNat - 48)
      · rw [if_pos h2, if_neg (by omega)]
      · rw [if_neg h2, Nat.mul_comm acc 10]
        exact ih _ (by omega) fun x hx => hd x (List.mem_cons_of_mem _ hx)
theorem atoi_digs {l : List UInt8} (h0 : l ≠ []) (hd : ∀ c ∈ l, isDig c = true) : Lib.atoiAll l = if numL l < 9223372036854775808 then .ok (numL l : Int) else .range := by
  cases l with
  | nil => exact absurd rfl h0
  | cons c r =>
    have hc := isDig_iff.1 (hd c List.mem_cons_self)
    have e : numL (c :: r) = numF 0 (c :: r) := rfl
    rw [Lib.atoiAll_plain c r (by omega) (by omega)]
    unfold Lib.parseMag
    rw [if_neg (by simp), parse_digs _ 0 (by omega) hd, ← e]
    by_cases h1 : numL (c :: r) < 18446744073709551616
    · rw [if_pos h1]
      simp only [Lib.signless]
      by_cases h2 : numL (c :: r) < 9223372036854775808
      · rw [if_pos h2, if_neg (by omega)]
      · rw [if_neg h2, if_pos (by omega)]
    · rw [if_neg h1, if_neg (by omega)]; rfl
theorem trim_digs (l : List UInt8) (hd : ∀ c ∈ l, isDig c = true) : numL (Lib.trimLeftB l 48) = numL l ∧ (Lib.trimLeftB l 48 = [] ↔ numL l = 0) ∧ (∀ c ∈ Lib.trimLeftB l 48, isDig c = true) ∧ (Lib.trimLeftB l 48).length ≤ l.length := by
  induction l with
  | nil => exact ⟨rfl, by simp [Lib.trimLeftB, numL], by simp [Lib.trimLeftB], by simp [Lib.trimLeftB]⟩
  | cons c l ih =>
    have hc := isDig_iff.1 (hd c List.mem_cons_self)
    by_cases h : c = 48
    · subst h
      have e : Lib.trimLeftB (48 :: l) 48 = Lib.trimLeftB l 48 := by simp [Lib.trimLeftB]
      obtain ⟨h1, h2, h3, h4⟩ := ih fun x hx => hd x (List.mem_cons_of_mem _ hx)
      rw [e, numL_zero]
      exact ⟨h1, h2, h3, Nat.le_trans h4 (by simp)⟩
    · have e : Lib.trimLeftB (c :: l) 48 = c :: l := by simp [Lib.trimLeftB, h]
      have hne : c.toNat ≠ 48 := fun hh => h (UInt8.toNat_inj.1 (by rw [hh]; rfl))
      have hp : 1 ≤ numL (c :: l) := Nat.le_trans (show 1 ≤ 10 * 0 + (c.toNat - 48) by omega) (numF_le l _)
      rw [e]
      exact ⟨rfl, ⟨fun hh => (by cases hh), fun hh => (by omega)⟩, hd, Nat.le_refl _⟩

/-- The loop over digits. -/
def FgR (s : ByteArray) (i : Value) : Prop := ∃ k : Nat, k ≤ s.size ∧ i = .int .i64 (k : Int) ∧ ∀ c ∈ s.data.toList.take k, isDig c = true
def figsB (l : List UInt8) : Bool := decide (1 ≤ l.length) && l.all isDig
set_option maxHeartbeats 4000000 in
set_option maxRecDepth 100000 in
theorem figs_any (s : ByteArray) (w : World) (hs : s.size ≤ 1000000) : Calls Tryz.prog 30 #[.string s] w (RetB w (figsB s.data.toList)) := by
  have HST : Hid (FgR s (.int .i64 0)) := ⟨0, Nat.zero_le _, rfl, by simp⟩
  have HY : Hid ((∀ c ∈ s.data.toList, isDig c = true) → figsB s.data.toList = decide (0 < s.size)) := fun h => by
    unfold figsB
    rw [List.all_eq_true.2 h, Bool.and_true, data_len]
    congr 1
  have HN : Hid (∀ k (hk : k < s.size), isDig s[k] = false → figsB s.data.toList = false) := fun k hk h => by
    unfold figsB
    have : s.data.toList.all isDig = false := by
      cases hq : s.data.toList.all isDig with
      | false => rfl
      | true => rw [List.all_eq_true.1 hq _ (data_mem s k hk)] at h; cases h
    rw [this, Bool.and_false]
  go_enter Tryz.func30, Tryz.ntmps30
  go_wp2_with fail
  go_loop [6] (fun i => FgR s i) (fun i => s.size - (intOf i).toNat)
  case atStart => exact HST.out
  case round =>
    obtain ⟨k, hk, rfl, hd⟩ := hrel
    have HD := Lib.hid hd
    clear hd HST
    by_cases hlt : k < s.size
    · have HNK := Lib.hid (HN.out k hlt)
      have HDK : Hid (isDig s[k] = true → ∀ c ∈ s.data.toList.take (k + 1), isDig c = true) := fun h c hc => by
        rw [data_take s k hlt] at hc
        rcases List.mem_append.1 hc with hc | hc
        · exact HD.out c hc
        · rw [List.mem_singleton.1 hc]; exact h
      by_cases c1 : s[k].toNat < 48
      · have e := Lib.hid (HNK.out (by unfold isDig; simp; omega))
        clear HNK HDK HN HY HD
        go_wp2_with fail
        go_ret
        exact ⟨ret_bool e.out.symm, rfl⟩
      · by_cases c2 : 57 < s[k].toNat
        · have e := Lib.hid (HNK.out (by unfold isDig; simp; omega))
          clear HNK HDK HN HY HD
          go_wp2_with fail
          go_ret
          exact ⟨ret_bool e.out.symm, rfl⟩
        · have NX : Hid (FgR s (.int .i64 ((k : Int) + 1))) := ⟨k + 1, by omega, by congr 1, HDK.out (by unfold isDig; simp; omega)⟩
          clear HNK HDK HN HY HD
          go_wp2_with fail
          go_round
          case rel => simpa using NX.out
          case measure => simp [intOf]; omega
    · have e := Lib.hid (HY.out (by
        have := HD.out
        rwa [List.take_of_length_le (by rw [data_len]; omega)] at this))
      clear HN HY HD
      go_wp2_with fail
      go_ret
      exact ⟨ret_bool e.out.symm, rfl⟩
def preD (l : List UInt8) : List UInt8 := if l.head? = some 45 then l.tail else l
theorem prefix_one (l : List UInt8) : Lib.hasPrefix l [45] = decide (l.head? = some 45) := by
  cases l with
  | nil => rfl
  | cons c l =>
    by_cases h : c = 45
    · subst h; rfl
    · simp [Lib.hasPrefix, List.isPrefixOf, h, Ne.symm h]
set_option maxHeartbeats 4000000 in
set_option maxRecDepth 100000 in
theorem cutp_any (s : ByteArray) (w : World) : Calls Tryz.prog 29 #[.string s, .string ⟨#[45]⟩] w fun e w' => e = .returned (.tuple #[.string ⟨(preD s.data.toList).toArray⟩, .bool (decide (s.data.toList.head? = some 45))]) ∧ Below w.heap.size w w' := by
  have HP := Lib.hid (fun W => Tryz.stringslite_HasPrefix s ⟨#[45]⟩ W)
  rw [show (⟨#[45]⟩ : ByteArray).data.toList = [45] from rfl, prefix_one] at HP
  have HI : Hid (∀ W, Calls Tryz.prog 58 #[.string s, .string ⟨#[45]⟩] W fun e w' => e = .returned (.tuple #[.string ⟨(preD s.data.toList).toArray⟩, .bool (decide (s.data.toList.head? = some 45))]) ∧ Below W.heap.size W w') := fun W => by
    by_cases h : s.data.toList.head? = some 45
    · have hsz : 1 ≤ s.size := by
        rw [← data_len]
        cases hl : s.data.toList with
        | nil => rw [hl] at h; cases h
        | cons a b => simp
      have e : s.extract 1 s.size = ⟨(preD s.data.toList).toArray⟩ := Go.WideShapes.bytes_inj (by
        unfold preD
        rw [if_pos h, ext_data, List.take_of_length_le (by simp)]
        simp)
      have HE := Lib.hid e
      rw [decide_eq_true h] at HP ⊢
      clear h e
      go_enter Tryz.func58, Tryz.ntmps58
      go_wp2_with fail
      refine (HP.out _).mono ?_
      rintro e w' ⟨rfl, hw⟩
      rw [hw]
      clear hw
      go_wp2_with fail
      go_ret2
      exact ⟨by rw [← HE.out]; rfl, Below.refl _ _⟩
    · have e : s = ⟨(preD s.data.toList).toArray⟩ := Go.WideShapes.bytes_inj (by unfold preD; rw [if_neg h])
      have HE := Lib.hid e
      rw [decide_eq_false h] at HP ⊢
      clear h e
      go_enter Tryz.func58, Tryz.ntmps58
      go_wp2_with fail
      refine (HP.out _).mono ?_
      rintro e w' ⟨rfl, hw⟩
      rw [hw]
      clear hw
      go_wp2_with fail
      go_ret2
      exact ⟨by rw [← HE.out]; rfl, Below.refl _ _⟩
  clear HP
  go_enter Tryz.func29, Tryz.ntmps29
  go_wp2_with fail
  refine (HI.out _).mono ?_
  rintro e w' ⟨rfl, hb⟩
  have HB := Lib.hid hb
  clear hb
  go_wp2_with fail
  go_ret2
  exact ⟨rfl, HB.out⟩

end Go.Proofs.YtnikhbdjlipcbaaGreatDoor

namespace Go.Proofs.YtnikhbdjlipcbaaGreatDoor
open Go.RowKit Go.Shelf

def R3 (w : World) (n : Int) (c : ByteArray) (x : Int) (e : Ending) (w' : World) : Prop := e = .returned (.tuple #[.int .i64 n, .string c, .int .i64 x]) ∧ Below w.heap.size w w'
def Ca (f : FuncId) (args : Array Value) (v : Value) : Prop := ∀ W : World, Calls Tryz.prog f args W fun e w' => e = .returned v ∧ Below W.heap.size W w'
theorem ret_three {a b x y : Int} {c d : ByteArray} (h1 : a = b) (h2 : c = d) (h3 : x = y) : Ending.returned (.tuple #[.int .i64 a, .string c, .int .i64 x]) = .returned (.tuple #[.int .i64 b, .string d, .int .i64 y]) := by rw [h1, h2, h3]
set_option maxHeartbeats 8000000 in
set_option maxRecDepth 100000 in
theorem mread_unit (s num ccy : ByteArray) (b1 : Bool) (w : World) (HC1 : Hid (∀ W, Calls Tryz.prog 28 #[.string s, .string ⟨#[32]⟩] W (CutQ W num ccy b1))) (HU : Hid (∀ W, Calls Tryz.prog 14 #[.string ccy] W (UnitP W none))) : Calls Tryz.prog 11 #[.string s] w (R3 w 0 ⟨#[]⟩ 12) := by
  go_enter Tryz.func11, Tryz.ntmps11
  go_wp2_with fail
  refine (HC1.out _).mono ?_
  rintro e w1 ⟨rfl, b1'⟩
  have B1 := Lib.hid b1'
  clear b1'
  go_wp2_with fail
  refine (HU.out _).mono ?_
  rintro e w2 ⟨rfl, b2⟩
  have B2 := Lib.hid (B1.out.trans (b2.mono B1.out.size))
  clear b2
  go_wp2_with fail
  go_ret3
  exact ⟨rfl, B2.out⟩
set_option maxHeartbeats 8000000 in
set_option maxRecDepth 100000 in
theorem mread_go (s num ccy d Wh Pa T : ByteArray) (b1 minus pt f1 f2 ok : Bool) (u V : Nat) (rn re : Int) (rc : ByteArray) (w : World) (HC1 : Hid (∀ W, Calls Tryz.prog 28 #[.string s, .string ⟨#[32]⟩] W (CutQ W num ccy b1)))
    (ui : Int) (hui : Hid (ui = (u : Int))) (hui0 : 0 ≤ ui) (hui3 : ui ≤ 3) (HU : Hid (Ca 14 #[.string ccy] (.tuple #[.int .i64 ui, .int .i64 0])))
    (HP : Hid (Ca 29 #[.string num, .string ⟨#[45]⟩] (.tuple #[.string d, .bool minus])))
    (HC2 : Hid (∀ W, Calls Tryz.prog 28 #[.string d, .string ⟨#[46]⟩] W (CutQ W Wh Pa pt)))
    (HF1 : Hid (∀ W, Calls Tryz.prog 30 #[.string Wh] W (RetB W f1)))
    (HF2 : Hid (∀ W, Calls Tryz.prog 30 #[.string Pa] W (RetB W f2)))
    (hW : Wh.size ≤ 1000000) (hPa : Pa.size ≤ 1000000) (hf1 : f1 = true → 1 ≤ Wh.size)
    (HOK : Hid (∀ z : Bool, (1 < Wh.size → ∀ h : 0 < Wh.size, z = ((Wh[0].toNat : Int) == 48)) → (¬1 < Wh.size → z = false) → ok = (f1 && !z && (pt == decide (0 < u)) && decide (Pa.size = u) && (!decide (0 < u) || f2))))
    (HTL : Hid (ok = true → Ca 31 #[.string (Wh ++ Pa), .string ⟨#[48]⟩] (.string T)))
    (HT0 : Hid (ok = true → (T.toList == []) = decide (V = 0)))
    (HA1 : Hid (ok = true → 0 < V → V < 9223372036854775808 → Ca 32 #[.string T] (.tuple #[.int .i64 (V : Int), .nilIface])))
    (HA2 : Hid (ok = true → ¬V < 9223372036854775808 → ∀ W, Below w.heap.size w W → Calls Tryz.prog 32 #[.string T] W fun e w' => (∃ (q : Int) (N : Nat), e = .returned (.tuple #[.int .i64 q, .iface 141 (.pointer (some ⟨N, 0, none⟩))])) ∧ Below W.heap.size W w'))
    (R0 : Hid (ok = false → rn = 0 ∧ rc = ⟨#[]⟩ ∧ re = 12))
    (R1 : Hid (ok = true → V = 0 → minus = true → rn = 0 ∧ rc = ⟨#[]⟩ ∧ re = 12))
    (R2 : Hid (ok = true → V = 0 → minus = false → rn = 0 ∧ rc = ccy ∧ re = 0))
    (R3' : Hid (ok = true → 0 < V → V ≤ 1125899906842624 → minus = true → rn = -(V : Int) ∧ rc = ccy ∧ re = 0))
    (R4 : Hid (ok = true → 0 < V → V ≤ 1125899906842624 → minus = false → rn = (V : Int) ∧ rc = ccy ∧ re = 0))
    (R5 : Hid (ok = true → 1125899906842624 < V → rn = 0 ∧ rc = ⟨#[]⟩ ∧ re = 14)) :
    Calls Tryz.prog 11 #[.string s] w (R3 w rn rc re) := by
  go_enter Tryz.func11, Tryz.ntmps11
  go_wp2_with fail
  refine (HC1.out _).mono ?_
  rintro e w1 ⟨rfl, b1'⟩
  have B1 := Lib.hid b1'
  clear b1'
  go_wp2_with fail
  refine (HU.out _).mono ?_
  rintro e w2 ⟨rfl, b2⟩
  have B2 := Lib.hid (B1.out.trans (b2.mono B1.out.size))
  clear b2
  go_wp2_with fail
  refine (HP.out _).mono ?_
  rintro e w3 ⟨rfl, b3⟩
  have B3 := Lib.hid (B2.out.trans (b3.mono B2.out.size))
  clear b3
  go_wp2_with fail
  refine (HC2.out _).mono ?_
  rintro e w4 ⟨rfl, b4⟩
  have B4 := Lib.hid (B3.out.trans (b4.mono B3.out.size))
  clear b4
  go_upto_region 7 with (fail)
  go_cut [73] (fun s73 wx => s73 = .bool (!ok) ∧ Below w.heap.size w wx)
  case first =>
    clear HTL HT0 HA1 HA2 R0 R1 R2 R3' R4 R5 HC1 HC2 HP HU B1 B2 B3
    cases f1 with
    | false =>
      have HQ : Hid (ok = false) := by
        by_cases hz : 1 < Wh.size
        · have h0 : 0 < Wh.size := by omega
          have := HOK.out ((Wh[0].toNat : Int) == 48) (fun _ _ => rfl) (fun h => absurd hz h); show ok = false; rw [this]; rfl
        · have := HOK.out false (fun h => absurd h hz) (fun _ => rfl); show ok = false; rw [this]; rfl
      clear HOK
      go_wp2_with fail
      refine (HF1.out _).mono ?_
      rintro e w' ⟨rfl, rfl⟩
      go_wp2_with fail
      go_meet
      exact ⟨congrArg Value.bool (by rw [HQ.out]; first | rfl | (simp; done) | (simp; omega)), B4.out⟩
    | true =>
      have hw1 := hf1 rfl
      by_cases c2 : 1 < Wh.size
      · by_cases c3 : Wh[0].toNat = 48
        · have k3 : ((Wh[0].toNat : Int) == 48) = true := by rw [c3]; rfl
          have HQ : Hid (ok = false) := by have := HOK.out true (fun _ _ => k3.symm) (fun h => absurd c2 h); show ok = false; rw [this]; rfl
          clear HOK
          go_wp2_with fail
          refine (HF1.out _).mono ?_
          rintro e w' ⟨rfl, rfl⟩
          go_wp2_with fail
          go_meet
          exact ⟨congrArg Value.bool (by rw [HQ.out]; first | rfl | (simp; done) | (simp; omega)), B4.out⟩
        · have k3 : ((Wh[0].toNat : Int) == 48) = false := by simp; omega
          have HZ : Hid (ok = (true && !false && (pt == decide (0 < u)) && decide (Pa.size = u) && (!decide (0 < u) || f2))) := HOK.out false (fun _ _ => k3.symm) (fun h => absurd c2 h)
          clear HOK
          cases pt
          · rcases Nat.eq_zero_or_pos u with c6 | c6
            · have k6 : decide ((0 : Int) < ui) = false := by have := hui.out; simp; omega
              have c6' : decide (0 < u) = false := decide_eq_false (by omega)
              by_cases c5 : Pa.size = u
              · have k5 : ((Pa.size : Int) != ui) = false := by rw [hui.out, c5]; simp
                have HQ : Hid (ok = true) := by have := HZ.out; show ok = true; rw [this, c6', decide_eq_true c5]; rfl
                clear HZ c6 c6' c5
                go_wp2_with fail
                refine (HF1.out _).mono ?_
                rintro e w' ⟨rfl, rfl⟩
                go_wp2_with fail
                go_meet
                exact ⟨congrArg Value.bool (by rw [HQ.out]; first | rfl | (simp; done) | (simp; omega)), B4.out⟩
              · have k5 : ((Pa.size : Int) != ui) = true := by have := hui.out; simp; omega
                have HQ : Hid (ok = false) := by have := HZ.out; show ok = false; rw [this, c6', decide_eq_false c5]; rfl
                clear HZ c6 c6' c5
                go_wp2_with fail
                refine (HF1.out _).mono ?_
                rintro e w' ⟨rfl, rfl⟩
                go_wp2_with fail
                go_meet
                exact ⟨congrArg Value.bool (by rw [HQ.out]; first | rfl | (simp; done) | (simp; omega)), B4.out⟩
            · have k6 : decide ((0 : Int) < ui) = true := by have := hui.out; simp; omega
              have c6' : decide (0 < u) = true := decide_eq_true c6
              have HQ : Hid (ok = false) := by have := HZ.out; show ok = false; rw [this, c6']; rfl
              clear HZ c6 c6'
              go_wp2_with fail
              refine (HF1.out _).mono ?_
              rintro e w' ⟨rfl, rfl⟩
              go_wp2_with fail
              go_meet
              exact ⟨congrArg Value.bool (by rw [HQ.out]; first | rfl | (simp; done) | (simp; omega)), B4.out⟩
          · rcases Nat.eq_zero_or_pos u with c6 | c6
            · have k6 : decide ((0 : Int) < ui) = false := by have := hui.out; simp; omega
              have c6' : decide (0 < u) = false := decide_eq_false (by omega)
              have HQ : Hid (ok = false) := by have := HZ.out; show ok = false; rw [this, c6']; rfl
              clear HZ c6 c6'
              go_wp2_with fail
              refine (HF1.out _).mono ?_
              rintro e w' ⟨rfl, rfl⟩
              go_wp2_with fail
              go_meet
              exact ⟨congrArg Value.bool (by rw [HQ.out]; first | rfl | (simp; done) | (simp; omega)), B4.out⟩
            · have k6 : decide ((0 : Int) < ui) = true := by have := hui.out; simp; omega
              have c6' : decide (0 < u) = true := decide_eq_true c6
              by_cases c5 : Pa.size = u
              · have k5 : ((Pa.size : Int) != ui) = false := by rw [hui.out, c5]; simp
                cases f2
                · have HQ : Hid (ok = false) := by have := HZ.out; show ok = false; rw [this, c6', decide_eq_true c5]; rfl
                  clear HZ c6 c6' c5
                  go_wp2_with fail
                  refine (HF1.out _).mono ?_
                  rintro e w' ⟨rfl, rfl⟩
                  go_wp2_with fail
                  refine (HF2.out _).mono ?_
                  rintro e w' ⟨rfl, rfl⟩
                  go_wp2_with fail
                  go_meet
                  exact ⟨congrArg Value.bool (by rw [HQ.out]; first | rfl | (simp; done) | (simp; omega)), B4.out⟩
                · have HQ : Hid (ok = true) := by have := HZ.out; show ok = true; rw [this, c6', decide_eq_true c5]; rfl
                  clear HZ c6 c6' c5
                  go_wp2_with fail
                  refine (HF1.out _).mono ?_
                  rintro e w' ⟨rfl, rfl⟩
                  go_wp2_with fail
                  refine (HF2.out _).mono ?_
                  rintro e w' ⟨rfl, rfl⟩
                  go_wp2_with fail
                  go_meet
                  exact ⟨congrArg Value.bool (by rw [HQ.out]; first | rfl | (simp; done) | (simp; omega)), B4.out⟩
              · have k5 : ((Pa.size : Int) != ui) = true := by have := hui.out; simp; omega
                have HQ : Hid (ok = false) := by have := HZ.out; show ok = false; rw [this, c6', decide_eq_false c5]; rfl
                clear HZ c6 c6' c5
                go_wp2_with fail
                refine (HF1.out _).mono ?_
                rintro e w' ⟨rfl, rfl⟩
                go_wp2_with fail
                go_meet
                exact ⟨congrArg Value.bool (by rw [HQ.out]; first | rfl | (simp; done) | (simp; omega)), B4.out⟩
      · have HZ : Hid (ok = (true && !false && (pt == decide (0 < u)) && decide (Pa.size = u) && (!decide (0 < u) || f2))) := HOK.out false (fun h => absurd h c2) (fun _ => rfl)
        clear HOK
        cases pt
        · rcases Nat.eq_zero_or_pos u with c6 | c6
          · have k6 : decide ((0 : Int) < ui) = false := by have := hui.out; simp; omega
            have c6' : decide (0 < u) = false := decide_eq_false (by omega)
            by_cases c5 : Pa.size = u
            · have k5 : ((Pa.size : Int) != ui) = false := by rw [hui.out, c5]; simp
              have HQ : Hid (ok = true) := by have := HZ.out; show ok = true; rw [this, c6', decide_eq_true c5]; rfl
              clear HZ c6 c6' c5
              go_wp2_with fail
              refine (HF1.out _).mono ?_
              rintro e w' ⟨rfl, rfl⟩
              go_wp2_with fail
              go_meet
              exact ⟨congrArg Value.bool (by rw [HQ.out]; first | rfl | (simp; done) | (simp; omega)), B4.out⟩
            · have k5 : ((Pa.size : Int) != ui) = true := by have := hui.out; simp; omega
              have HQ : Hid (ok = false) := by have := HZ.out; show ok = false; rw [this, c6', decide_eq_false c5]; rfl
              clear HZ c6 c6' c5
              go_wp2_with fail
              refine (HF1.out _).mono ?_
              rintro e w' ⟨rfl, rfl⟩
              go_wp2_with fail
              go_meet
              exact ⟨congrArg Value.bool (by rw [HQ.out]; first | rfl | (simp; done) | (simp; omega)), B4.out⟩
          · have k6 : decide ((0 : Int) < ui) = true := by have := hui.out; simp; omega
            have c6' : decide (0 < u) = true := decide_eq_true c6
            have HQ : Hid (ok = false) := by have := HZ.out; show ok = false; rw [this, c6']; rfl
            clear HZ c6 c6'
            go_wp2_with fail
            refine (HF1.out _).mono ?_
            rintro e w' ⟨rfl, rfl⟩
            go_wp2_with fail
            go_meet
            exact ⟨congrArg Value.bool (by rw [HQ.out]; first | rfl | (simp; done) | (simp; omega)), B4.out⟩
        · rcases Nat.eq_zero_or_pos u with c6 | c6
          · have k6 : decide ((0 : Int) < ui) = false := by have := hui.out; simp; omega
            have c6' : decide (0 < u) = false := decide_eq_false (by omega)
            have HQ : Hid (ok = false) := by have := HZ.out; show ok = false; rw [this, c6']; rfl
            clear HZ c6 c6'
            go_wp2_with fail
            refine (HF1.out _).mono ?_
            rintro e w' ⟨rfl, rfl⟩
            go_wp2_with fail
            go_meet
            exact ⟨congrArg Value.bool (by rw [HQ.out]; first | rfl | (simp; done) | (simp; omega)), B4.out⟩
          · have k6 : decide ((0 : Int) < ui) = true := by have := hui.out; simp; omega
            have c6' : decide (0 < u) = true := decide_eq_true c6
            by_cases c5 : Pa.size = u
            · have k5 : ((Pa.size : Int) != ui) = false := by rw [hui.out, c5]; simp
              cases f2
              · have HQ : Hid (ok = false) := by have := HZ.out; show ok = false; rw [this, c6', decide_eq_true c5]; rfl
                clear HZ c6 c6' c5
                go_wp2_with fail
                refine (HF1.out _).mono ?_
                rintro e w' ⟨rfl, rfl⟩
                go_wp2_with fail
                refine (HF2.out _).mono ?_
                rintro e w' ⟨rfl, rfl⟩
                go_wp2_with fail
                go_meet
                exact ⟨congrArg Value.bool (by rw [HQ.out]; first | rfl | (simp; done) | (simp; omega)), B4.out⟩
              · have HQ : Hid (ok = true) := by have := HZ.out; show ok = true; rw [this, c6', decide_eq_true c5]; rfl
                clear HZ c6 c6' c5
                go_wp2_with fail
                refine (HF1.out _).mono ?_
                rintro e w' ⟨rfl, rfl⟩
                go_wp2_with fail
                refine (HF2.out _).mono ?_
                rintro e w' ⟨rfl, rfl⟩
                go_wp2_with fail
                go_meet
                exact ⟨congrArg Value.bool (by rw [HQ.out]; first | rfl | (simp; done) | (simp; omega)), B4.out⟩
            · have k5 : ((Pa.size : Int) != ui) = true := by have := hui.out; simp; omega
              have HQ : Hid (ok = false) := by have := HZ.out; show ok = false; rw [this, c6', decide_eq_false c5]; rfl
              clear HZ c6 c6' c5
              go_wp2_with fail
              refine (HF1.out _).mono ?_
              rintro e w' ⟨rfl, rfl⟩
              go_wp2_with fail
              go_meet
              exact ⟨congrArg Value.bool (by rw [HQ.out]; first | rfl | (simp; done) | (simp; omega)), B4.out⟩
  case rest =>
  obtain ⟨rfl, b5⟩ := hcut
  have B5 := Lib.hid b5
  clear b5 B1 B2 B3 B4 HC1 HC2 HU HP HF1 HF2 HOK
  cases ok with
  | false =>
    obtain ⟨rfl, rfl, rfl⟩ := R0.out rfl
    go_wp2_with fail
    go_ret3
    exact ⟨rfl, B5.out⟩
  | true =>
    have HTQ : Hid (Ca 31 #[.string (Wh ++ Pa), .string ⟨#[48]⟩] (.string T)) := HTL.out rfl
    have t0 := HT0.out rfl
    have HA1 := Lib.hid (HA1.out rfl)
    have HA2 := Lib.hid (HA2.out rfl)
    have R1 := Lib.hid (R1.out rfl)
    have R2 := Lib.hid (R2.out rfl)
    have R3' := Lib.hid (R3'.out rfl)
    have R4 := Lib.hid (R4.out rfl)
    have R5 := Lib.hid (R5.out rfl)
    clear R0 HT0 HTL
    rcases Nat.eq_zero_or_pos V with v0 | v0
    · rw [decide_eq_true v0] at t0
      cases minus with
      | false =>
        obtain ⟨rfl, rfl, rfl⟩ := R2.out v0 rfl
        clear R1 R2 R3' R4 R5 HA1 HA2
        go_wp2_with fail
        refine (Hid.out HTQ _).mono ?_
        rintro e w6 ⟨rfl, b6⟩
        have B6 := Lib.hid (B5.out.trans (b6.mono B5.out.size))
        clear b6
        go_wp2_with fail
        go_ret3
        exact ⟨rfl, B6.out⟩
      | true =>
        obtain ⟨rfl, rfl, rfl⟩ := R1.out v0 rfl
        clear R1 R2 R3' R4 R5 HA1 HA2
        go_wp2_with fail
        refine (Hid.out HTQ _).mono ?_
        rintro e w6 ⟨rfl, b6⟩
        have B6 := Lib.hid (B5.out.trans (b6.mono B5.out.size))
        clear b6
        go_wp2_with fail
        go_ret3
        exact ⟨rfl, B6.out⟩
    · rw [decide_eq_false (by omega)] at t0
      by_cases v1 : V < 9223372036854775808
      · have HA := Lib.hid (HA1.out v0 v1)
        have HAM := Lib.hid (fun W => mamount_any (V : Int) W)
        by_cases v2 : V ≤ 1125899906842624
        · rw [show amtOK (V : Int) = true by unfold amtOK; simp; omega] at HAM
          cases minus with
          | false =>
            obtain ⟨rfl, rfl, rfl⟩ := R4.out v0 v2 rfl
            clear R1 R2 R3' R4 R5 HA1 HA2
            go_wp2_with fail
            refine (Hid.out HTQ _).mono ?_
            rintro e w6 ⟨rfl, b6⟩
            have B6 := Lib.hid (B5.out.trans (b6.mono B5.out.size))
            clear b6
            go_wp2_with fail
            refine (HA.out _).mono ?_
            rintro e w7 ⟨rfl, b7⟩
            have B7 := Lib.hid (B6.out.trans (b7.mono B6.out.size))
            clear b7
            go_wp2_with fail
            refine (HAM.out _).mono ?_
            rintro e w' ⟨rfl, rfl⟩
            go_wp2_with fail
            go_ret3
            exact ⟨rfl, B7.out⟩
          | true =>
            obtain ⟨rfl, rfl, rfl⟩ := R3'.out v0 v2 rfl
            clear R1 R2 R3' R4 R5 HA1 HA2
            go_wp2_with fail
            refine (Hid.out HTQ _).mono ?_
            rintro e w6 ⟨rfl, b6⟩
            have B6 := Lib.hid (B5.out.trans (b6.mono B5.out.size))
            clear b6
            go_wp2_with fail
            refine (HA.out _).mono ?_
            rintro e w7 ⟨rfl, b7⟩
            have B7 := Lib.hid (B6.out.trans (b7.mono B6.out.size))
            clear b7
            go_wp2_with fail
            refine (HAM.out _).mono ?_
            rintro e w' ⟨rfl, rfl⟩
            go_wp2_with fail
            go_ret3
            exact ⟨rfl, B7.out⟩
        · rw [show amtOK (V : Int) = false by unfold amtOK; simp; omega] at HAM
          obtain ⟨rfl, rfl, rfl⟩ := R5.out (by omega)
          clear R1 R2 R3' R4 R5 HA1 HA2
          go_wp2_with fail
          refine (Hid.out HTQ _).mono ?_
          rintro e w6 ⟨rfl, b6⟩
          have B6 := Lib.hid (B5.out.trans (b6.mono B5.out.size))
          clear b6
          go_wp2_with fail
          refine (HA.out _).mono ?_
          rintro e w7 ⟨rfl, b7⟩
          have B7 := Lib.hid (B6.out.trans (b7.mono B6.out.size))
          clear b7
          go_wp2_with fail
          refine (HAM.out _).mono ?_
          rintro e w' ⟨rfl, rfl⟩
          go_wp2_with fail
          go_ret3
          exact ⟨rfl, B7.out⟩
      · obtain ⟨rfl, rfl, rfl⟩ := R5.out (by omega)
        have HA := Lib.hid (HA2.out v1)
        clear R1 R2 R3' R4 R5 HA1 HA2
        go_wp2_with fail
        refine (Hid.out HTQ _).mono ?_
        rintro e w6 ⟨rfl, b6⟩
        have B6 := Lib.hid (B5.out.trans (b6.mono B5.out.size))
        clear b6
        go_wp2_with fail
        refine (HA.out _ B6.out).mono ?_
        rintro e w7 ⟨⟨q, N, rfl⟩, b7⟩
        have B7 := Lib.hid (B6.out.trans (b7.mono B6.out.size))
        clear b7
        go_wp2_with fail
        go_ret3
        exact ⟨rfl, B7.out⟩

end Go.Proofs.YtnikhbdjlipcbaaGreatDoor

namespace Go.Proofs.YtnikhbdjlipcbaaGreatDoor
open Go.RowKit Go.Shelf

theorem upTo_len (c : UInt8) (l : List UInt8) : (upTo c l).length ≤ l.length := (List.takeWhile_sublist _).length_le
theorem past_len (c : UInt8) (l : List UInt8) : (past c l).length ≤ l.length := by
  unfold past
  rw [List.length_drop]
  have := (List.dropWhile_sublist (p := fun x => x != c) (l := l)).length_le
  omega
theorem preD_len (l : List UInt8) : (preD l).length ≤ l.length := by
  unfold preD
  split
  · simp
  · exact Nat.le_refl _
theorem readA_pre (l : List UInt8) (un : List UInt8 → Option Nat) (u : Nat) (h : un (past 32 l) = some u) : readA un l =
    if figOK u (preD (upTo 32 l)) = false then (0, [], 12)
    else if figN (preD (upTo 32 l)) = 0 then (if decide ((upTo 32 l).head? = some 45) = true then (0, [], 12) else (0, past 32 l, 0))
    else if maxM < figN (preD (upTo 32 l)) then (0, [], 14)
    else (if decide ((upTo 32 l).head? = some 45) = true then -(figN (preD (upTo 32 l)) : Int) else (figN (preD (upTo 32 l)) : Int), past 32 l, 0) := by
  have e : (if decide ((upTo 32 l).head? = some 45) = true then (upTo 32 l).tail else upTo 32 l) = preD (upTo 32 l) := by
    unfold preD
    by_cases hh : (upTo 32 l).head? = some 45
    · rw [if_pos (decide_eq_true hh), if_pos hh]
    · rw [if_neg (by simpa using hh), if_neg hh]
  unfold readA
  rw [h]
  dsimp only
  rw [e]
theorem fig_ok (u : Nat) (d : List UInt8) (z : Bool) (hz1 : 1 < (upTo 46 d).length → z = decide ((upTo 46 d).head? = some 48)) (hz2 : ¬1 < (upTo 46 d).length → z = false) :
    figOK u d = (figsB (upTo 46 d) && !z && (d.contains 46 == decide (0 < u)) && decide ((past 46 d).length = u) && (!decide (0 < u) || figsB (past 46 d))) := by
  have ez : (decide (1 < (upTo 46 d).length) && decide ((upTo 46 d).head? = some 48)) = z := by
    by_cases h : 1 < (upTo 46 d).length
    · rw [hz1 h, decide_eq_true h, Bool.true_and]
    · rw [hz2 h, decide_eq_false h, Bool.false_and]
  have ep : (decide ((past 46 d).length = u) && (past 46 d).all isDig) = (decide ((past 46 d).length = u) && (!decide (0 < u) || figsB (past 46 d))) := by
    by_cases h : (past 46 d).length = u
    · rw [decide_eq_true h, Bool.true_and, Bool.true_and]
      rcases Nat.eq_zero_or_pos u with hu | hu
      · rw [decide_eq_false (by omega)]
        have : past 46 d = [] := List.eq_nil_of_length_eq_zero (by omega)
        rw [this]; rfl
      · rw [decide_eq_true hu]
        unfold figsB
        rw [decide_eq_true (by omega)]
        simp
    · rw [decide_eq_false h]; simp
  unfold figOK
  rw [ez, Bool.and_assoc, ep]
  unfold figsB
  simp only [Bool.and_assoc]
theorem fig_digs {u : Nat} {d : List UInt8} (h : figOK u d = true) : ∀ c ∈ upTo 46 d ++ past 46 d, isDig c = true := by
  unfold figOK at h
  simp only [Bool.and_eq_true] at h
  obtain ⟨⟨⟨⟨⟨_, h2⟩, _⟩, _⟩, _⟩, h6⟩ := h
  intro c hc
  rcases List.mem_append.1 hc with hc | hc
  · exact List.all_eq_true.1 h2 c hc
  · exact List.all_eq_true.1 h6 c hc

theorem mread_any (s : ByteArray) (w : World) (HE : Hid (Env w)) (hs : s.size ≤ 100000) :
    Calls Tryz.prog 11 #[.string s] w (R3 w (readA unitOf s.data.toList).1 ⟨(readA unitOf s.data.toList).2.1.toArray⟩ (readA unitOf s.data.toList).2.2) := by
  have HC1 := Lib.hid (fun W => cutb_any s 32 W (by omega))
  have HU := fun W => munit_any ⟨(past 32 s.data.toList).toArray⟩ W
  have hsl : s.data.toList.length ≤ 100000 := by rw [data_len]; exact hs
  generalize s.data.toList = l at *
  have e0 : (⟨(past 32 l).toArray⟩ : ByteArray).data.toList = past 32 l := rfl
  rw [e0] at HU
  cases hu : unitOf (past 32 l) with
  | none =>
    rw [hu] at HU
    have hr : readA unitOf l = (0, [], 12) := by unfold readA; rw [hu]
    rw [hr]
    exact mread_unit s _ _ _ w HC1 (Lib.hid HU)
  | some u =>
    rw [hu] at HU
    rw [readA_pre l unitOf u hu]
    have hu3 := unit_le hu
    obtain ⟨num, hnum⟩ : ∃ num, num = upTo 32 l := ⟨_, rfl⟩
    obtain ⟨cc, hcc⟩ : ∃ cc, cc = past 32 l := ⟨_, rfl⟩
    have hnl : num.length ≤ 100000 := by rw [hnum]; exact Nat.le_trans (upTo_len _ _) hsl
    rw [← hnum, ← hcc] at HC1
    rw [← hcc] at HU
    rw [← hnum, ← hcc]
    obtain ⟨d, hd⟩ : ∃ d, d = preD num := ⟨_, rfl⟩
    rw [← hd]
    have hdl : d.length ≤ 100000 := by rw [hd]; exact Nat.le_trans (preD_len _) hnl
    obtain ⟨W, hW⟩ : ∃ W, W = upTo 46 d := ⟨_, rfl⟩
    obtain ⟨P, hP⟩ : ∃ P, P = past 46 d := ⟨_, rfl⟩
    have hWl : W.length ≤ 100000 := by rw [hW]; exact Nat.le_trans (upTo_len _ _) hdl
    have hPl : P.length ≤ 100000 := by rw [hP]; exact Nat.le_trans (past_len _ _) hdl
    have sz : ∀ x : List UInt8, (⟨x.toArray⟩ : ByteArray).size = x.length := fun x => by rw [← data_len]
    have HP : Hid (Ca 29 #[.string ⟨num.toArray⟩, .string ⟨#[45]⟩] (.tuple #[.string ⟨d.toArray⟩, .bool (decide (num.head? = some 45))])) := fun V => by
      have := cutp_any ⟨num.toArray⟩ V
      rw [show (⟨num.toArray⟩ : ByteArray).data.toList = num from rfl, ← hd] at this
      exact this
    have HC2 : Hid (∀ V, Calls Tryz.prog 28 #[.string ⟨d.toArray⟩, .string ⟨#[46]⟩] V (CutQ V ⟨W.toArray⟩ ⟨P.toArray⟩ (d.contains 46))) := fun V => by
      have := cutb_any ⟨d.toArray⟩ 46 V (by rw [sz]; omega)
      rw [show (⟨d.toArray⟩ : ByteArray).data.toList = d from rfl, ← hW, ← hP] at this
      exact this
    have HF1 : Hid (∀ V, Calls Tryz.prog 30 #[.string ⟨W.toArray⟩] V (RetB V (figsB W))) := fun V => figs_any ⟨W.toArray⟩ V (by rw [sz]; omega)
    have HF2 : Hid (∀ V, Calls Tryz.prog 30 #[.string ⟨P.toArray⟩] V (RetB V (figsB P))) := fun V => figs_any ⟨P.toArray⟩ V (by rw [sz]; omega)
    have eN : figN d = numL (W ++ P) := by unfold figN; rw [hW, hP]
    have hT : figOK u d = true → numL (Lib.trimLeftB (W ++ P) 48) = figN d ∧ (Lib.trimLeftB (W ++ P) 48 = [] ↔ figN d = 0) ∧ (∀ c ∈ Lib.trimLeftB (W ++ P) 48, isDig c = true) ∧ (Lib.trimLeftB (W ++ P) 48).length ≤ (W ++ P).length := fun h => by
      rw [eN]
      exact trim_digs (W ++ P) (by rw [hW, hP]; exact fig_digs h)
    have hTl : figOK u d = true → (Lib.trimLeftB (W ++ P) 48).length ≤ 200000 := fun h => by
      have := (hT h).2.2.2
      rw [List.length_append] at this
      omega
    have HTL : Hid (figOK u d = true → Ca 31 #[.string (⟨W.toArray⟩ ++ ⟨P.toArray⟩), .string ⟨#[48]⟩] (.string ⟨(Lib.trimLeftB (W ++ P) 48).toArray⟩)) := fun _ V => by
      have := Tryz.strings_TrimLeft_one (⟨W.toArray⟩ ++ ⟨P.toArray⟩) 48 (by decide) V
      rw [show ((⟨W.toArray⟩ : ByteArray) ++ ⟨P.toArray⟩).data.toList = W ++ P by simp] at this
      exact this.mono fun e w' ⟨h1, h2⟩ => ⟨h1, by rw [h2]; exact Below.refl _ _⟩
    refine mread_go s ⟨num.toArray⟩ ⟨cc.toArray⟩ ⟨d.toArray⟩ ⟨W.toArray⟩ ⟨P.toArray⟩ ⟨(Lib.trimLeftB (W ++ P) 48).toArray⟩ _ (decide (num.head? = some 45)) (d.contains 46) (figsB W) (figsB P) (figOK u d) u (figN d) _ _ _ w HC1 (u : Int) (Lib.hid rfl) (by omega) (by omega) (Lib.hid fun V => HU V) HP HC2 HF1 HF2 (by rw [sz]; omega) (by rw [sz]; omega) ?_ ?_ HTL ?_ ?_ ?_ ?_ ?_ ?_ ?_ ?_ ?_
    · intro h
      unfold figsB at h
      simp only [Bool.and_eq_true, decide_eq_true_eq] at h
      rw [sz]; exact h.1
    · intro z hz1 hz2
      have h := fig_ok u d z (fun h => by
        rw [← hW] at h ⊢
        have h0 : 0 < (⟨W.toArray⟩ : ByteArray).size := by rw [sz]; omega
        rw [hz1 (by rw [sz]; exact h) h0]
        have hh : W.head? = some ((⟨W.toArray⟩ : ByteArray)[0]'h0) := by
          rw [List.head?_eq_getElem?]
          exact Lib.data_getElem? ⟨W.toArray⟩ 0 h0
        rw [hh]
        by_cases h48 : (⟨W.toArray⟩ : ByteArray)[0] = 48
        · rw [h48]; rfl
        · have n1 : ((⟨W.toArray⟩ : ByteArray)[0]).toNat ≠ 48 := fun e => h48 (UInt8.toNat_inj.1 (by rw [e]; rfl))
          rw [decide_eq_false (by simpa using h48)]
          simp; omega) (fun h => by
        rw [← hW] at h
        exact hz2 (by rw [sz]; exact h))
      rw [← hW, ← hP] at h
      rw [sz]
      exact h
    · intro h
      have := (hT h).2.1
      rw [Lib.toList_data]
      show (Lib.trimLeftB (W ++ P) 48 == []) = _
      by_cases h0 : figN d = 0
      · rw [decide_eq_true h0, this.2 h0]; rfl
      · rw [decide_eq_false h0]
        have hne : Lib.trimLeftB (W ++ P) 48 ≠ [] := fun e => h0 (this.1 e)
        simpa using hne
    · intro h hv hlt V
      obtain ⟨t1, t2, t3, _⟩ := hT h
      have hne : Lib.trimLeftB (W ++ P) 48 ≠ [] := fun e => by have := t2.1 e; omega
      have ha := atoi_digs hne t3
      rw [t1, if_pos hlt] at ha
      refine (Tryz.strconv_Atoi_ok ⟨(Lib.trimLeftB (W ++ P) 48).toArray⟩ (by rw [sz]; have := hTl h; omega) (figN d : Int) ha V).mono fun e w' ⟨h1, h2⟩ => ⟨h1, ?_⟩
      rcases h2 with rfl | ⟨t, rfl⟩
      · exact Below.refl _ _
      · exact Joins.below_bytesWorld _ _ _ _ (Nat.le_refl _)
    · intro h hlt V hV
      obtain ⟨t1, t2, t3, _⟩ := hT h
      have hne : Lib.trimLeftB (W ++ P) 48 ≠ [] := fun e => by have := t2.1 e; omega
      have ha := atoi_digs hne t3
      rw [t1, if_neg hlt] at ha
      obtain ⟨ev, he, hev⟩ := (HE.out.below hV).rng
      exact (Tryz.strconv_Atoi_range ⟨(Lib.trimLeftB (W ++ P) 48).toArray⟩ (by rw [sz]; have := hTl h; omega) ha ev V he hev).mono fun e w' ⟨N, h1, _, _, h2⟩ => ⟨⟨_, N, h1⟩, h2⟩
    · intro h
      rw [if_pos h]; exact ⟨rfl, rfl, rfl⟩
    · intro h h0 hm
      rw [if_neg (by rw [h]; simp), if_pos h0, if_pos hm]; exact ⟨rfl, rfl, rfl⟩
    · intro h h0 hm
      rw [if_neg (by rw [h]; simp), if_pos h0, if_neg (by rw [hm]; simp)]; exact ⟨rfl, rfl, rfl⟩
    · intro h h0 h1 hm
      rw [if_neg (by rw [h]; simp), if_neg (by omega), if_neg (by unfold maxM; omega), if_pos hm]; exact ⟨rfl, rfl, rfl⟩
    · intro h h0 h1 hm
      rw [if_neg (by rw [h]; simp), if_neg (by omega), if_neg (by unfold maxM; omega), if_neg (by rw [hm]; simp)]; exact ⟨rfl, rfl, rfl⟩
    · intro h h1
      rw [if_neg (by rw [h]; simp), if_neg (by omega), if_pos (by unfold maxM; omega)]; exact ⟨rfl, rfl, rfl⟩

end Go.Proofs.YtnikhbdjlipcbaaGreatDoor
