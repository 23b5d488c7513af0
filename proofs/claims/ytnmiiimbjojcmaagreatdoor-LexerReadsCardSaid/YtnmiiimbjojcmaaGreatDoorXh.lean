/-
  Place, tame. No condition. The reference's Blank and Skip walked. No condition. Too long texts. No condition.
-/
import Derived.Test.YtnmiiimbjojcmaaGreatDoorXg
import Derived.Test.YtnmiiimbjojcmaaGreatDoorVa
namespace Go.Proofs.YtnmiiimbjojcmaaGreatDoor
open Go.RowKit Go.Shelf

/-- Line and column. -/
def plnN (s : ByteArray) (k : Nat) : Nat := Lib.countByte (s.data.toList.take k) 10 + 1
def plcZ (s : ByteArray) (k : Nat) : Int := (k : Int) - Lib.lastIdx s 10 k
theorem lastIdx_ext (s : ByteArray) (m : Nat) : ∀ j, j ≤ m → j ≤ s.size → Lib.lastIdx (s.extract 0 m) 10 j = Lib.lastIdx s 10 j
  | 0, _, _ => rfl
  | j + 1, h, h2 => by
    have e : (s.extract 0 m).data[j]! = s.data[j]! := by
      have e1 : (s.extract 0 m).data[j]? = s.data[j]? := by
        rw [← Array.getElem?_toList, ← Array.getElem?_toList, ext_list, List.drop_zero, List.getElem?_take_of_lt (by omega)]
      simp only [getElem!_def, e1]
    unfold Lib.lastIdx
    rw [e, lastIdx_ext s m j (by omega) (by omega)]
theorem lib_last (s : ByteArray) (k : Nat) (h : k ≤ s.size) : Lib.lastIndexByte (s.extract 0 k) 10 = Lib.lastIdx s 10 k := by
  unfold Lib.lastIndexByte
  rw [show (s.extract 0 k).size = k by simp; omega]
  exact lastIdx_ext s k k (Nat.le_refl _) h
theorem lib_count (s : ByteArray) (k : Nat) : Lib.countByte (s.extract 0 k).data.toList 10 = Lib.countByte (s.data.toList.take k) 10 := by
  rw [ext_list, List.drop_zero, Nat.sub_zero]
def PlPost (w : World) (a b c : Int) (e : Ending) (w' : World) : Prop := e = .returned (.tuple #[.int .i64 a, .int .i64 b, .int .i64 c]) ∧ w' = w
theorem place_bad (s : ByteArray) (z : Int) (w : World) (h : z < 0 ∨ (s.size : Int) < z) : Calls Tryz.prog 7 #[.string s, .int .i64 z] w (PlPost w 0 0 2) := by
  by_cases h0 : z < 0
  · go_enter Tryz.func7, Tryz.ntmps7
    go_wp2_with fail
    refine bodyPost_ret (results_tmp3 rfl _ _ _) rfl ?_
    exact ⟨rfl, rfl⟩
  · have h1 : (s.size : Int) < z := by omega
    go_enter Tryz.func7, Tryz.ntmps7
    go_wp2_with fail
    refine bodyPost_ret (results_tmp3 rfl _ _ _) rfl ?_
    exact ⟨rfl, rfl⟩
set_option maxHeartbeats 1000000 in
theorem place_ok (s : ByteArray) (k : Nat) (w : World) (hs : s.size ≤ 1000000) (h : k ≤ s.size) : Calls Tryz.prog 7 #[.string s, .int .i64 (k : Int)] w (PlPost w (plnN s k : Int) (plcZ s k) 0) := by
  have HC : Hid (∀ W, Calls Tryz.prog 14 #[.string (s.extract 0 k), .string ⟨#[10]⟩] W fun e w' => e = .returned (.int .i64 (Lib.countByte (s.data.toList.take k) 10 : Nat)) ∧ w' = W) := fun W => by
    have := Tryz.strings_Count_one (s.extract 0 k) 10 W
    rw [lib_count] at this
    exact this
  have HL : Hid (∀ W, Calls Tryz.prog 15 #[.string (s.extract 0 k), .int .u8 10] W fun e w' => e = .returned (.int .i64 (Lib.lastIdx s 10 k)) ∧ w' = W) := fun W => by
    have := Tryz.strings_LastIndexByte (s.extract 0 k) 10 (by simp; omega) W
    rw [lib_last s k h] at this
    exact this
  obtain ⟨C, hC⟩ : ∃ C, C = Lib.countByte (s.data.toList.take k) 10 := ⟨_, rfl⟩
  obtain ⟨L, hL⟩ : ∃ L, L = Lib.lastIdx s 10 k := ⟨_, rfl⟩
  have hCb : C ≤ 1000000 := by
    have := List.count_le_length (a := (10 : UInt8)) (l := s.data.toList.take k)
    rw [hC]; unfold Lib.countByte
    rw [List.length_take, data_len] at this; omega
  have hLb : -1 ≤ L ∧ L ≤ 1000000 := by
    rcases Lib.lastIdx_spec s 10 k with ⟨e, _⟩ | ⟨i, hi, e, _⟩ <;> rw [hL, e] <;> omega
  have hg : plnN s k = C + 1 ∧ plcZ s k = (k : Int) - L := by rw [hC, hL]; exact ⟨rfl, rfl⟩
  rw [hg.1, hg.2]
  rw [← hC] at HC
  rw [← hL] at HL
  obtain ⟨l1, l2⟩ := hLb
  clear hC hL hg
  go_enter Tryz.func7, Tryz.ntmps7
  go_wp2_with (first | (go_at_call 14; refine (HC.out _).mono ?_; rintro e w' ⟨rfl, rfl⟩) | (go_at_call 15; refine (HL.out _).mono ?_; rintro e w' ⟨rfl, rfl⟩))
  refine bodyPost_ret (results_tmp3 rfl _ _ _) rfl ?_
  first | exact ⟨rfl, rfl⟩ | exact ⟨by congr 4 <;> omega, rfl⟩

/-- How places go on. -/
theorem place_zero (s : ByteArray) : plnN s 0 = 1 ∧ plcZ s 0 = 1 := ⟨rfl, rfl⟩
theorem place_next (s : ByteArray) (k : Nat) (h : k < s.size) : (s[k] = 10 → plnN s (k + 1) = plnN s k + 1 ∧ plcZ s (k + 1) = 1) ∧ (s[k] ≠ 10 → plnN s (k + 1) = plnN s k ∧ plcZ s (k + 1) = plcZ s k + 1) := by
  have hd : s.data[k]! = s[k] := by
    simp [getElem!_def, Array.getElem?_eq_getElem (xs := s.data) (i := k) h]
    rfl
  have ht := data_take s k h
  constructor
  · intro h10
    constructor
    · unfold plnN Lib.countByte
      rw [ht, List.count_append, h10]; simp
    · unfold plcZ
      rw [Lib.lastIdx_hit s 10 k (by rw [hd, h10]; rfl)]; omega
  · intro h10
    constructor
    · unfold plnN Lib.countByte
      rw [ht, List.count_append]; simp [h10]
    · unfold plcZ
      rw [Lib.lastIdx_miss s 10 k (by
        rw [hd]; intro e
        exact h10 (by rw [← UInt8.toNat_inj]; exact Int.ofNat_inj.1 e))]
      omega

end Go.Proofs.YtnmiiimbjojcmaaGreatDoor

namespace Go.Proofs.YtnmiiimbjojcmaaGreatDoor
open Go.RowKit Go.Shelf

theorem blank_any (c : UInt8) (w : World) : Calls Tryz.prog 25 #[.int .u8 (c.toNat : Int)] w (RetB w (blQ c)) := by
  by_cases h : c.toNat = 32 ∨ c.toNat = 9 ∨ c.toNat = 10
  · have hv : blQ c = true := by unfold blQ; simpa using h
    rw [hv]
    rcases h with h | h | h
    all_goals
      rw [h]
      go_enter Tryz.func25, Tryz.ntmps25
      go_wp2
      go_ret
      exact ⟨rfl, rfl⟩
  · have hv : blQ c = false := by unfold blQ; simpa using h
    rw [hv]
    have e32 : ((c.toNat : Int) == 32) = false := by simp <;> omega
    have e9 : ((c.toNat : Int) == 9) = false := by simp <;> omega
    have e10 : ((c.toNat : Int) == 10) = false := by simp <;> omega
    clear h hv
    go_enter Tryz.func25, Tryz.ntmps25
    go_wp2
    go_ret
    exact ⟨rfl, rfl⟩
theorem drop_at (s : ByteArray) (k : Nat) (h : k < s.size) : s.data.toList.drop k = s[k] :: s.data.toList.drop (k + 1) := by
  rw [List.drop_eq_getElem_cons (by rw [data_len]; exact h)]; rfl
/-- The loops of Skip: outside a remark, or in one. -/
def SkR (s : ByteArray) (F k0 : Nat) (b : Bool) (v : Value) : Prop := ∃ k : Nat, k ≤ s.size ∧ k0 ≤ k ∧ v = .int .i64 (k : Int) ∧ k + skS b (s.data.toList.drop k) = F
def Eq10 (c : UInt8) (b : Bool) : Prop := ((c.toNat : Int) == 10) = b ∧ ((c.toNat : Int) != 10) = !b
theorem eq10_is {c : UInt8} (h : c.toNat = 10) : Eq10 c true := by constructor <;> simp [h]
theorem eq10_no {c : UInt8} (h : ¬ c.toNat = 10) : Eq10 c false := by constructor <;> simp <;> omega
theorem skS_empty (b : Bool) : skS b [] = 0 := by cases b <;> rfl
theorem skip_nil (s : ByteArray) (b : Bool) : skS b (s.data.toList.drop s.size) = 0 := by rw [← data_len, List.drop_length]; exact skS_empty b

set_option maxHeartbeats 2000000 in
set_option maxRecDepth 100000 in
theorem skip_any (s : ByteArray) (i : Nat) (w : World) (hs : s.size ≤ 100000) (hi : i ≤ s.size) : Calls Tryz.prog 12 #[.string s, .int .i64 (i : Int)] w (RetI w ((i + skS false (s.data.toList.drop i) : Nat) : Int)) := by
  obtain ⟨F, hF⟩ : ∃ F, F = i + skS false (s.data.toList.drop i) := ⟨_, rfl⟩
  rw [← hF]
  have HF := Lib.hid hF.symm
  clear hF
  go_enter Tryz.func12, Tryz.ntmps12
  go_wp2_with fail
  go_loop [1] (fun v => SkR s F 0 false v) (fun v => s.size - (intOf v).toNat)
  case atStart => exact ⟨i, hi, Nat.zero_le _, rfl, HF.out⟩
  case round =>
    obtain ⟨k, hk, _, rfl, hf⟩ := hrel
    by_cases hlt : k < s.size
    · rw [drop_at s k hlt] at hf
      by_cases hb : blQ s[k] = true
      · rw [skS_bl hb] at hf
        have HB : Hid (∀ W, Calls Tryz.prog 25 #[.int .u8 (s[k].toNat : Int)] W (RetB W true)) := fun W => by have := blank_any s[k] W; rwa [hb] at this
        have HX := Lib.hid hf
        clear hf hb
        go_wp2_with (go_at_call 25; refine (HB.out _).mono ?_; rintro e w' ⟨rfl, rfl⟩)
        go_round
        case rel => exact ⟨k + 1, by omega, Nat.zero_le _, by go_num, by have := HX.out; omega⟩
        case measure => simp [intOf] <;> omega
      · have HB : Hid (∀ W, Calls Tryz.prog 25 #[.int .u8 (s[k].toNat : Int)] W (RetB W false)) := fun W => by have := blank_any s[k] W; rwa [Bool.eq_false_iff.2 hb] at this
        by_cases h35 : s[k].toNat = 35
        · rw [skS_hash h35] at hf
          have HX := Lib.hid hf
          have t35 : ((s[k].toNat : Int) == 35) = true := by simp <;> omega
          have H35 := Lib.hid h35
          clear hf hb h35
          go_wp2_with (go_at_call 25; refine (HB.out _).mono ?_; rintro e w' ⟨rfl, rfl⟩)
          clear t35
          go_loop [1] (fun v => SkR s F k true v) (fun v => s.size - (intOf v).toNat)
          case atStart =>
            refine ⟨k, hk, Nat.le_refl _, rfl, ?_⟩
            rw [drop_at s k hlt, skS_in (by have := H35.out; omega)]
            exact HX.out
          case round =>
            obtain ⟨j, hj, hkj, rfl, hg⟩ := hrel
            by_cases hjt : j < s.size
            · rw [drop_at s j hjt] at hg
              by_cases h10 : s[j].toNat = 10
              · rw [skS_nl h10] at hg
                have HY := Lib.hid hg
                obtain ⟨t1, t2⟩ := eq10_is h10
                have hne : k < j := by
                  rcases Nat.lt_or_ge k j with h | h
                  · exact h
                  · obtain rfl : k = j := by omega
                    have := H35.out; omega
                have H10 := Lib.hid h10
                clear hg h10
                go_wp2_with fail
                go_round
                case rel =>
                  refine ⟨j, by omega, Nat.zero_le _, rfl, ?_⟩
                  rw [drop_at s j hjt, skS_bl (by unfold blQ; simp [H10.out])]
                  exact HY.out
                case measure => simp [intOf] <;> omega
              · rw [skS_in h10] at hg
                have HY := Lib.hid hg
                obtain ⟨t1, t2⟩ := eq10_no h10
                clear hg h10
                go_wp2_with fail
                go_round
                case rel => exact ⟨j + 1, by omega, by omega, by go_num, by have := HY.out; omega⟩
                case measure => simp [intOf] <;> omega
            · obtain rfl : j = s.size := by omega
              rw [skip_nil] at hg
              have HY := Lib.hid hg
              clear hg
              go_wp2_with fail
              go_round
              case rel => exact ⟨s.size, Nat.le_refl _, Nat.zero_le _, rfl, by rw [skip_nil]; exact HY.out⟩
              case measure => simp [intOf] <;> omega
        · rw [skS_tok hb h35] at hf
          have t35 : ((s[k].toNat : Int) == 35) = false := by simp <;> omega
          obtain rfl : k = F := by omega
          clear hb h35 hf
          go_wp2_with (go_at_call 25; refine (HB.out _).mono ?_; rintro e w' ⟨rfl, rfl⟩)
          go_ret
          exact ⟨rfl, rfl⟩
    · obtain rfl : k = s.size := by omega
      rw [skip_nil] at hf
      obtain rfl : s.size = F := by omega
      clear hf
      go_wp2_with fail
      go_ret
      exact ⟨rfl, rfl⟩

end Go.Proofs.YtnmiiimbjojcmaaGreatDoor

namespace Go.Proofs.YtnmiiimbjojcmaaGreatDoor
open Go.RowKit Go.Shelf

def LexLong (w : World) (e : Ending) (w' : World) : Prop := e = .returned (.tuple #[.slice none 0 0, .int .i64 0, .int .i64 4]) ∧ Below w.heap.size w w'
set_option maxRecDepth 100000 in
theorem lex_long (s : ByteArray) (w : World) (hs : 20000 < s.size) (hs2 : s.size ≤ 1000000) : Calls Tryz.prog 5 #[.string s] w (LexLong w) := by
  have hgt : decide ((20000 : Int) < (s.size : Int)) = true := by simp; omega
  refine (callsIn_wide (n := 6)).1 ?_
  refine callsIn_of_wp_marks Tryz.func5 rfl trivial ?_ rfl
  simp only [Tryz.ntmps5, List.size_toArray, List.length_cons, List.length_nil, Nat.reduceAdd, Nat.reduceSub, Array.replicate_succ, Array.replicate_zero, List.push_toArray, List.append_toArray, List.nil_append, List.cons_append]
  gi_wp2
  refine ⟨.tuple #[.slice none 0 0, .int .i64 0, .int .i64 4], ?_, rfl, ((((Below.refl _ _).alloc (Nat.le_refl _) _).alloc (by simp) _).alloc (by simp; omega) _).alloc (by simp; omega) _⟩
  simp [results, Tryz.results5, go_sem]

end Go.Proofs.YtnmiiimbjojcmaaGreatDoor
