/-
  The program's date.Parse walked, at what is no date: it is refused. Condition: the text is that of no date. The program's date.Parse at any text: a date's text is read, what is no date's text is refused. No condition.
-/
import Derived.Test.YtnmiiimbjojcmaaGreatDoorWc
namespace Go.Proofs.YtnmiiimbjojcmaaGreatDoor
open Go.RowKit

/-- Two results, the second of them an error. -/
def Refused (w : World) (e : Ending) (w' : World) : Prop := ∃ q : Int, (1 ≤ q ∧ q ≤ 100) ∧ e = .returned (.tuple #[.int .i64 0, .int .i64 q]) ∧ Below w.heap.size w w'
def NuD (s : ByteArray) (nv iv : Value) : Prop := ∃ k : Nat, k ≤ s.size ∧ iv = .int .i64 (k : Int) ∧ nv = .int .i64 (numV (s.data.toList.take k) : Int) ∧ ∀ c ∈ s.data.toList.take k, 48 ≤ c.toNat ∧ c.toNat ≤ 57

set_option maxHeartbeats 1000000 in
set_option maxRecDepth 100000 in
theorem number_no (s : ByteArray) (w : World) (hs : s.size ≤ 10) (hd : ∃ c ∈ s.data.toList, ¬(48 ≤ c.toNat ∧ c.toNat ≤ 57)) :
    Calls Tryz.prog 43 #[.string s] w fun e w' => e = .returned (.tuple #[.int .i64 0, .bool false]) ∧ w = w' := by
  have HD := Lib.hid hd
  have HB : Hid (∀ k, k ≤ s.size → (∀ c ∈ s.data.toList.take k, 48 ≤ c.toNat ∧ c.toNat ≤ 57) → numV (s.data.toList.take k) < 10 ^ 10) := fun k hk h => by
    have h1 := numV_le (s.data.toList.take k) h
    have h2 : (s.data.toList.take k).length ≤ 10 := by rw [List.length_take, data_len]; omega
    exact Nat.lt_of_lt_of_le h1 (Nat.pow_le_pow_right (by omega) h2)
  have HST : Hid (NuD s (.int .i64 0) (.int .i64 0)) := ⟨0, Nat.zero_le _, rfl, rfl, fun c hc => by cases hc⟩
  clear hd
  go_enter Tryz.func43, Tryz.ntmps43
  go_wp2_with fail
  go_loop [2, 7] (NuD s) (fun _ i => s.size - (intOf i).toNat)
  case atStart => exact HST.out
  case round =>
    obtain ⟨k, hk, rfl, rfl, hdg⟩ := hrel
    have hb := HB.out k hk hdg
    by_cases hlt : k < s.size
    · have HN : Hid (∀ V, V = numV (s.data.toList.take k) → 48 ≤ s[k].toNat → s[k].toNat ≤ 57 → NuD s (.int .i64 (10 * (V : Int) + ((s[k].toNat : Int) - 48))) (.int .i64 ((k : Int) + 1))) := fun V hV c1 c2 => by
        refine ⟨k + 1, by omega, by congr 1, ?_, ?_⟩
        · rw [data_take s k hlt, numV_snoc, hV]; congr 1; omega
        · rw [data_take s k hlt]
          intro c hc
          rcases List.mem_append.1 hc with hc | hc
          · exact hdg c hc
          · rw [List.mem_singleton.1 hc]; exact ⟨c1, c2⟩
      obtain ⟨V, hV⟩ : ∃ V, V = numV (s.data.toList.take k) := ⟨_, rfl⟩
      rw [← hV] at hb HN ⊢
      have HN2 := Lib.hid (HN.out V rfl)
      clear hV hdg HN HD HB HST
      have hb' : V < 10000000000 := hb
      clear hb
      by_cases c1 : s[k].toNat < 48
      · go_wp2_with fail
        go_ret2
        exact ⟨rfl, rfl⟩
      · by_cases c2 : 57 < s[k].toNat
        · go_wp2_with fail
          go_ret2
          exact ⟨rfl, rfl⟩
        · have HR := Lib.hid (HN2.out (by omega) (by omega))
          have c1' : 48 ≤ s[k].toNat := by omega
          have c2' : s[k].toNat ≤ 57 := by omega
          clear HN2
          go_wp2_with fail
          go_round
          case rel => simpa using HR.out
          case measure => simp [intOf]; omega
    · obtain ⟨c, hc, hno⟩ := HD.out
      exact absurd (hdg c (by rw [List.take_of_length_le (by rw [data_len]; omega)]; exact hc)) hno

set_option maxHeartbeats 1000000 in
set_option maxRecDepth 100000 in
theorem known_no (y : Nat) (w : World) (h : y < 1900 ∨ 2173 < y) : Calls Tryz.prog 77 #[.int .i64 (y : Int)] w (RetB w false) := by
  rcases h with h | h
  · go_enter Tryz.func77, Tryz.ntmps77
    go_wp2
    go_ret
    exact ⟨rfl, rfl⟩
  · have t1 : decide ((1900 : Int) ≤ (y : Int)) = true := by simp; omega
    have t2 : decide ((y : Int) ≤ 2173) = false := by simp; omega
    go_enter Tryz.func77, Tryz.ntmps77
    go_wp2
    go_ret
    exact ⟨rfl, rfl⟩

set_option maxHeartbeats 2000000 in
set_option maxRecDepth 100000 in
theorem length_no (y m : Nat) (w : World) (h : (y < 1900 ∨ 2173 < y) ∨ m < 1 ∨ 12 < m) :
    Calls Tryz.prog 53 #[.int .i64 (y : Int), .int .i64 (m : Int)] w fun e w' => e = .returned (.tuple #[.int .i64 0, .int .i64 2]) ∧ w = w' := by
  by_cases hy : y < 1900 ∨ 2173 < y
  · have HK := Lib.hid (fun W => known_no y W hy)
    clear h hy
    go_enter Tryz.func53, Tryz.ntmps53
    go_wp2_with fail
    refine (HK.out _).mono ?_
    rintro e w' ⟨rfl, rfl⟩
    go_wp2_with fail
    go_ret2
    exact ⟨rfl, rfl⟩
  · have HK := Lib.hid (fun W => known_yes y W (by omega) (by omega))
    have hm : m < 1 ∨ 12 < m := by omega
    clear h hy
    rcases hm with hm | hm
    · go_enter Tryz.func53, Tryz.ntmps53
      go_wp2_with fail
      refine (HK.out _).mono ?_
      rintro e w' ⟨rfl, rfl⟩
      go_wp2_with fail
      go_ret2
      exact ⟨rfl, rfl⟩
    · have hm1 : 1 ≤ m := by omega
      go_enter Tryz.func53, Tryz.ntmps53
      go_wp2_with fail
      refine (HK.out _).mono ?_
      rintro e w' ⟨rfl, rfl⟩
      go_wp2_with fail
      go_ret2
      exact ⟨rfl, rfl⟩

set_option maxHeartbeats 2000000 in
set_option maxRecDepth 100000 in
theorem of_bad (y m d : Nat) (w : World) (h : (y < 1900 ∨ 2173 < y) ∨ m < 1 ∨ 12 < m) : Calls Tryz.prog 44 #[.int .i64 (y : Int), .int .i64 (m : Int), .int .i64 (d : Int)] w (Refused w) := by
  have HL := Lib.hid (fun W => length_no y m W h)
  clear h
  go_enter Tryz.func44, Tryz.ntmps44
  go_wp2_with fail
  refine (HL.out _).mono ?_
  rintro e w' ⟨rfl, rfl⟩
  go_wp2_with fail
  go_ret2
  exact ⟨2, by omega, rfl, Below.refl _ _⟩

set_option maxHeartbeats 2000000 in
set_option maxRecDepth 100000 in
theorem of_day (y m d n : Nat) (w : World) (hn : n ≤ 31) (h : d < 1 ∨ n < d)
    (HN : Hid (∀ W, Calls Tryz.prog 53 #[.int .i64 (y : Int), .int .i64 (m : Int)] W fun e w' => e = .returned (.tuple #[.int .i64 (n : Int), .int .i64 0]) ∧ Below W.heap.size W w')) : Calls Tryz.prog 44 #[.int .i64 (y : Int), .int .i64 (m : Int), .int .i64 (d : Int)] w (Refused w) := by
  rcases h with h | h
  · go_enter Tryz.func44, Tryz.ntmps44
    go_wp2_with fail
    refine (HN.out _).mono ?_
    rintro e w1 ⟨rfl, b1⟩
    have B1 := Lib.hid b1
    clear b1
    go_wp2_with fail
    go_ret2
    exact ⟨2, by omega, rfl, B1.out⟩
  · have h1 : 1 ≤ d := by omega
    go_enter Tryz.func44, Tryz.ntmps44
    go_wp2_with fail
    refine (HN.out _).mono ?_
    rintro e w1 ⟨rfl, b1⟩
    have B1 := Lib.hid b1
    clear b1
    go_wp2_with fail
    go_ret2
    exact ⟨2, by omega, rfl, B1.out⟩

set_option maxHeartbeats 4000000 in
set_option maxRecDepth 100000 in
theorem of_late (day y m d : Nat) (w : World) (hd : 99999 < day) (hy : y ≤ 2173) (h : DateIs day y m d) :
    Calls Tryz.prog 44 #[.int .i64 (y : Int), .int .i64 (m : Int), .int .i64 (d : Int)] w (Refused w) := by
  obtain ⟨h1, h2, h3, h4, h5, h6⟩ := h
  have hlt := DateIs.lt ⟨h1, h2, h3, h4, h5, h6⟩
  have HN := Lib.hid (fun W => length_yes y m W h1 hy h2 h3)
  have HF := Lib.hid (fun W => first_any' y W h1 (by omega))
  have hL := fun W => lengths_any y W (by omega)
  unfold lensV at hL
  have HL := Lib.hid hL
  have hc : ∀ W : World, ∀ k : Nat, k ≤ 12 → (W.alloc (.cells (lensV y) 74)).cell? ⟨W.heap.size, k, none⟩ = some (.int .i64 (((if k = 0 then 0 else longN y k) : Nat) : Int)) := fun W k a2 => by
    rw [RowAt.cell (rowAt_alloc (t := 74) (c := lensV y) rfl rfl) (by show k < 13; omega)]
    by_cases e : k = 0
    · subst e; rfl
    · rw [if_neg e]; simpa using lensV_get y k (by omega) a2
  unfold lensV at hc
  have HC := Lib.hid hc
  obtain ⟨n, hn⟩ : ∃ n, n = longN y m := ⟨_, rfl⟩
  rw [← hn] at HN h5
  have hn31 : n ≤ 31 := by rw [hn]; exact longN_le _ _
  obtain ⟨Y0, hY0⟩ : ∃ Y0, Y0 = yd y := ⟨_, rfl⟩
  rw [← hY0] at HF h6 hlt
  have hdm : d ≤ 31 := by omega
  have HST : Hid (OfRd y (Y0 + d - 1) m (.int .i64 ((Y0 : Int) + (d : Int) - 1)) (.int .i64 0)) := ⟨0, Nat.zero_le _, rfl, by congr 1; show _ = ((Y0 + d - 1 + 0 : Nat) : Int); omega⟩
  have H6 : Hid (Y0 + d - 1 + mdR y (m - 1) = day) := by show _ = _; omega
  have hYb : Y0 ≤ 200000 := by
    rw [hY0]
    have a := yd_mono (a := y) (b := 2174) (by omega) (by omega)
    have b : yd 2174 = 100077 := by decide
    omega
  have hmd : ∀ k, k ≤ m → mdR y (k - 1) ≤ 372 := fun k hk => by
    have a := mdR_mono y (a := k - 1) (b := 12) (by omega)
    rw [mdR_12] at a
    split at a <;> omega
  have HMD := Lib.hid hmd
  have hal : Tryz.prog.arrayLen 74 = 13 := by kernel_rfl
  have hel : Tryz.prog.elem 74 = 3 := by kernel_rfl
  have hsl : ∀ (W : World) (g : Nat), (Instr.sliceAt 74 (.pointer (some ⟨g, 0, none⟩)) none (some (.int .i64 (m : Int))) none).run Tryz.prog W = .ok (.slice (some ⟨g, 0, none⟩) m 13) W := fun W g => by
    rw [run_sliceAt_array_h W 74 ⟨g, 0, none⟩ (by kernel_rfl) .i64 (m : Int) (by omega) (by rw [hal]; omega), hal, hel, Tryz.sizeOf3]
    simp [slicedAt, Addr.add, Result.andThen]
  clear hL hc hn hY0 h6 hlt hmd
  go_enter Tryz.func44, Tryz.ntmps44
  go_wp2_with fail
  refine (HN.out _).mono ?_
  rintro e w1 ⟨rfl, b1⟩
  have B1 := Lib.hid b1
  clear b1
  go_wp2_with fail
  refine (HF.out _).mono ?_
  rintro e w' ⟨rfl, rfl⟩
  go_wp2_with fail
  refine (HL.out _).mono ?_
  rintro e w2 ⟨rfl, b2⟩
  have B2 := Lib.hid (B1.out.trans (b2.mono B1.out.size))
  clear b2
  go_wp2_with fail
  go_loop [10, 41] (OfRd y (Y0 + d - 1) m) (fun _ i => m - (intOf i).toNat)
  case atStart => exact HST.out
  case round =>
    obtain ⟨k, hk, rfl, rfl⟩ := hrel
    have hb := HMD.out k hk
    by_cases hlt : k < m
    · have hc := HC.out w2 k (by omega)
      obtain ⟨L, hL⟩ : ∃ L, L = (if k = 0 then 0 else longN y k) := ⟨_, rfl⟩
      rw [← hL] at hc
      have hL31 : L ≤ 31 := by
        rw [hL]; split
        · omega
        · exact longN_le _ _
      have hs : mdR y (k + 1 - 1) = mdR y (k - 1) + L := by
        rw [hL]
        cases k with
        | zero => rfl
        | succ k => rfl
      obtain ⟨M, hM⟩ : ∃ M, M = mdR y (k - 1) := ⟨_, rfl⟩
      rw [← hM] at hb hs ⊢
      have HS : Hid (OfRd y (Y0 + d - 1) m (.int .i64 (((Y0 + d - 1 + M : Nat) : Int) + (L : Int))) (.int .i64 ((k : Int) + 1))) := ⟨k + 1, by omega, by congr 1, by rw [hs]; congr 1; omega⟩
      clear hL hs hM HST H6 HC
      go_wp2_with fail
      go_round
      case rel => exact HS.out
      case measure => simp [intOf]; omega
    · have hkm : k = m := by omega
      subst hkm
      rw [H6.out]
      clear hb HST HC
      go_wp2_with fail
      go_ret2
      exact ⟨2, by omega, rfl, B2.out.alloc (Nat.le_trans (by simp) B2.out.size) _⟩

theorem of_no (y m d : Nat) (w : World) (hd : d ≤ 1000) (h : ∀ day, day ≤ 99999 → ¬DateIs day y m d) : Calls Tryz.prog 44 #[.int .i64 (y : Int), .int .i64 (m : Int), .int .i64 (d : Int)] w (Refused w) := by
  by_cases h1 : (y < 1900 ∨ 2173 < y) ∨ m < 1 ∨ 12 < m
  · exact of_bad y m d w h1
  · by_cases h2 : d < 1 ∨ longN y m < d
    · exact of_day y m d (longN y m) w (longN_le _ _) h2 (fun W => length_yes y m W (by omega) (by omega) (by omega) (by omega))
    · have hi : DateIs (yd y + mdR y (m - 1) + d - 1) y m d := ⟨by omega, by omega, by omega, by omega, by omega, by omega⟩
      refine of_late _ y m d w ?_ (by omega) hi
      rcases Nat.lt_or_ge 99999 (yd y + mdR y (m - 1) + d - 1) with e | e
      · exact e
      · exact absurd hi (h _ e)

end Go.Proofs.YtnmiiimbjojcmaaGreatDoor

namespace Go.Proofs.YtnmiiimbjojcmaaGreatDoor
open Go.RowKit

theorem figB_numV (l : List UInt8) (h : ∀ c ∈ l, 48 ≤ c.toNat ∧ c.toNat ≤ 57) : figB (numV l) l.length = l := by
  have key : ∀ m : List UInt8, (∀ c ∈ m.reverse, 48 ≤ c.toNat ∧ c.toNat ≤ 57) → figB (numV m.reverse) m.length = m.reverse := by
    intro m
    induction m with
    | nil => intro _; rfl
    | cons a m ih =>
      intro h
      rw [List.reverse_cons] at h ⊢
      have a1 := ih (fun c hc => h c (List.mem_append_left _ hc))
      have a2 := h a (by simp)
      rw [numV_snoc, List.length_cons]
      show figB ((10 * numV m.reverse + (a.toNat - 48)) / 10) m.length ++ [UInt8.ofNat (48 + (10 * numV m.reverse + (a.toNat - 48)) % 10)] = _
      rw [show (10 * numV m.reverse + (a.toNat - 48)) / 10 = numV m.reverse by omega, show 48 + (10 * numV m.reverse + (a.toNat - 48)) % 10 = a.toNat by omega, a1]
      congr 2
      exact UInt8.toNat_inj.1 (by rw [UInt8.toNat_ofNat']; omega)
  have := key l.reverse (by simpa using h)
  simpa using this

theorem list_ten (l : List UInt8) (h : l.length = 10) : ∃ c0 c1 c2 c3 c4 c5 c6 c7 c8 c9, l = [c0, c1, c2, c3, c4, c5, c6, c7, c8, c9] := by
  match l, h with
  | [c0, c1, c2, c3, c4, c5, c6, c7, c8, c9], _ => exact ⟨c0, c1, c2, c3, c4, c5, c6, c7, c8, c9, rfl⟩

/-- What the call of number hands back. -/
def NuC (s : ByteArray) (n : Nat) (b : Bool) : Prop := ∀ W, Calls Tryz.prog 43 #[.string s] W fun e w' => e = .returned (.tuple #[.int .i64 (n : Int), .bool b]) ∧ W = w'

set_option maxHeartbeats 2000000 in
set_option maxRecDepth 100000 in
theorem dp_len (s : ByteArray) (w : World) (h : s.size ≠ 10) : Calls Tryz.prog 23 #[.string s] w (Refused w) := by
  have t10 : ((s.size : Int) != 10) = true := by simp; omega
  clear h
  go_enter Tryz.func23, Tryz.ntmps23
  go_wp2_with fail
  go_ret2
  exact ⟨12, by omega, rfl, Below.refl _ _⟩

set_option maxHeartbeats 2000000 in
set_option maxRecDepth 100000 in
theorem dp_dash4 (s : ByteArray) (w : World) (hs : s.size = 10) (e4 : (((s[4]'(by omega)).toNat : Int) != 45) = true) : Calls Tryz.prog 23 #[.string s] w (Refused w) := by
  have t10 : ((s.size : Int) != 10) = false := by rw [hs]; rfl
  go_enter Tryz.func23, Tryz.ntmps23
  go_wp2_with fail
  go_ret2
  exact ⟨12, by omega, rfl, Below.refl _ _⟩

set_option maxHeartbeats 2000000 in
set_option maxRecDepth 100000 in
theorem dp_dash7 (s : ByteArray) (w : World) (hs : s.size = 10) (e4 : (((s[4]'(by omega)).toNat : Int) != 45) = false) (e7 : (((s[7]'(by omega)).toNat : Int) != 45) = true) : Calls Tryz.prog 23 #[.string s] w (Refused w) := by
  have t10 : ((s.size : Int) != 10) = false := by rw [hs]; rfl
  go_enter Tryz.func23, Tryz.ntmps23
  go_wp2_with fail
  go_ret2
  exact ⟨12, by omega, rfl, Below.refl _ _⟩

set_option maxHeartbeats 4000000 in
set_option maxRecDepth 100000 in
theorem dp_num (s : ByteArray) (y m d : Nat) (b1 b2 b3 : Bool) (w : World) (hs : s.size = 10) (e4 : (((s[4]'(by omega)).toNat : Int) != 45) = false) (e7 : (((s[7]'(by omega)).toNat : Int) != 45) = false)
    (H1 : Hid (NuC (s.extract 0 4) y b1)) (H2 : Hid (NuC (s.extract 5 7) m b2)) (H3 : Hid (NuC (s.extract 8 10) d b3)) (hb : (b1 && b2 && b3) = false) :
    Calls Tryz.prog 23 #[.string s] w (Refused w) := by
  have t10 : ((s.size : Int) != 10) = false := by rw [hs]; rfl
  cases b1 <;> cases b2 <;> cases b3 <;> first | (cases hb; done) | skip
  all_goals
    clear hb
    go_enter Tryz.func23, Tryz.ntmps23
    go_wp2_with fail
    refine (H1.out _).mono ?_
    rintro e w' ⟨rfl, rfl⟩
    go_wp2_with fail
    refine (H2.out _).mono ?_
    rintro e w' ⟨rfl, rfl⟩
    go_wp2_with fail
    refine (H3.out _).mono ?_
    rintro e w' ⟨rfl, rfl⟩
    go_wp2_with fail
    go_ret2
    exact ⟨12, by omega, rfl, Below.refl _ _⟩

set_option maxHeartbeats 4000000 in
set_option maxRecDepth 100000 in
theorem dp_of (s : ByteArray) (y m d : Nat) (w : World) (hs : s.size = 10) (e4 : (((s[4]'(by omega)).toNat : Int) != 45) = false) (e7 : (((s[7]'(by omega)).toNat : Int) != 45) = false)
    (H1 : Hid (NuC (s.extract 0 4) y true)) (H2 : Hid (NuC (s.extract 5 7) m true)) (H3 : Hid (NuC (s.extract 8 10) d true))
    (HO : Hid (∀ W, Calls Tryz.prog 44 #[.int .i64 (y : Int), .int .i64 (m : Int), .int .i64 (d : Int)] W (Refused W))) :
    Calls Tryz.prog 23 #[.string s] w (Refused w) := by
  have t10 : ((s.size : Int) != 10) = false := by rw [hs]; rfl
  go_enter Tryz.func23, Tryz.ntmps23
  go_wp2_with fail
  refine (H1.out _).mono ?_
  rintro e w' ⟨rfl, rfl⟩
  go_wp2_with fail
  refine (H2.out _).mono ?_
  rintro e w' ⟨rfl, rfl⟩
  go_wp2_with fail
  refine (H3.out _).mono ?_
  rintro e w' ⟨rfl, rfl⟩
  go_wp2_with fail
  refine (HO.out _).mono ?_
  rintro e w2 ⟨q, hq, rfl, b2⟩
  have B2 := Lib.hid b2
  have HQ := Lib.hid hq
  clear b2 hq
  go_wp2_with fail
  go_ret2
  exact ⟨q, HQ.out, rfl, B2.out⟩

theorem number_ct (s : ByteArray) (hs : s.size ≤ 10) : ∃ b, NuC s (if b then numV s.data.toList else 0) b ∧ (b = true → ∀ c ∈ s.data.toList, 48 ≤ c.toNat ∧ c.toNat ≤ 57) := by
  by_cases h : ∀ c ∈ s.data.toList, 48 ≤ c.toNat ∧ c.toNat ≤ 57
  · exact ⟨true, fun W => number_dig s W hs h, fun _ => h⟩
  · refine ⟨false, fun W => number_no s W hs ?_, fun h => by cases h⟩
    simpa using h

theorem dparse_no (s : ByteArray) (w : World) (h : ∀ day y m d, day ≤ 99999 → DateIs day y m d → s.data.toList ≠ dateB y m d) : Calls Tryz.prog 23 #[.string s] w (Refused w) := by
  by_cases h10 : s.size = 10
  · by_cases e4 : (((s[4]'(by omega)).toNat : Int) != 45) = true
    · exact dp_dash4 s w h10 e4
    · have e4 : (((s[4]'(by omega)).toNat : Int) != 45) = false := by simpa using e4
      by_cases e7 : (((s[7]'(by omega)).toNat : Int) != 45) = true
      · exact dp_dash7 s w h10 e4 e7
      · have e7 : (((s[7]'(by omega)).toNat : Int) != 45) = false := by simpa using e7
        have sz : ∀ a b : Nat, b ≤ 10 → (s.extract a b).size = b - a := fun a b hb => by rw [← data_len, Lib.extract_data]; simp [h10]; omega
        obtain ⟨b1, n1, d1⟩ := number_ct (s.extract 0 4) (by rw [sz 0 4 (by omega)]; omega)
        obtain ⟨b2, n2, d2⟩ := number_ct (s.extract 5 7) (by rw [sz 5 7 (by omega)]; omega)
        obtain ⟨b3, n3, d3⟩ := number_ct (s.extract 8 10) (by rw [sz 8 10 (by omega)]; omega)
        by_cases hb : (b1 && b2 && b3) = true
        · simp only [Bool.and_eq_true] at hb
          obtain ⟨⟨rfl, rfl⟩, rfl⟩ := hb
          have d1 := d1 rfl
          have d2 := d2 rfl
          have d3 := d3 rfl
          have v3 := numV_le _ d3
          rw [data_len, sz 8 10 (by omega)] at v3
          refine dp_of s _ _ _ w h10 e4 e7 n1 n2 n3 (fun W => of_no _ _ _ W (by rw [if_pos rfl]; omega) (fun day hd hi => ?_))
          simp only [if_true] at hi
          refine h day _ _ _ hd hi ?_
          obtain ⟨c0, c1, c2, c3, c4, c5, c6, c7, c8, c9, hl⟩ := list_ten s.data.toList (by rw [data_len, h10])
          have k4 : c4 = 45 := by
            have := Lib.data_getElem? s 4 (by omega)
            rw [hl] at this
            have hc : c4 = s[4] := by simpa using this
            rw [hc]
            exact UInt8.toNat_inj.1 (by have : (s[4].toNat : Int) = 45 := by simpa using e4
                                        show s[4].toNat = 45
                                        omega)
          have k7 : c7 = 45 := by
            have := Lib.data_getElem? s 7 (by omega)
            rw [hl] at this
            have hc : c7 = s[7] := by simpa using this
            rw [hc]
            exact UInt8.toNat_inj.1 (by have : (s[7].toNat : Int) = 45 := by simpa using e7
                                        show s[7].toNat = 45
                                        omega)
          rw [Lib.extract_data, hl] at d1 d2 d3
          have x1 : (s.extract 0 4).data.toList = [c0, c1, c2, c3] := by rw [Lib.extract_data, hl]; rfl
          have x2 : (s.extract 5 7).data.toList = [c5, c6] := by rw [Lib.extract_data, hl]; rfl
          have x3 : (s.extract 8 10).data.toList = [c8, c9] := by rw [Lib.extract_data, hl]; rfl
          have f1 : figB (numV [c0, c1, c2, c3]) 4 = [c0, c1, c2, c3] := figB_numV _ d1
          have f2 : figB (numV [c5, c6]) 2 = [c5, c6] := figB_numV _ d2
          have f3 : figB (numV [c8, c9]) 2 = [c8, c9] := figB_numV _ d3
          rw [x1, x2, x3]
          unfold dateB
          rw [f1, f2, f3, hl, k4, k7]
          rfl
        · exact dp_num s _ _ _ b1 b2 b3 w h10 e4 e7 n1 n2 n3 (by simpa using hb)
  · exact dp_len s w h10

/-- A text is that of a date. -/
def DText (l : List UInt8) (day : Nat) : Prop := day ≤ 99999 ∧ ∃ y m d, DateIs day y m d ∧ l = dateB y m d
theorem dparse_any (s : ByteArray) :
    (∃ day, DText s.data.toList day ∧ ∀ W, Calls Tryz.prog 23 #[.string s] W fun e w' => e = .returned (.tuple #[.int .i64 (day : Int), .int .i64 0]) ∧ Below W.heap.size W w') ∨
    ((∀ day, ¬DText s.data.toList day) ∧ ∀ W, Calls Tryz.prog 23 #[.string s] W (Refused W)) := by
  by_cases h : ∃ day, DText s.data.toList day
  · obtain ⟨day, h1, y, m, d, h2, h3⟩ := h
    exact .inl ⟨day, ⟨h1, y, m, d, h2, h3⟩, fun W => dparse_yes s day y m d W h1 h2 h3⟩
  · exact .inr ⟨fun day hd => h ⟨day, hd⟩, fun W => dparse_no s W fun day y m d h1 h2 h3 => h ⟨day, h1, y, m, d, h2, h3⟩⟩

end Go.Proofs.YtnmiiimbjojcmaaGreatDoor
