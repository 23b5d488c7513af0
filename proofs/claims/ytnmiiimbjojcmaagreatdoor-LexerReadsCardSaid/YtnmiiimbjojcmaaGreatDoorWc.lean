/-
  The program's date.Parse walked, at what is a date. Condition: the text is that of a date. The program's date.Parse at the text of a date. Condition: the text is that of a date.
-/
import Derived.Test.YtnmiiimbjojcmaaGreatDoorWa
namespace Go.Proofs.YtnmiiimbjojcmaaGreatDoor
open Go.RowKit

/-- The value of digits. -/
def numV (l : List UInt8) : Nat := l.foldl (fun n c => 10 * n + (c.toNat - 48)) 0
theorem numV_snoc (l : List UInt8) (c : UInt8) : numV (l ++ [c]) = 10 * numV l + (c.toNat - 48) := by unfold numV; rw [List.foldl_append]; rfl
theorem numV_le (l : List UInt8) (h : ∀ c ∈ l, 48 ≤ c.toNat ∧ c.toNat ≤ 57) : numV l < 10 ^ l.length := by
  have key : ∀ m : List UInt8, (∀ c ∈ m.reverse, 48 ≤ c.toNat ∧ c.toNat ≤ 57) → numV m.reverse < 10 ^ m.length := by
    intro m
    induction m with
    | nil => intro _; decide
    | cons a m ih =>
      intro h
      rw [List.reverse_cons] at h ⊢
      rw [numV_snoc, List.length_cons, Nat.pow_succ]
      have a1 := ih (fun c hc => h c (List.mem_append_left _ hc))
      have a2 := h a (by simp)
      omega
  have := key l.reverse (by simpa using h)
  simpa using this

def NuR (s : ByteArray) (nv iv : Value) : Prop := ∃ k : Nat, k ≤ s.size ∧ iv = .int .i64 (k : Int) ∧ nv = .int .i64 (numV (s.data.toList.take k) : Int)

set_option maxHeartbeats 1000000 in
set_option maxRecDepth 100000 in
theorem number_dig (s : ByteArray) (w : World) (hs : s.size ≤ 10) (hd : ∀ c ∈ s.data.toList, 48 ≤ c.toNat ∧ c.toNat ≤ 57) :
    Calls Tryz.prog 43 #[.string s] w fun e w' => e = .returned (.tuple #[.int .i64 (numV s.data.toList : Int), .bool true]) ∧ w = w' := by
  have HD := Lib.hid hd
  have HB : Hid (∀ k, k ≤ s.size → numV (s.data.toList.take k) < 10 ^ 10) := fun k hk => by
    have h1 := numV_le (s.data.toList.take k) (fun c hc => hd c (List.mem_of_mem_take hc))
    have h2 : (s.data.toList.take k).length ≤ 10 := by rw [List.length_take, data_len]; omega
    exact Nat.lt_of_lt_of_le h1 (Nat.pow_le_pow_right (by omega) h2)
  clear hd
  go_enter Tryz.func43, Tryz.ntmps43
  go_wp2_with fail
  go_loop [2, 7] (NuR s) (fun _ i => s.size - (intOf i).toNat)
  case atStart => exact ⟨0, Nat.zero_le _, rfl, rfl⟩
  case round =>
    obtain ⟨k, hk, rfl, rfl⟩ := hrel
    have hb := HB.out k hk
    by_cases hlt : k < s.size
    · obtain ⟨c1, c2⟩ := HD.out s[k] (data_mem s k hlt)
      have HS : Hid (numV (s.data.toList.take (k + 1)) = 10 * numV (s.data.toList.take k) + (s[k].toNat - 48)) := by rw [data_take s k hlt, numV_snoc]; exact rfl
      obtain ⟨V, hV⟩ : ∃ V, V = numV (s.data.toList.take k) := ⟨_, rfl⟩
      rw [← hV] at hb HS ⊢
      clear hV
      have hb' : V < 10000000000 := hb
      clear hb
      go_wp2_with fail
      go_round
      case rel => exact ⟨k + 1, by omega, by go_num, by rw [HS.out]; congr 1; omega⟩
      case measure => simp [intOf]; omega
    · have HT : Hid (s.data.toList.take k = s.data.toList) := List.take_of_length_le (by rw [data_len]; omega)
      rw [HT.out]
      go_wp2_with fail
      go_ret2
      exact ⟨rfl, rfl⟩

set_option maxHeartbeats 1000000 in
set_option maxRecDepth 100000 in
theorem known_yes (y : Nat) (w : World) (h1 : 1900 ≤ y) (h2 : y ≤ 2173) : Calls Tryz.prog 77 #[.int .i64 (y : Int)] w (RetB w true) := by
  have t1 : decide ((1900 : Int) ≤ (y : Int)) = true := by simp; omega
  have t2 : decide ((y : Int) ≤ 2173) = true := by simp; omega
  go_enter Tryz.func77, Tryz.ntmps77
  go_wp2
  go_ret
  exact ⟨rfl, rfl⟩

set_option maxRecDepth 100000 in
theorem idx_len (y m : Nat) (m1 : 1 ≤ m) (m2 : m ≤ 12) (W : World) : (Instr.index 74 (.agg (lensV y)) (.int .i64 (m : Int))).run Tryz.prog W = .ok (.int .i64 (longN y m : Int)) W := by
  have hm : m = 1 ∨ m = 2 ∨ m = 3 ∨ m = 4 ∨ m = 5 ∨ m = 6 ∨ m = 7 ∨ m = 8 ∨ m = 9 ∨ m = 10 ∨ m = 11 ∨ m = 12 := by omega
  rcases hm with rfl | rfl | rfl | rfl | rfl | rfl | rfl | rfl | rfl | rfl | rfl | rfl <;> rfl

set_option maxHeartbeats 2000000 in
set_option maxRecDepth 100000 in
theorem length_yes (y m : Nat) (w : World) (h1 : 1900 ≤ y) (h2 : y ≤ 2173) (m1 : 1 ≤ m) (m2 : m ≤ 12) :
    Calls Tryz.prog 53 #[.int .i64 (y : Int), .int .i64 (m : Int)] w fun e w' => e = .returned (.tuple #[.int .i64 (longN y m : Int), .int .i64 0]) ∧ Below w.heap.size w w' := by
  have HK := Lib.hid (fun W => known_yes y W h1 h2)
  have HL := Lib.hid (fun W => lengths_any y W (by omega))
  have hidx := fun W => idx_len y m m1 m2 W
  obtain ⟨V, hV⟩ : ∃ V, V = lensV y := ⟨_, rfl⟩
  rw [← hV] at HL
  simp only [← hV] at hidx
  obtain ⟨L, hL⟩ : ∃ L, L = longN y m := ⟨_, rfl⟩
  rw [← hL] at hidx ⊢
  clear hV hL
  go_enter Tryz.func53, Tryz.ntmps53
  go_wp2_with fail
  refine (HK.out _).mono ?_
  rintro e w' ⟨rfl, rfl⟩
  go_wp2_with fail
  refine (HL.out _).mono ?_
  rintro e w2 ⟨rfl, b2⟩
  have B2 := Lib.hid b2
  clear b2
  go_wp2_with fail
  go_ret2
  exact ⟨rfl, B2.out⟩

/-- The loop of Of. -/
def OfRd (y base m : Nat) (dv iv : Value) : Prop := ∃ k : Nat, k ≤ m ∧ iv = .int .i64 (k : Int) ∧ dv = .int .i64 ((base + mdR y (k - 1) : Nat) : Int)

set_option maxHeartbeats 4000000 in
set_option maxRecDepth 100000 in
theorem of_yes (day y m d : Nat) (w : World) (hd : day ≤ 99999) (h : DateIs day y m d) :
    Calls Tryz.prog 44 #[.int .i64 (y : Int), .int .i64 (m : Int), .int .i64 (d : Int)] w fun e w' => e = .returned (.tuple #[.int .i64 (day : Int), .int .i64 0]) ∧ Below w.heap.size w w' := by
  obtain ⟨h1, h2, h3, h4, h5, h6⟩ := h
  have hlt := DateIs.lt ⟨h1, h2, h3, h4, h5, h6⟩
  have hy : y ≤ 2173 := by
    rcases Nat.lt_or_ge 2173 y with e | e
    · have a := yd_mono (a := 2174) (b := y) (by omega) (by omega)
      have b : yd 2174 = 100077 := by decide
      omega
    · exact e
  have HN := Lib.hid (fun W => length_yes y m W h1 hy h2 h3)
  have HF := Lib.hid (fun W => first_any' y W h1 (by omega))
  have hL := fun W => lengths_any y W (by omega)
  unfold lensV at hL
  have HL := Lib.hid hL
  have hc : ∀ W : World, ∀ k : Nat, k ≤ 12 → (W.alloc (.cells (lensV y) 74)).cell? ⟨W.heap.size, k, none⟩ = some (.int .i64 (((if k = 0 then 0 else longN y k) : Nat) : Int)) := fun W k a2 => by
    rw [RowAt.cell (rowAt_alloc (t := 74) (c := lensV y) rfl rfl) (by show k < 13; omega)]
    by_cases e : k = 0
    · subst e; rfl
    · rw [if_neg e]; simpa using lensV_get y k (by omega) a2
  unfold lensV at hc
  have HC := Lib.hid hc
  obtain ⟨n, hn⟩ : ∃ n, n = longN y m := ⟨_, rfl⟩
  rw [← hn] at HN h5
  have hn31 : n ≤ 31 := by rw [hn]; exact longN_le _ _
  obtain ⟨Y0, hY0⟩ : ∃ Y0, Y0 = yd y := ⟨_, rfl⟩
  rw [← hY0] at HF h6 hlt
  have HST : Hid (OfRd y (Y0 + d - 1) m (.int .i64 ((Y0 : Int) + (d : Int) - 1)) (.int .i64 0)) := ⟨0, Nat.zero_le _, rfl, by congr 1; show _ = ((Y0 + d - 1 + 0 : Nat) : Int); omega⟩
  have H6 : Hid (Y0 + d - 1 + mdR y (m - 1) = day) := by show _ = _; omega
  have hYb : Y0 ≤ 99999 := by omega
  have hmd : ∀ k, k ≤ m → mdR y (k - 1) ≤ 372 := fun k hk => by
    have a := mdR_mono y (a := k - 1) (b := 12) (by omega)
    rw [mdR_12] at a
    split at a <;> omega
  have HMD := Lib.hid hmd
  have hal : Tryz.prog.arrayLen 74 = 13 := by kernel_rfl
  have hel : Tryz.prog.elem 74 = 3 := by kernel_rfl
  have hsl : ∀ (W : World) (g : Nat), (Instr.sliceAt 74 (.pointer (some ⟨g, 0, none⟩)) none (some (.int .i64 (m : Int))) none).run Tryz.prog W = .ok (.slice (some ⟨g, 0, none⟩) m 13) W := fun W g => by
    rw [run_sliceAt_array_h W 74 ⟨g, 0, none⟩ (by kernel_rfl) .i64 (m : Int) (by omega) (by rw [hal]; omega), hal, hel, Tryz.sizeOf3]
    simp [slicedAt, Addr.add, Result.andThen]
  clear hL hc hn hY0 h6 hlt hmd
  go_enter Tryz.func44, Tryz.ntmps44
  go_wp2_with fail
  refine (HN.out _).mono ?_
  rintro e w1 ⟨rfl, b1⟩
  have B1 := Lib.hid b1
  clear b1
  go_wp2_with fail
  refine (HF.out _).mono ?_
  rintro e w' ⟨rfl, rfl⟩
  go_wp2_with fail
  refine (HL.out _).mono ?_
  rintro e w2 ⟨rfl, b2⟩
  have B2 := Lib.hid (B1.out.trans (b2.mono B1.out.size))
  clear b2
  go_wp2_with fail
  go_loop [10, 41] (OfRd y (Y0 + d - 1) m) (fun _ i => m - (intOf i).toNat)
  case atStart => exact HST.out
  case round =>
    obtain ⟨k, hk, rfl, rfl⟩ := hrel
    have hb := HMD.out k hk
    by_cases hlt : k < m
    · have hc := HC.out w2 k (by omega)
      obtain ⟨L, hL⟩ : ∃ L, L = (if k = 0 then 0 else longN y k) := ⟨_, rfl⟩
      rw [← hL] at hc
      have hL31 : L ≤ 31 := by
        rw [hL]; split
        · omega
        · exact longN_le _ _
      have hs : mdR y (k + 1 - 1) = mdR y (k - 1) + L := by
        rw [hL]
        cases k with
        | zero => rfl
        | succ k => rfl
      obtain ⟨M, hM⟩ : ∃ M, M = mdR y (k - 1) := ⟨_, rfl⟩
      rw [← hM] at hb hs ⊢
      have HS : Hid (OfRd y (Y0 + d - 1) m (.int .i64 (((Y0 + d - 1 + M : Nat) : Int) + (L : Int))) (.int .i64 ((k : Int) + 1))) := ⟨k + 1, by omega, by congr 1, by rw [hs]; congr 1; omega⟩
      clear hL hs hM HST H6 HC
      go_wp2_with fail
      go_round
      case rel => exact HS.out
      case measure => simp [intOf]; omega
    · have hkm : k = m := by omega
      subst hkm
      rw [H6.out]
      clear hb HST HC
      go_wp2_with fail
      go_ret2
      exact ⟨rfl, B2.out.alloc (Nat.le_trans (by simp) B2.out.size) _⟩

end Go.Proofs.YtnmiiimbjojcmaaGreatDoor

namespace Go.Proofs.YtnmiiimbjojcmaaGreatDoor
open Go.RowKit

theorem figB_dig (n k : Nat) : ∀ c ∈ figB n k, 48 ≤ c.toNat ∧ c.toNat ≤ 57 := by
  induction k generalizing n with
  | zero => intro c hc; cases hc
  | succ k ih =>
    intro c hc
    rcases List.mem_append.1 hc with hc | hc
    · exact ih _ c hc
    · rw [List.mem_singleton.1 hc, UInt8.toNat_ofNat']; omega
theorem numV_figB (n k : Nat) : numV (figB n k) = n % 10 ^ k := by
  induction k generalizing n with
  | zero => show 0 = _; simp [Nat.mod_one]
  | succ k ih =>
    show numV (figB (n / 10) k ++ [_]) = _
    have hp : n % (10 * 10 ^ k) = n % 10 + 10 * (n / 10 % 10 ^ k) := Nat.mod_mul
    rw [numV_snoc, ih, UInt8.toNat_ofNat', show 10 ^ (k + 1) = 10 * 10 ^ k by rw [Nat.pow_succ, Nat.mul_comm], hp]
    omega

set_option maxHeartbeats 2000000 in
set_option maxRecDepth 100000 in
theorem dparse_parts (s : ByteArray) (y m d day : Nat) (w : World) (hs : s.size = 10) (e4 : (((s[4]'(by omega)).toNat : Int) != 45) = false) (e7 : (((s[7]'(by omega)).toNat : Int) != 45) = false)
    (H1 : Hid (∀ W, Calls Tryz.prog 43 #[.string (s.extract 0 4)] W fun e w' => e = .returned (.tuple #[.int .i64 (y : Int), .bool true]) ∧ W = w'))
    (H2 : Hid (∀ W, Calls Tryz.prog 43 #[.string (s.extract 5 7)] W fun e w' => e = .returned (.tuple #[.int .i64 (m : Int), .bool true]) ∧ W = w'))
    (H3 : Hid (∀ W, Calls Tryz.prog 43 #[.string (s.extract 8 10)] W fun e w' => e = .returned (.tuple #[.int .i64 (d : Int), .bool true]) ∧ W = w'))
    (HO : Hid (∀ W, Calls Tryz.prog 44 #[.int .i64 (y : Int), .int .i64 (m : Int), .int .i64 (d : Int)] W fun e w' => e = .returned (.tuple #[.int .i64 (day : Int), .int .i64 0]) ∧ Below W.heap.size W w')) :
    Calls Tryz.prog 23 #[.string s] w fun e w' => e = .returned (.tuple #[.int .i64 (day : Int), .int .i64 0]) ∧ Below w.heap.size w w' := by
  have t10 : ((s.size : Int) != 10) = false := by rw [hs]; rfl
  go_enter Tryz.func23, Tryz.ntmps23
  go_wp2_with fail
  refine (H1.out _).mono ?_
  rintro e w' ⟨rfl, rfl⟩
  go_wp2_with fail
  refine (H2.out _).mono ?_
  rintro e w' ⟨rfl, rfl⟩
  go_wp2_with fail
  refine (H3.out _).mono ?_
  rintro e w' ⟨rfl, rfl⟩
  go_wp2_with fail
  refine (HO.out _).mono ?_
  rintro e w2 ⟨rfl, b2⟩
  have B2 := Lib.hid b2
  clear b2
  go_wp2_with fail
  go_ret2
  exact ⟨rfl, B2.out⟩

theorem number_fig (s : ByteArray) (n k : Nat) (h : s.data.toList = figB n k) (hk : k ≤ 10) (hn : n < 10 ^ k) : Hid (∀ W, Calls Tryz.prog 43 #[.string s] W fun e w' => e = .returned (.tuple #[.int .i64 (n : Int), .bool true]) ∧ W = w') := fun W => by
  have hs : s.size = k := by rw [← data_len, h, figB_len]
  have := number_dig s W (by omega) (by rw [h]; exact figB_dig n k)
  rwa [h, numV_figB, Nat.mod_eq_of_lt hn] at this

theorem dparse_yes (s : ByteArray) (day y m d : Nat) (w : World) (hd : day ≤ 99999) (h : DateIs day y m d) (hs : s.data.toList = dateB y m d) :
    Calls Tryz.prog 23 #[.string s] w fun e w' => e = .returned (.tuple #[.int .i64 (day : Int), .int .i64 0]) ∧ Below w.heap.size w w' := by
  have h10 : s.size = 10 := by rw [← data_len, hs, dateB_len]
  obtain ⟨hy, hdd⟩ := h.small hd
  have hm : m ≤ 12 := h.2.2.1
  have hx : ∀ a b : Nat, (s.extract a b).data.toList = ((dateB y m d).drop a).take (b - a) := fun a b => by rw [Lib.extract_data, hs]
  have l4 : figB y 4 = [UInt8.ofNat (48 + y / 10 / 10 / 10 % 10), UInt8.ofNat (48 + y / 10 / 10 % 10), UInt8.ofNat (48 + y / 10 % 10), UInt8.ofNat (48 + y % 10)] := rfl
  have l2 : figB m 2 = [UInt8.ofNat (48 + m / 10 % 10), UInt8.ofNat (48 + m % 10)] := rfl
  have l3 : figB d 2 = [UInt8.ofNat (48 + d / 10 % 10), UInt8.ofNat (48 + d % 10)] := rfl
  have g : ∀ (i : Nat) (hi : i < s.size), (dateB y m d)[i]? = some s[i] := fun i hi => by rw [← hs]; exact Lib.data_getElem? s i hi
  have c4 := g 4 (by omega)
  have c7 := g 7 (by omega)
  have e4 : (45 : UInt8) = s[4] := by unfold dateB at c4; rw [l4, l2, l3] at c4; simpa using c4
  have e7 : (45 : UInt8) = s[7] := by unfold dateB at c7; rw [l4, l2, l3] at c7; simpa using c7
  refine dparse_parts s y m d day w h10 (by rw [← e4]; rfl) (by rw [← e7]; rfl) (number_fig _ y 4 (by rw [hx]; unfold dateB; rw [l4, l2, l3]; rfl) (by omega) (by omega))
    (number_fig _ m 2 (by rw [hx]; unfold dateB; rw [l4, l2, l3]; rfl) (by omega) (by omega)) (number_fig _ d 2 (by rw [hx]; unfold dateB; rw [l4, l2, l3]; rfl) (by omega) (by omega)) (fun W => of_yes day y m d W hd h)

end Go.Proofs.YtnmiiimbjojcmaaGreatDoor
