/-
  integer.Check walked. No condition. Names walked: the program's and the reference's. No condition.
-/
import Derived.Test.YtdgmpgejemgbbaaGreatDoorRows
import Derived.Test.YtdgmpgejemgbbaaGreatDoorVb
import Derived.Lib.IndexBytes
import Derived.Lib.Strings
import Derived.Test.YtdgmpgejemgbbaaGreatDoorVc
namespace Go.Proofs.YtdgmpgejemgbbaaGreatDoor
open Go.RowKit

theorem toList_data (s : ByteArray) : s.toList = s.data.toList := ByteArray.toList_eq s
theorem data_head (s : ByteArray) (h : 0 < s.size) : s.data.toList.head? = some s[0] := by
  have := Lib.data_getElem? s 0 h
  rwa [← List.head?_eq_getElem?] at this
theorem data_len (s : ByteArray) : s.data.toList.length = s.size := by simp
theorem tail_data (s : ByteArray) : (s.extract 1 s.size).data.toList = s.data.toList.tail := by
  rw [Lib.extract_to_end, List.drop_one]
theorem data_mem (s : ByteArray) (k : Nat) (h : k < s.size) : s[k] ∈ s.data.toList := List.mem_of_getElem? (Lib.data_getElem? s k h)
theorem data_take (s : ByteArray) (k : Nat) (h : k < s.size) : s.data.toList.take (k + 1) = s.data.toList.take k ++ [s[k]] := by
  rw [List.take_add_one, Lib.data_getElem? s k h]; rfl
theorem u8_eq {c : UInt8} {n : Nat} (h : (c.toNat : Int) = n) (hn : n < 256) : c = UInt8.ofNat n := by
  apply UInt8.toNat_inj.1
  simp [UInt8.toNat_ofNat']; omega
theorem head_of {s : ByteArray} (h : 0 < s.size) {n : Nat} (hn : n < 256) (h1 : ((s[0].toNat : Int) == (n : Int)) = true) : s.data.toList.head? = some (UInt8.ofNat n) := by
  rw [data_head s h, u8_eq (c := s[0]) (n := n) (by simpa using h1) hn]
theorem head_not {s : ByteArray} (h : 0 < s.size) {n : Nat} (hn : n < 256) (h1 : ((s[0].toNat : Int) == (n : Int)) = false) : s.data.toList.head? ≠ some (UInt8.ofNat n) := by
  rw [data_head s h]
  intro e
  injection e with e
  rw [e] at h1
  simp [UInt8.toNat_ofNat'] at h1
  omega
theorem one_of {l : List UInt8} {c : UInt8} (h : l.head? = some c) (h1 : l.length = 1) : l = [c] := by
  match l, h1 with
  | [d], _ => simp at h; rw [h]

/-- The loop over the digits: what it knows. -/
def ChkR (t : ByteArray) (n : Nat) (i : Value) : Prop := ∃ k : Nat, k ≤ n ∧ i = .int .i64 k ∧ ∀ c ∈ t.data.toList.take k, 48 ≤ c.toNat ∧ c.toNat ≤ 57
theorem chkR_start (t : ByteArray) (n : Nat) : ChkR t n (.int .i64 0) := ⟨0, Nat.zero_le _, rfl, by simp⟩
theorem chkR_next (t : ByteArray) (k : Nat) (hk : k < t.size) (h : ∀ c ∈ t.data.toList.take k, 48 ≤ c.toNat ∧ c.toNat ≤ 57) (h1 : 48 ≤ t[k].toNat) (h2 : t[k].toNat ≤ 57) :
    ∀ c ∈ t.data.toList.take (k + 1), 48 ≤ c.toNat ∧ c.toNat ≤ 57 := by
  rw [data_take t k hk]
  intro c hc
  rcases List.mem_append.1 hc with hc | hc
  · exact h c hc
  · rw [List.mem_singleton.1 hc]; exact ⟨h1, h2⟩

set_option maxHeartbeats 1000000 in
theorem check_neg_loop (s : ByteArray) (w : World) (hs : s.size ≤ 1000000) (h0 : 0 < s.size) (h1 : ((s[0].toNat : Int) == 45) = true)
    (a1 : ((s.extract 1 s.size).toList == [48]) = false) (a2 : (s.extract 1 s.size).toList.isEmpty = false) (h2 : 0 < s.size - 1) (a3 : (((s.extract 1 s.size)[0]'(by simp; omega)).toNat == (48 : Int)) = false)
    (HT : Hid ((s.extract 1 s.size).size = s.size - 1))
    (HE : Hid (∀ c, c ∈ (s.extract 1 s.size).data.toList → ¬ (48 ≤ c.toNat ∧ c.toNat ≤ 57) → chkZ s.data.toList = 12))
    (HC : Hid ((∀ c ∈ (s.extract 1 s.size).data.toList, 48 ≤ c.toNat ∧ c.toNat ≤ 57) → chkZ s.data.toList = if 1000 < s.size - 1 then 14 else 0)) :
    Calls Tryz.prog 64 #[.string s] w fun e w' => e = .returned (.int .i64 (chkZ s.data.toList)) ∧ w' = w := by
  go_enter Tryz.func64, Tryz.ntmps64
  go_wp2_with fail
  go_loop [32] (fun i => ChkR (s.extract 1 s.size) (s.size - 1) i) (fun i => (s.size - 1) - (intOf i).toNat)
  case atStart => exact chkR_start _ _
  case round =>
    obtain ⟨k, hk, rfl, hd⟩ := hrel
    have HD := Lib.hid hd
    clear hd
    by_cases hlt : k < s.size - 1
    · have hlt' : k < (s.extract 1 s.size).size := by have := HT.out; omega
      by_cases hc : 48 ≤ (s.extract 1 s.size)[k].toNat ∧ (s.extract 1 s.size)[k].toNat ≤ 57
      · have HN := Lib.hid (chkR_next _ k hlt' HD.out hc.1 hc.2)
        obtain ⟨c1, c2⟩ := hc
        go_wp2
        go_round
        case rel => exact ⟨k + 1, by omega, by go_num, HN.out⟩
        case measure => simp [intOf]; omega
      · have e4 := Lib.hid (HE.out _ (data_mem _ k hlt') hc)
        have hc' : (s.extract 1 s.size)[k].toNat < 48 ∨ 57 < (s.extract 1 s.size)[k].toNat := by omega
        clear hc
        rcases hc' with c1 | c1
        · go_wp2
          go_ret
          exact ⟨ret_int e4.out.symm, rfl⟩
        · go_wp2
          go_ret
          exact ⟨ret_int e4.out.symm, rfl⟩
    · have hks : k = (s.extract 1 s.size).size := by have := HT.out; omega
      have e4 := Lib.hid (HC.out (by
        have := HD.out
        rwa [hks, List.take_of_length_le (by rw [data_len]; omega)] at this))
      clear hks
      by_cases hbig : 1000 < s.size - 1
      · have e5 := Lib.hid (e4.out.trans (if_pos hbig))
        have tb : decide ((1000 : Int) < ((s.size - 1 : Nat) : Int)) = true := by simp; omega
        have HB := Lib.hid hbig
        clear hbig
        go_wp2
        go_ret
        exact ⟨ret_int e5.out.symm, rfl⟩
      · have e5 := Lib.hid (e4.out.trans (if_neg hbig))
        have tb : decide ((1000 : Int) < ((s.size - 1 : Nat) : Int)) = false := by simp; omega
        have HB := Lib.hid hbig
        clear hbig
        go_wp2
        go_ret
        exact ⟨ret_int e5.out.symm, rfl⟩


set_option maxHeartbeats 1000000 in
theorem check_pos_loop (s : ByteArray) (w : World) (hs : s.size ≤ 1000000) (h0 : 0 < s.size) (h1 : ((s[0].toNat : Int) == 45) = false)
    (a2 : s.toList.isEmpty = false) (a3 : ((s[0].toNat : Int) == 48) = false)
    (HT : Hid (s.size = s.size))
    (HE : Hid (∀ c, c ∈ s.data.toList → ¬ (48 ≤ c.toNat ∧ c.toNat ≤ 57) → chkZ s.data.toList = 12))
    (HC : Hid ((∀ c ∈ s.data.toList, 48 ≤ c.toNat ∧ c.toNat ≤ 57) → chkZ s.data.toList = if 1000 < s.size then 14 else 0)) :
    Calls Tryz.prog 64 #[.string s] w fun e w' => e = .returned (.int .i64 (chkZ s.data.toList)) ∧ w' = w := by
  go_enter Tryz.func64, Tryz.ntmps64
  go_wp2_with fail
  go_loop [32] (fun i => ChkR (s) (s.size) i) (fun i => (s.size) - (intOf i).toNat)
  case atStart => exact chkR_start _ _
  case round =>
    obtain ⟨k, hk, rfl, hd⟩ := hrel
    have HD := Lib.hid hd
    clear hd
    by_cases hlt : k < s.size
    · have hlt' : k < (s).size := by have := HT.out; omega
      by_cases hc : 48 ≤ (s)[k].toNat ∧ (s)[k].toNat ≤ 57
      · have HN := Lib.hid (chkR_next _ k hlt' HD.out hc.1 hc.2)
        obtain ⟨c1, c2⟩ := hc
        go_wp2
        go_round
        case rel => exact ⟨k + 1, by omega, by go_num, HN.out⟩
        case measure => simp [intOf]; omega
      · have e4 := Lib.hid (HE.out _ (data_mem _ k hlt') hc)
        have hc' : (s)[k].toNat < 48 ∨ 57 < (s)[k].toNat := by omega
        clear hc
        rcases hc' with c1 | c1
        · go_wp2
          go_ret
          exact ⟨ret_int e4.out.symm, rfl⟩
        · go_wp2
          go_ret
          exact ⟨ret_int e4.out.symm, rfl⟩
    · have hks : k = (s).size := by have := HT.out; omega
      have e4 := Lib.hid (HC.out (by
        have := HD.out
        rwa [hks, List.take_of_length_le (by rw [data_len]; omega)] at this))
      clear hks
      by_cases hbig : 1000 < s.size
      · have e5 := Lib.hid (e4.out.trans (if_pos hbig))
        have tb : decide ((1000 : Int) < ((s.size : Nat) : Int)) = true := by simp; omega
        have HB := Lib.hid hbig
        clear hbig
        go_wp2
        go_ret
        exact ⟨ret_int e5.out.symm, rfl⟩
      · have e5 := Lib.hid (e4.out.trans (if_neg hbig))
        have tb : decide ((1000 : Int) < ((s.size : Nat) : Int)) = false := by simp; omega
        have HB := Lib.hid hbig
        clear hbig
        go_wp2
        go_ret
        exact ⟨ret_int e5.out.symm, rfl⟩

set_option maxHeartbeats 1000000 in
theorem check_zero_loop (s : ByteArray) (w : World) (hs : s.size ≤ 1) (h0 : 0 < s.size)
    (a2 : s.toList.isEmpty = false) (a3 : ((s[0].toNat : Int) == 48) = true)
    (HE : Hid (chkZ s.data.toList = 0)) :
    Calls Tryz.prog 64 #[.string s] w fun e w' => e = .returned (.int .i64 (chkZ s.data.toList)) ∧ w' = w := by
  have c0 : s[0].toNat = 48 := by have : (s[0].toNat : Int) = 48 := by simpa using a3
                                  omega
  have h1 : ((s[0].toNat : Int) == 45) = false := by rw [c0]; rfl
  have a4 : decide ((1 : Int) < (s.size : Int)) = false := by simp; omega
  have a5 : decide ((1000 : Int) < (s.size : Int)) = false := by simp; omega
  have HC0 := Lib.hid c0
  clear c0
  go_enter Tryz.func64, Tryz.ntmps64
  go_wp2_with fail
  go_loop [32] (fun i => ∃ k : Nat, k ≤ 1 ∧ i = .int .i64 k) (fun i => 1 - (intOf i).toNat)
  case atStart => exact ⟨0, by omega, rfl⟩
  case round =>
    obtain ⟨k, hk, rfl⟩ := hrel
    by_cases hk0 : k < 1
    · obtain rfl : k = 0 := by omega
      have c1 : 48 ≤ s[0].toNat := by have := HC0.out; omega
      have c2 : s[0].toNat ≤ 57 := by have := HC0.out; omega
      go_wp2
      go_round
      case rel => exact ⟨1, by omega, rfl⟩
      case measure => simp [intOf]
    · obtain rfl : k = 1 := by omega
      go_wp2
      go_ret
      exact ⟨ret_int HE.out.symm, rfl⟩

set_option maxHeartbeats 1000000 in
theorem check_long_zero (s : ByteArray) (w : World) (h0 : 1 < s.size) (h1 : ((s[0].toNat : Int) == 45) = false)
    (a2 : s.toList.isEmpty = false) (a3 : ((s[0].toNat : Int) == 48) = true) (HE : Hid (chkZ s.data.toList = 12)) :
    Calls Tryz.prog 64 #[.string s] w fun e w' => e = .returned (.int .i64 (chkZ s.data.toList)) ∧ w' = w := by
  go_enter Tryz.func64, Tryz.ntmps64
  go_wp2
  go_ret
  exact ⟨ret_int HE.out.symm, rfl⟩

set_option maxHeartbeats 1000000 in
theorem check_empty (s : ByteArray) (w : World) (h0 : s.toList = []) (h1 : s.size = 0) : Calls Tryz.prog 64 #[.string s] w fun e w' => e = .returned (.int .i64 (chkZ s.data.toList)) ∧ w' = w := by
  have HE : Hid (chkZ s.data.toList = 12) := by show _ = _; rw [← toList_data, h0]; exact chkN_nil
  go_enter Tryz.func64, Tryz.ntmps64
  go_wp2
  go_ret
  exact ⟨ret_int HE.out.symm, rfl⟩

set_option maxHeartbeats 1000000 in
theorem check_neg_zero (s : ByteArray) (w : World) (h0 : 0 < s.size) (h1 : ((s[0].toNat : Int) == 45) = true)
    (a1 : ((s.extract 1 s.size).toList == [48]) = true) (HE : Hid (chkZ s.data.toList = 12)) : Calls Tryz.prog 64 #[.string s] w fun e w' => e = .returned (.int .i64 (chkZ s.data.toList)) ∧ w' = w := by
  go_enter Tryz.func64, Tryz.ntmps64
  go_wp2
  go_ret
  exact ⟨ret_int HE.out.symm, rfl⟩
set_option maxHeartbeats 1000000 in
theorem check_neg_empty (s : ByteArray) (w : World) (h0 : 0 < s.size) (h1 : ((s[0].toNat : Int) == 45) = true)
    (_a1 : ((s.extract 1 s.size).toList == [48]) = false) (a2 : (s.extract 1 s.size).toList = []) (HE : Hid (chkZ s.data.toList = 12)) : Calls Tryz.prog 64 #[.string s] w fun e w' => e = .returned (.int .i64 (chkZ s.data.toList)) ∧ w' = w := by
  go_enter Tryz.func64, Tryz.ntmps64
  go_wp2
  go_ret
  exact ⟨ret_int HE.out.symm, rfl⟩
set_option maxHeartbeats 1000000 in
theorem check_neg_long (s : ByteArray) (w : World) (h0 : 0 < s.size) (h1 : ((s[0].toNat : Int) == 45) = true)
    (a1 : ((s.extract 1 s.size).toList == [48]) = false) (a2 : (s.extract 1 s.size).toList.isEmpty = false) (h2 : 1 < s.size - 1) (a3 : (((s.extract 1 s.size)[0]'(by simp; omega)).toNat == (48 : Int)) = true) (HE : Hid (chkZ s.data.toList = 12)) : Calls Tryz.prog 64 #[.string s] w fun e w' => e = .returned (.int .i64 (chkZ s.data.toList)) ∧ w' = w := by
  go_enter Tryz.func64, Tryz.ntmps64
  go_wp2
  go_ret
  exact ⟨ret_int HE.out.symm, rfl⟩

theorem check_any (s : ByteArray) (w : World) (hs : s.size ≤ 1000000) : Calls Tryz.prog 64 #[.string s] w fun e w' => e = .returned (.int .i64 (chkZ s.data.toList)) ∧ w' = w := by
  by_cases h0 : s.size = 0
  · exact check_empty s w (by rw [toList_data]; exact List.eq_nil_of_length_eq_zero (by rw [data_len]; exact h0)) h0
  · have h0 : 0 < s.size := by omega
    have hne : s.toList.isEmpty = false := by
      rw [toList_data]; cases h : s.data.toList with
      | nil => have := data_len s; rw [h] at this; simp at this; omega
      | cons a l => rfl
    cases h1 : ((s[0].toNat : Int) == 45) with
    | true =>
      have H45 := head_of h0 (n := 45) (by omega) h1
      have HT : (s.extract 1 s.size).size = s.size - 1 := by simp
      have ht := tail_data s
      cases a1 : ((s.extract 1 s.size).toList == [48]) with
      | true => exact check_neg_zero s w h0 h1 a1 (chkZ_neg0 H45 (by rw [← ht, ← toList_data]; simpa using a1))
      | false =>
        have e := chkZ_neg H45 (by rw [← ht, ← toList_data]; simpa using a1)
        rw [← ht] at e
        by_cases a2 : (s.extract 1 s.size).toList = []
        · exact check_neg_empty s w h0 h1 a1 a2 (by show _ = _; rw [e, ← toList_data, a2]; exact chkN_nil)
        · have a2' : (s.extract 1 s.size).toList.isEmpty = false := by simpa using a2
          have h2 : 0 < s.size - 1 := by rw [← HT, ← data_len, ← toList_data]; exact List.length_pos_iff.2 a2
          have h2' : 0 < (s.extract 1 s.size).size := by omega
          cases a3 : (((s.extract 1 s.size)[0].toNat : Int) == 48) with
          | true =>
            have hd := head_of h2' (n := 48) (by omega) a3
            have h3 : 1 < s.size - 1 := by
              rcases Nat.lt_or_ge 1 (s.size - 1) with h | h
              · exact h
              · exfalso
                have := one_of hd (by rw [data_len]; omega)
                rw [toList_data, this] at a1
                simp at a1
            exact check_neg_long s w h0 h1 a1 a2' h3 a3 (by show _ = _; rw [e]; exact chkN_zero hd (by rw [data_len]; omega))
          | false =>
            have hd := head_not h2' (n := 48) (by omega) a3
            refine check_neg_loop s w hs h0 h1 a1 a2' h2 a3 HT (fun c hc hn => e.trans (chkN_byte hc hn)) (fun h => ?_)
            rw [e, chkN_yes ⟨by rw [← toList_data]; exact a2, h, fun h48 => absurd h48 hd⟩, data_len, HT]
    | false =>
      have e := chkZ_pos (head_not h0 (n := 45) (by omega) h1)
      cases a3 : ((s[0].toNat : Int) == 48) with
      | true =>
        have hd := head_of h0 (n := 48) (by omega) a3
        by_cases h2 : 1 < s.size
        · exact check_long_zero s w h2 h1 hne a3 (by show _ = _; rw [e]; exact chkN_zero hd (by rw [data_len]; exact h2))
        · refine check_zero_loop s w (by omega) h0 hne a3 ?_
          show _ = _
          rw [e, one_of hd (by rw [data_len]; omega)]; rfl
      | false =>
        have hd := head_not h0 (n := 48) (by omega) a3
        refine check_pos_loop s w hs h0 h1 hne a3 rfl (fun c hc hn => e.trans (chkN_byte hc hn)) (fun h => ?_)
        rw [e, chkN_yes ⟨by rw [← toList_data]; simpa using hne, h, fun h48 => absurd h48 hd⟩, data_len]

end Go.Proofs.YtdgmpgejemgbbaaGreatDoor

namespace Go.Proofs.YtdgmpgejemgbbaaGreatDoor
open Go.RowKit

set_option maxHeartbeats 1000000 in
set_option maxRecDepth 100000 in
theorem letter_any (c : UInt8) (w : World) : Calls Tryz.prog 37 #[.int .u8 (c.toNat : Int)] w fun e w' => e = .returned (.bool (letB c)) ∧ w = w' := by
  have hc : c.toNat < 65 ∨ (65 ≤ c.toNat ∧ c.toNat ≤ 90) ∨ (90 < c.toNat ∧ c.toNat < 97) ∨ (97 ≤ c.toNat ∧ c.toNat ≤ 122) ∨ 122 < c.toNat := by omega
  rcases hc with h | ⟨h, h'⟩ | ⟨h, h'⟩ | ⟨h, h'⟩ | h
  · rw [letB_lo h]
    go_enter Tryz.func37, Tryz.ntmps37
    go_wp2
    go_ret
    exact ⟨ret_bool (by first | rfl | (simp; omega)), rfl⟩
  · rw [letB_cap h h']
    go_enter Tryz.func37, Tryz.ntmps37
    go_wp2
    go_ret
    exact ⟨ret_bool (by first | rfl | (simp; omega)), rfl⟩
  · rw [letB_mid h h']
    go_enter Tryz.func37, Tryz.ntmps37
    go_wp2
    go_ret
    exact ⟨ret_bool (by first | rfl | (simp; omega)), rfl⟩
  · rw [letB_small h h']
    go_enter Tryz.func37, Tryz.ntmps37
    go_wp2
    go_ret
    exact ⟨ret_bool (by first | rfl | (simp; omega)), rfl⟩
  · rw [letB_hi h]
    go_enter Tryz.func37, Tryz.ntmps37
    go_wp2
    go_ret
    exact ⟨ret_bool (by first | rfl | (simp; omega)), rfl⟩
theorem letter_is {c : UInt8} {b : Bool} (h : letB c = b) (w : World) : Calls Tryz.prog 37 #[.int .u8 (c.toNat : Int)] w fun e w' => e = .returned (.bool b) ∧ w = w' := h ▸ letter_any c w

/-- The loop over a name's bytes: what it knows. -/
def NmR (s : ByteArray) (i : Value) : Prop := ∃ k : Nat, k ≤ s.size ∧ i = .int .i64 k ∧ ∀ c ∈ s.data.toList.take k, (letB c || othB c) = true
theorem nmR_start (s : ByteArray) : NmR s (.int .i64 0) := ⟨0, Nat.zero_le _, rfl, by simp⟩
theorem nmR_next (s : ByteArray) (k : Nat) (hk : k < s.size) (h : ∀ c ∈ s.data.toList.take k, (letB c || othB c) = true) (h1 : (letB s[k] || othB s[k]) = true) :
    ∀ c ∈ s.data.toList.take (k + 1), (letB c || othB c) = true := by
  rw [data_take s k hk]
  intro c hc
  rcases List.mem_append.1 hc with hc | hc
  · exact h c hc
  · rw [List.mem_singleton.1 hc]; exact h1

set_option maxHeartbeats 1000000 in
set_option maxRecDepth 100000 in
theorem name_loop (s : ByteArray) (w : World) (h0 : 0 < s.size) (h4 : s.size ≤ 40) (h1 : letB s[0] = true) :
    Calls Tryz.prog 18 #[.string s] w fun e w' => e = .returned (.bool (nmB s.data.toList)) ∧ w = w' := by
  have HL := Lib.hid (fun W => letter_is h1 W)
  have HA : Hid ((∀ x ∈ s.data.toList, (letB x || othB x) = true) → nmB s.data.toList = true) := fun h => nmB_ok (by rw [data_len]; omega) (by rw [data_len]; omega) (data_head s h0) h1 h
  clear h1
  go_enter Tryz.func18, Tryz.ntmps18
  go_wp2_with fail
  refine (HL.out _).mono ?_
  rintro e w' ⟨rfl, rfl⟩
  go_wp2_with fail
  go_loop [21] (fun i => NmR s i) (fun i => s.size - (intOf i).toNat)
  case atStart => exact nmR_start s
  case round =>
    obtain ⟨k, hk, rfl, hd⟩ := hrel
    have HD := Lib.hid hd
    clear hd HL
    by_cases hlt : k < s.size
    · cases hb : letB s[k] with
      | true =>
        have HN := Lib.hid (nmR_next s k hlt HD.out (by rw [hb]; rfl))
        have HB := Lib.hid (fun W => letter_is hb W)
        clear hb HA HD
        go_wp2_with fail
        refine (HB.out _).mono ?_
        rintro e w' ⟨rfl, rfl⟩
        go_wp2_with fail
        go_round
        case rel => exact ⟨k + 1, by omega, by go_num, HN.out⟩
        case measure => simp [intOf]; omega
      | false =>
        have HB := Lib.hid (fun W => letter_is hb W)
        cases ho : othB s[k] with
        | true =>
          have HN := Lib.hid (nmR_next s k hlt HD.out (by rw [ho]; simp))
          have hc : (48 ≤ s[k].toNat ∧ s[k].toNat ≤ 57) ∨ (95 ≤ s[k].toNat ∧ s[k].toNat ≤ 95) ∨ (45 ≤ s[k].toNat ∧ s[k].toNat ≤ 45) := by unfold othB at ho; simp at ho; omega
          clear hb ho HA HD
          rcases hc with ⟨c1, c2⟩ | ⟨c1, c2⟩ | ⟨c1, c2⟩
          · have p48 : (decide ((s[k].toNat : Int) < 48)) = false := by simp; omega
            have p57 : (decide ((57 : Int) < (s[k].toNat : Int))) = false := by simp; omega
            have e95 : ((s[k].toNat : Int) != 95) = true := by simp; omega
            have e45 : ((s[k].toNat : Int) != 45) = true := by simp; omega
            clear c1 c2
            go_wp2_with fail
            refine (HB.out _).mono ?_
            rintro e w' ⟨rfl, rfl⟩
            go_wp2
            go_round
            case rel => exact ⟨k + 1, by omega, by go_num, HN.out⟩
            case measure => simp [intOf]; omega
          · have p48 : (decide ((s[k].toNat : Int) < 48)) = false := by simp; omega
            have p57 : (decide ((57 : Int) < (s[k].toNat : Int))) = true := by simp; omega
            have e95 : ((s[k].toNat : Int) != 95) = false := by simp; omega
            have e45 : ((s[k].toNat : Int) != 45) = true := by simp; omega
            clear c1 c2
            go_wp2_with fail
            refine (HB.out _).mono ?_
            rintro e w' ⟨rfl, rfl⟩
            go_wp2
            go_round
            case rel => exact ⟨k + 1, by omega, by go_num, HN.out⟩
            case measure => simp [intOf]; omega
          · have p48 : (decide ((s[k].toNat : Int) < 48)) = true := by simp; omega
            have p57 : (decide ((57 : Int) < (s[k].toNat : Int))) = false := by simp; omega
            have e95 : ((s[k].toNat : Int) != 95) = true := by simp; omega
            have e45 : ((s[k].toNat : Int) != 45) = false := by simp; omega
            clear c1 c2
            go_wp2_with fail
            refine (HB.out _).mono ?_
            rintro e w' ⟨rfl, rfl⟩
            go_wp2
            go_round
            case rel => exact ⟨k + 1, by omega, by go_num, HN.out⟩
            case measure => simp [intOf]; omega
        | false =>
          have e4 := Lib.hid (nmB_bad (data_mem s k hlt) hb ho)
          have hc : (0 ≤ s[k].toNat ∧ s[k].toNat ≤ 44) ∨ (46 ≤ s[k].toNat ∧ s[k].toNat ≤ 47) ∨ (58 ≤ s[k].toNat ∧ s[k].toNat ≤ 94) ∨ (96 ≤ s[k].toNat ∧ s[k].toNat ≤ 255) := by
            have := s[k].toNat_lt
            unfold othB at ho; simp at ho; omega
          clear hb ho HA HD
          rcases hc with ⟨c1, c2⟩ | ⟨c1, c2⟩ | ⟨c1, c2⟩ | ⟨c1, c2⟩
          · have p48 : (decide ((s[k].toNat : Int) < 48)) = true := by simp; omega
            have p57 : (decide ((57 : Int) < (s[k].toNat : Int))) = false := by simp; omega
            have e95 : ((s[k].toNat : Int) != 95) = true := by simp; omega
            have e45 : ((s[k].toNat : Int) != 45) = true := by simp; omega
            clear c1 c2
            go_wp2_with fail
            refine (HB.out _).mono ?_
            rintro e w' ⟨rfl, rfl⟩
            go_wp2
            go_ret
            exact ⟨ret_bool e4.out.symm, rfl⟩
          · have p48 : (decide ((s[k].toNat : Int) < 48)) = true := by simp; omega
            have p57 : (decide ((57 : Int) < (s[k].toNat : Int))) = false := by simp; omega
            have e95 : ((s[k].toNat : Int) != 95) = true := by simp; omega
            have e45 : ((s[k].toNat : Int) != 45) = true := by simp; omega
            clear c1 c2
            go_wp2_with fail
            refine (HB.out _).mono ?_
            rintro e w' ⟨rfl, rfl⟩
            go_wp2
            go_ret
            exact ⟨ret_bool e4.out.symm, rfl⟩
          · have p48 : (decide ((s[k].toNat : Int) < 48)) = false := by simp; omega
            have p57 : (decide ((57 : Int) < (s[k].toNat : Int))) = true := by simp; omega
            have e95 : ((s[k].toNat : Int) != 95) = true := by simp; omega
            have e45 : ((s[k].toNat : Int) != 45) = true := by simp; omega
            clear c1 c2
            go_wp2_with fail
            refine (HB.out _).mono ?_
            rintro e w' ⟨rfl, rfl⟩
            go_wp2
            go_ret
            exact ⟨ret_bool e4.out.symm, rfl⟩
          · have p48 : (decide ((s[k].toNat : Int) < 48)) = false := by simp; omega
            have p57 : (decide ((57 : Int) < (s[k].toNat : Int))) = true := by simp; omega
            have e95 : ((s[k].toNat : Int) != 95) = true := by simp; omega
            have e45 : ((s[k].toNat : Int) != 45) = true := by simp; omega
            clear c1 c2
            go_wp2_with fail
            refine (HB.out _).mono ?_
            rintro e w' ⟨rfl, rfl⟩
            go_wp2
            go_ret
            exact ⟨ret_bool e4.out.symm, rfl⟩
    · have e4 := Lib.hid (HA.out (by
        have := HD.out
        rwa [List.take_of_length_le (by rw [data_len]; omega)] at this))
      clear HA HD
      go_wp2
      go_ret
      exact ⟨ret_bool e4.out.symm, rfl⟩

set_option maxHeartbeats 1000000 in
set_option maxRecDepth 100000 in
theorem name_any (s : ByteArray) (w : World) :
    Calls Tryz.prog 18 #[.string s] w fun e w' => e = .returned (.bool (nmB s.data.toList)) ∧ w = w' := by
  by_cases h0 : s.size < 1
  · rw [nmB_len (.inl (by rw [data_len]; exact h0))]
    go_enter Tryz.func18, Tryz.ntmps18
    go_wp2
    go_ret
    exact ⟨rfl, rfl⟩
  by_cases h4 : 40 < s.size
  · rw [nmB_len (.inr (by rw [data_len]; exact h4))]
    go_enter Tryz.func18, Tryz.ntmps18
    go_wp2
    go_ret
    exact ⟨rfl, rfl⟩
  have h0' : 0 < s.size := by omega
  have h4' : s.size ≤ 40 := by omega
  clear h0 h4
  cases h1 : letB (s[0]'h0') with
  | true => exact name_loop s w h0' h4' h1
  | false =>
    rw [nmB_head (data_head s h0') h1]
    have HL := Lib.hid (fun W => letter_is h1 W)
    clear h1
    go_enter Tryz.func18, Tryz.ntmps18
    go_wp2_with fail
    refine (HL.out _).mono ?_
    rintro e w' ⟨rfl, rfl⟩
    go_wp2_with fail
    go_ret
    exact ⟨rfl, rfl⟩

set_option maxHeartbeats 4000000 in
set_option maxRecDepth 100000 in
theorem rname_loop (s : ByteArray) (w : World) (h0 : 0 < s.size) (h4 : s.size ≤ 40) :
    Calls Tryz.prog 20 #[.string s] w fun e w' => e = .returned (.bool (nmB s.data.toList)) ∧ w = w' := by
  have HH : Hid (letB s[0] = false → nmB s.data.toList = false) := fun h => nmB_head (data_head s h0) h
  have HA : Hid (letB s[0] = true → (∀ x ∈ s.data.toList, (letB x || othB x) = true) → nmB s.data.toList = true) := fun h1 h => nmB_ok (by rw [data_len]; omega) (by rw [data_len]; omega) (data_head s h0) h1 h
  have t0 : ((s.size : Int) == 0) = false := by simp; intro h; rw [h] at h0; exact absurd h0 (by decide)
  go_enter Tryz.func20, Tryz.ntmps20
  go_wp2_with fail
  go_loop [3] (fun i => NmR s i ∧ (0 < (intOf i).toNat → letB s[0] = true)) (fun i => s.size - (intOf i).toNat)
  case atStart => exact ⟨nmR_start s, fun h => absurd h (by simp [intOf])⟩
  case round =>
    obtain ⟨⟨k, hk, rfl, hd⟩, h1⟩ := hrel
    have HD := Lib.hid hd
    have h1' : Hid (0 < k → letB s[0] = true) := fun h => h1 (by simpa [intOf] using h)
    clear hd h1
    by_cases hlt : k < s.size
    · have hb : Hid (∀ b, letB s[k] = b → k = 0 → letB s[0] = b) := fun b hb hk => by subst hk; exact hb
      cases hl : letB s[k] with
      | true =>
        have HN := Lib.hid (nmR_next s k hlt HD.out (by rw [hl]; rfl))
        have H0 : Hid (letB s[0] = true) := by
          rcases Nat.eq_zero_or_pos k with e | e
          · exact hb.out _ hl e
          · exact h1'.out e
        have hc : (65 ≤ s[k].toNat ∧ s[k].toNat ≤ 90) ∨ (97 ≤ s[k].toNat ∧ s[k].toNat ≤ 122) := by unfold letB at hl; simp at hl; omega
        clear hb hl HA HD HH h1'
        rcases hc with ⟨c1, c2⟩ | ⟨c1, c2⟩
        · have p97 : (decide ((97 : Int) ≤ (s[k].toNat : Int))) = false := by simp; omega
          have p122 : (decide ((s[k].toNat : Int) ≤ 122)) = true := by simp; omega
          have p65 : (decide ((65 : Int) ≤ (s[k].toNat : Int))) = true := by simp; omega
          have p90 : (decide ((s[k].toNat : Int) ≤ 90)) = true := by simp; omega
          have p48 : (decide ((48 : Int) ≤ (s[k].toNat : Int))) = true := by simp; omega
          have p57 : (decide ((s[k].toNat : Int) ≤ 57)) = false := by simp; omega
          have e95 : ((s[k].toNat : Int) == 95) = false := by simp; omega
          have e45 : ((s[k].toNat : Int) == 45) = false := by simp; omega
          clear c1 c2
          go_wp2
          go_round
          case rel => exact ⟨⟨k + 1, by omega, by go_num, HN.out⟩, fun _ => H0.out⟩
          case measure => simp [intOf]; omega
        · have p97 : (decide ((97 : Int) ≤ (s[k].toNat : Int))) = true := by simp; omega
          have p122 : (decide ((s[k].toNat : Int) ≤ 122)) = true := by simp; omega
          have p65 : (decide ((65 : Int) ≤ (s[k].toNat : Int))) = true := by simp; omega
          have p90 : (decide ((s[k].toNat : Int) ≤ 90)) = false := by simp; omega
          have p48 : (decide ((48 : Int) ≤ (s[k].toNat : Int))) = true := by simp; omega
          have p57 : (decide ((s[k].toNat : Int) ≤ 57)) = false := by simp; omega
          have e95 : ((s[k].toNat : Int) == 95) = false := by simp; omega
          have e45 : ((s[k].toNat : Int) == 45) = false := by simp; omega
          clear c1 c2
          go_wp2
          go_round
          case rel => exact ⟨⟨k + 1, by omega, by go_num, HN.out⟩, fun _ => H0.out⟩
          case measure => simp [intOf]; omega
      | false =>
        have hl' : s[k].toNat < 65 ∨ (90 < s[k].toNat ∧ s[k].toNat < 97) ∨ 122 < s[k].toNat := by unfold letB at hl; simp at hl; omega
        have hu := s[k].toNat_lt
        by_cases hk0 : k = 0
        · have e4 := Lib.hid (HH.out (hb.out _ hl hk0))
          clear hb hl HA HD HH h1'
          subst hk0
          have hc : (0 ≤ s[0].toNat ∧ s[0].toNat ≤ 44) ∨ (45 ≤ s[0].toNat ∧ s[0].toNat ≤ 45) ∨ (46 ≤ s[0].toNat ∧ s[0].toNat ≤ 47) ∨ (48 ≤ s[0].toNat ∧ s[0].toNat ≤ 57) ∨ (58 ≤ s[0].toNat ∧ s[0].toNat ≤ 64) ∨ (91 ≤ s[0].toNat ∧ s[0].toNat ≤ 94) ∨ (95 ≤ s[0].toNat ∧ s[0].toNat ≤ 95) ∨ (96 ≤ s[0].toNat ∧ s[0].toNat ≤ 96) ∨ (123 ≤ s[0].toNat ∧ s[0].toNat ≤ 255) := by omega
          clear hl' hu
          rcases hc with ⟨c1, c2⟩ | ⟨c1, c2⟩ | ⟨c1, c2⟩ | ⟨c1, c2⟩ | ⟨c1, c2⟩ | ⟨c1, c2⟩ | ⟨c1, c2⟩ | ⟨c1, c2⟩ | ⟨c1, c2⟩
          · have p97 : (decide ((97 : Int) ≤ (s[0].toNat : Int))) = false := by simp; omega
            have p122 : (decide ((s[0].toNat : Int) ≤ 122)) = true := by simp; omega
            have p65 : (decide ((65 : Int) ≤ (s[0].toNat : Int))) = false := by simp; omega
            have p90 : (decide ((s[0].toNat : Int) ≤ 90)) = true := by simp; omega
            have p48 : (decide ((48 : Int) ≤ (s[0].toNat : Int))) = false := by simp; omega
            have p57 : (decide ((s[0].toNat : Int) ≤ 57)) = true := by simp; omega
            have e95 : ((s[0].toNat : Int) == 95) = false := by simp; omega
            have e45 : ((s[0].toNat : Int) == 45) = false := by simp; omega
            clear c1 c2
            go_wp2
            go_ret
            exact ⟨ret_bool e4.out.symm, rfl⟩
          · have p97 : (decide ((97 : Int) ≤ (s[0].toNat : Int))) = false := by simp; omega
            have p122 : (decide ((s[0].toNat : Int) ≤ 122)) = true := by simp; omega
            have p65 : (decide ((65 : Int) ≤ (s[0].toNat : Int))) = false := by simp; omega
            have p90 : (decide ((s[0].toNat : Int) ≤ 90)) = true := by simp; omega
            have p48 : (decide ((48 : Int) ≤ (s[0].toNat : Int))) = false := by simp; omega
            have p57 : (decide ((s[0].toNat : Int) ≤ 57)) = true := by simp; omega
            have e95 : ((s[0].toNat : Int) == 95) = false := by simp; omega
            have e45 : ((s[0].toNat : Int) == 45) = true := by simp; omega
            clear c1 c2
            go_wp2
            go_ret
            exact ⟨ret_bool e4.out.symm, rfl⟩
          · have p97 : (decide ((97 : Int) ≤ (s[0].toNat : Int))) = false := by simp; omega
            have p122 : (decide ((s[0].toNat : Int) ≤ 122)) = true := by simp; omega
            have p65 : (decide ((65 : Int) ≤ (s[0].toNat : Int))) = false := by simp; omega
            have p90 : (decide ((s[0].toNat : Int) ≤ 90)) = true := by simp; omega
            have p48 : (decide ((48 : Int) ≤ (s[0].toNat : Int))) = false := by simp; omega
            have p57 : (decide ((s[0].toNat : Int) ≤ 57)) = true := by simp; omega
            have e95 : ((s[0].toNat : Int) == 95) = false := by simp; omega
            have e45 : ((s[0].toNat : Int) == 45) = false := by simp; omega
            clear c1 c2
            go_wp2
            go_ret
            exact ⟨ret_bool e4.out.symm, rfl⟩
          · have p97 : (decide ((97 : Int) ≤ (s[0].toNat : Int))) = false := by simp; omega
            have p122 : (decide ((s[0].toNat : Int) ≤ 122)) = true := by simp; omega
            have p65 : (decide ((65 : Int) ≤ (s[0].toNat : Int))) = false := by simp; omega
            have p90 : (decide ((s[0].toNat : Int) ≤ 90)) = true := by simp; omega
            have p48 : (decide ((48 : Int) ≤ (s[0].toNat : Int))) = true := by simp; omega
            have p57 : (decide ((s[0].toNat : Int) ≤ 57)) = true := by simp; omega
            have e95 : ((s[0].toNat : Int) == 95) = false := by simp; omega
            have e45 : ((s[0].toNat : Int) == 45) = false := by simp; omega
            clear c1 c2
            go_wp2
            go_ret
            exact ⟨ret_bool e4.out.symm, rfl⟩
          · have p97 : (decide ((97 : Int) ≤ (s[0].toNat : Int))) = false := by simp; omega
            have p122 : (decide ((s[0].toNat : Int) ≤ 122)) = true := by simp; omega
            have p65 : (decide ((65 : Int) ≤ (s[0].toNat : Int))) = false := by simp; omega
            have p90 : (decide ((s[0].toNat : Int) ≤ 90)) = true := by simp; omega
            have p48 : (decide ((48 : Int) ≤ (s[0].toNat : Int))) = true := by simp; omega
            have p57 : (decide ((s[0].toNat : Int) ≤ 57)) = false := by simp; omega
            have e95 : ((s[0].toNat : Int) == 95) = false := by simp; omega
            have e45 : ((s[0].toNat : Int) == 45) = false := by simp; omega
            clear c1 c2
            go_wp2
            go_ret
            exact ⟨ret_bool e4.out.symm, rfl⟩
          · have p97 : (decide ((97 : Int) ≤ (s[0].toNat : Int))) = false := by simp; omega
            have p122 : (decide ((s[0].toNat : Int) ≤ 122)) = true := by simp; omega
            have p65 : (decide ((65 : Int) ≤ (s[0].toNat : Int))) = true := by simp; omega
            have p90 : (decide ((s[0].toNat : Int) ≤ 90)) = false := by simp; omega
            have p48 : (decide ((48 : Int) ≤ (s[0].toNat : Int))) = true := by simp; omega
            have p57 : (decide ((s[0].toNat : Int) ≤ 57)) = false := by simp; omega
            have e95 : ((s[0].toNat : Int) == 95) = false := by simp; omega
            have e45 : ((s[0].toNat : Int) == 45) = false := by simp; omega
            clear c1 c2
            go_wp2
            go_ret
            exact ⟨ret_bool e4.out.symm, rfl⟩
          · have p97 : (decide ((97 : Int) ≤ (s[0].toNat : Int))) = false := by simp; omega
            have p122 : (decide ((s[0].toNat : Int) ≤ 122)) = true := by simp; omega
            have p65 : (decide ((65 : Int) ≤ (s[0].toNat : Int))) = true := by simp; omega
            have p90 : (decide ((s[0].toNat : Int) ≤ 90)) = false := by simp; omega
            have p48 : (decide ((48 : Int) ≤ (s[0].toNat : Int))) = true := by simp; omega
            have p57 : (decide ((s[0].toNat : Int) ≤ 57)) = false := by simp; omega
            have e95 : ((s[0].toNat : Int) == 95) = true := by simp; omega
            have e45 : ((s[0].toNat : Int) == 45) = false := by simp; omega
            clear c1 c2
            go_wp2
            go_ret
            exact ⟨ret_bool e4.out.symm, rfl⟩
          · have p97 : (decide ((97 : Int) ≤ (s[0].toNat : Int))) = false := by simp; omega
            have p122 : (decide ((s[0].toNat : Int) ≤ 122)) = true := by simp; omega
            have p65 : (decide ((65 : Int) ≤ (s[0].toNat : Int))) = true := by simp; omega
            have p90 : (decide ((s[0].toNat : Int) ≤ 90)) = false := by simp; omega
            have p48 : (decide ((48 : Int) ≤ (s[0].toNat : Int))) = true := by simp; omega
            have p57 : (decide ((s[0].toNat : Int) ≤ 57)) = false := by simp; omega
            have e95 : ((s[0].toNat : Int) == 95) = false := by simp; omega
            have e45 : ((s[0].toNat : Int) == 45) = false := by simp; omega
            clear c1 c2
            go_wp2
            go_ret
            exact ⟨ret_bool e4.out.symm, rfl⟩
          · have p97 : (decide ((97 : Int) ≤ (s[0].toNat : Int))) = true := by simp; omega
            have p122 : (decide ((s[0].toNat : Int) ≤ 122)) = false := by simp; omega
            have p65 : (decide ((65 : Int) ≤ (s[0].toNat : Int))) = true := by simp; omega
            have p90 : (decide ((s[0].toNat : Int) ≤ 90)) = false := by simp; omega
            have p48 : (decide ((48 : Int) ≤ (s[0].toNat : Int))) = true := by simp; omega
            have p57 : (decide ((s[0].toNat : Int) ≤ 57)) = false := by simp; omega
            have e95 : ((s[0].toNat : Int) == 95) = false := by simp; omega
            have e45 : ((s[0].toNat : Int) == 45) = false := by simp; omega
            clear c1 c2
            go_wp2
            go_ret
            exact ⟨ret_bool e4.out.symm, rfl⟩
        · have H0 := Lib.hid (h1'.out (by omega))
          have ek : ((k : Int) == 0) = false := by simp; omega
          cases ho : othB s[k] with
          | true =>
            have HN := Lib.hid (nmR_next s k hlt HD.out (by rw [ho]; simp))
            have hc : (48 ≤ s[k].toNat ∧ s[k].toNat ≤ 57) ∨ (95 ≤ s[k].toNat ∧ s[k].toNat ≤ 95) ∨ (45 ≤ s[k].toNat ∧ s[k].toNat ≤ 45) := by unfold othB at ho; simp at ho; omega
            clear hb hl hl' hu ho HA HD HH h1'
            rcases hc with ⟨c1, c2⟩ | ⟨c1, c2⟩ | ⟨c1, c2⟩
            · have p97 : (decide ((97 : Int) ≤ (s[k].toNat : Int))) = false := by simp; omega
              have p122 : (decide ((s[k].toNat : Int) ≤ 122)) = true := by simp; omega
              have p65 : (decide ((65 : Int) ≤ (s[k].toNat : Int))) = false := by simp; omega
              have p90 : (decide ((s[k].toNat : Int) ≤ 90)) = true := by simp; omega
              have p48 : (decide ((48 : Int) ≤ (s[k].toNat : Int))) = true := by simp; omega
              have p57 : (decide ((s[k].toNat : Int) ≤ 57)) = true := by simp; omega
              have e95 : ((s[k].toNat : Int) == 95) = false := by simp; omega
              have e45 : ((s[k].toNat : Int) == 45) = false := by simp; omega
              clear c1 c2
              go_wp2
              go_round
              case rel => exact ⟨⟨k + 1, by omega, by go_num, HN.out⟩, fun _ => H0.out⟩
              case measure => simp [intOf]; omega
            · have p97 : (decide ((97 : Int) ≤ (s[k].toNat : Int))) = false := by simp; omega
              have p122 : (decide ((s[k].toNat : Int) ≤ 122)) = true := by simp; omega
              have p65 : (decide ((65 : Int) ≤ (s[k].toNat : Int))) = true := by simp; omega
              have p90 : (decide ((s[k].toNat : Int) ≤ 90)) = false := by simp; omega
              have p48 : (decide ((48 : Int) ≤ (s[k].toNat : Int))) = true := by simp; omega
              have p57 : (decide ((s[k].toNat : Int) ≤ 57)) = false := by simp; omega
              have e95 : ((s[k].toNat : Int) == 95) = true := by simp; omega
              have e45 : ((s[k].toNat : Int) == 45) = false := by simp; omega
              clear c1 c2
              go_wp2
              go_round
              case rel => exact ⟨⟨k + 1, by omega, by go_num, HN.out⟩, fun _ => H0.out⟩
              case measure => simp [intOf]; omega
            · have p97 : (decide ((97 : Int) ≤ (s[k].toNat : Int))) = false := by simp; omega
              have p122 : (decide ((s[k].toNat : Int) ≤ 122)) = true := by simp; omega
              have p65 : (decide ((65 : Int) ≤ (s[k].toNat : Int))) = false := by simp; omega
              have p90 : (decide ((s[k].toNat : Int) ≤ 90)) = true := by simp; omega
              have p48 : (decide ((48 : Int) ≤ (s[k].toNat : Int))) = false := by simp; omega
              have p57 : (decide ((s[k].toNat : Int) ≤ 57)) = true := by simp; omega
              have e95 : ((s[k].toNat : Int) == 95) = false := by simp; omega
              have e45 : ((s[k].toNat : Int) == 45) = true := by simp; omega
              clear c1 c2
              go_wp2
              go_round
              case rel => exact ⟨⟨k + 1, by omega, by go_num, HN.out⟩, fun _ => H0.out⟩
              case measure => simp [intOf]; omega
          | false =>
            have e4 := Lib.hid (nmB_bad (data_mem s k hlt) hl ho)
            have hc : (0 ≤ s[k].toNat ∧ s[k].toNat ≤ 44) ∨ (46 ≤ s[k].toNat ∧ s[k].toNat ≤ 47) ∨ (58 ≤ s[k].toNat ∧ s[k].toNat ≤ 64) ∨ (91 ≤ s[k].toNat ∧ s[k].toNat ≤ 94) ∨ (96 ≤ s[k].toNat ∧ s[k].toNat ≤ 96) ∨ (123 ≤ s[k].toNat ∧ s[k].toNat ≤ 255) := by
              unfold othB at ho; simp at ho; omega
            clear hb hl hl' hu ho HA HD HH h1'
            rcases hc with ⟨c1, c2⟩ | ⟨c1, c2⟩ | ⟨c1, c2⟩ | ⟨c1, c2⟩ | ⟨c1, c2⟩ | ⟨c1, c2⟩
            · have p97 : (decide ((97 : Int) ≤ (s[k].toNat : Int))) = false := by simp; omega
              have p122 : (decide ((s[k].toNat : Int) ≤ 122)) = true := by simp; omega
              have p65 : (decide ((65 : Int) ≤ (s[k].toNat : Int))) = false := by simp; omega
              have p90 : (decide ((s[k].toNat : Int) ≤ 90)) = true := by simp; omega
              have p48 : (decide ((48 : Int) ≤ (s[k].toNat : Int))) = false := by simp; omega
              have p57 : (decide ((s[k].toNat : Int) ≤ 57)) = true := by simp; omega
              have e95 : ((s[k].toNat : Int) == 95) = false := by simp; omega
              have e45 : ((s[k].toNat : Int) == 45) = false := by simp; omega
              clear c1 c2
              go_wp2
              go_ret
              exact ⟨ret_bool e4.out.symm, rfl⟩
            · have p97 : (decide ((97 : Int) ≤ (s[k].toNat : Int))) = false := by simp; omega
              have p122 : (decide ((s[k].toNat : Int) ≤ 122)) = true := by simp; omega
              have p65 : (decide ((65 : Int) ≤ (s[k].toNat : Int))) = false := by simp; omega
              have p90 : (decide ((s[k].toNat : Int) ≤ 90)) = true := by simp; omega
              have p48 : (decide ((48 : Int) ≤ (s[k].toNat : Int))) = false := by simp; omega
              have p57 : (decide ((s[k].toNat : Int) ≤ 57)) = true := by simp; omega
              have e95 : ((s[k].toNat : Int) == 95) = false := by simp; omega
              have e45 : ((s[k].toNat : Int) == 45) = false := by simp; omega
              clear c1 c2
              go_wp2
              go_ret
              exact ⟨ret_bool e4.out.symm, rfl⟩
            · have p97 : (decide ((97 : Int) ≤ (s[k].toNat : Int))) = false := by simp; omega
              have p122 : (decide ((s[k].toNat : Int) ≤ 122)) = true := by simp; omega
              have p65 : (decide ((65 : Int) ≤ (s[k].toNat : Int))) = false := by simp; omega
              have p90 : (decide ((s[k].toNat : Int) ≤ 90)) = true := by simp; omega
              have p48 : (decide ((48 : Int) ≤ (s[k].toNat : Int))) = true := by simp; omega
              have p57 : (decide ((s[k].toNat : Int) ≤ 57)) = false := by simp; omega
              have e95 : ((s[k].toNat : Int) == 95) = false := by simp; omega
              have e45 : ((s[k].toNat : Int) == 45) = false := by simp; omega
              clear c1 c2
              go_wp2
              go_ret
              exact ⟨ret_bool e4.out.symm, rfl⟩
            · have p97 : (decide ((97 : Int) ≤ (s[k].toNat : Int))) = false := by simp; omega
              have p122 : (decide ((s[k].toNat : Int) ≤ 122)) = true := by simp; omega
              have p65 : (decide ((65 : Int) ≤ (s[k].toNat : Int))) = true := by simp; omega
              have p90 : (decide ((s[k].toNat : Int) ≤ 90)) = false := by simp; omega
              have p48 : (decide ((48 : Int) ≤ (s[k].toNat : Int))) = true := by simp; omega
              have p57 : (decide ((s[k].toNat : Int) ≤ 57)) = false := by simp; omega
              have e95 : ((s[k].toNat : Int) == 95) = false := by simp; omega
              have e45 : ((s[k].toNat : Int) == 45) = false := by simp; omega
              clear c1 c2
              go_wp2
              go_ret
              exact ⟨ret_bool e4.out.symm, rfl⟩
            · have p97 : (decide ((97 : Int) ≤ (s[k].toNat : Int))) = false := by simp; omega
              have p122 : (decide ((s[k].toNat : Int) ≤ 122)) = true := by simp; omega
              have p65 : (decide ((65 : Int) ≤ (s[k].toNat : Int))) = true := by simp; omega
              have p90 : (decide ((s[k].toNat : Int) ≤ 90)) = false := by simp; omega
              have p48 : (decide ((48 : Int) ≤ (s[k].toNat : Int))) = true := by simp; omega
              have p57 : (decide ((s[k].toNat : Int) ≤ 57)) = false := by simp; omega
              have e95 : ((s[k].toNat : Int) == 95) = false := by simp; omega
              have e45 : ((s[k].toNat : Int) == 45) = false := by simp; omega
              clear c1 c2
              go_wp2
              go_ret
              exact ⟨ret_bool e4.out.symm, rfl⟩
            · have p97 : (decide ((97 : Int) ≤ (s[k].toNat : Int))) = true := by simp; omega
              have p122 : (decide ((s[k].toNat : Int) ≤ 122)) = false := by simp; omega
              have p65 : (decide ((65 : Int) ≤ (s[k].toNat : Int))) = true := by simp; omega
              have p90 : (decide ((s[k].toNat : Int) ≤ 90)) = false := by simp; omega
              have p48 : (decide ((48 : Int) ≤ (s[k].toNat : Int))) = true := by simp; omega
              have p57 : (decide ((s[k].toNat : Int) ≤ 57)) = false := by simp; omega
              have e95 : ((s[k].toNat : Int) == 95) = false := by simp; omega
              have e45 : ((s[k].toNat : Int) == 45) = false := by simp; omega
              clear c1 c2
              go_wp2
              go_ret
              exact ⟨ret_bool e4.out.symm, rfl⟩
    · have e4 := Lib.hid (HA.out (h1'.out (by omega)) (by
        have := HD.out
        rwa [List.take_of_length_le (by rw [data_len]; omega)] at this))
      clear HA HD HH h1'
      go_wp2
      go_ret
      exact ⟨ret_bool e4.out.symm, rfl⟩

set_option maxHeartbeats 1000000 in
set_option maxRecDepth 100000 in
theorem rname_any (s : ByteArray) (w : World) :
    Calls Tryz.prog 20 #[.string s] w fun e w' => e = .returned (.bool (nmB s.data.toList)) ∧ w = w' := by
  by_cases h0 : s.size < 1
  · rw [nmB_len (.inl (by rw [data_len]; exact h0))]
    have hz : s.size = 0 := by omega
    have t0 : ((s.size : Int) == 0) = true := by rw [hz]; rfl
    clear hz h0
    go_enter Tryz.func20, Tryz.ntmps20
    go_wp2
    go_ret
    exact ⟨rfl, rfl⟩
  by_cases h4 : 40 < s.size
  · rw [nmB_len (.inr (by rw [data_len]; exact h4))]
    have h0' : 0 < s.size := by omega
    have t0 : ((s.size : Int) == 0) = false := by simp; intro h; rw [h] at h0'; exact absurd h0' (by decide)
    have t4 : decide ((40 : Int) < (s.size : Int)) = true := by simp; omega
    clear h0
    go_enter Tryz.func20, Tryz.ntmps20
    go_wp2
    go_ret
    exact ⟨rfl, rfl⟩
  exact rname_loop s w (by omega) (by omega)

end Go.Proofs.YtdgmpgejemgbbaaGreatDoor
