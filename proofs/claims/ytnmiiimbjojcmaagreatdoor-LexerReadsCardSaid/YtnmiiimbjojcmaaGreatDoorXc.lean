/-
  Runs of bytes, walked: the program's after, at, clean and day. No condition.
-/
import Derived.Test.YtnmiiimbjojcmaaGreatDoorXa
import Derived.Test.YtnmiiimbjojcmaaGreatDoorWa
import Derived.Laws.RangeString
namespace Go.Proofs.YtnmiiimbjojcmaaGreatDoor
open Go.RowKit

/-- Whether a byte is of one of these classes. -/
def clsB (L : List Nat) (c : UInt8) : Bool := L.any fun k => classN c == (k : Int)
theorem spn_drop_lt {p : UInt8 → Bool} {s : ByteArray} {j : Nat} (h : j < s.size) : spn p (s.data.toList.drop j) = if p s[j] = true then spn p (s.data.toList.drop (j + 1)) + 1 else 0 := by
  rw [data_drop s j h]; rfl
theorem spn_drop_ge {p : UInt8 → Bool} {s : ByteArray} {j : Nat} (h : s.size ≤ j) : spn p (s.data.toList.drop j) = 0 := by
  rw [List.drop_eq_nil_of_le (by rw [data_len]; exact h)]; rfl
theorem any_take_succ {L : List Nat} {C : Int} {k : Nat} (h : k < L.length) : ((L.take (k + 1)).any fun x => C == (x : Int)) = (((L.take k).any fun x => C == (x : Int)) || (C == ((L.getD k 0 : Nat) : Int))) := by
  have e : L.getD k 0 = L[k] := by rw [List.getD_eq_getElem?_getD, List.getElem?_eq_getElem h]; rfl
  rw [List.take_succ_eq_append_getElem h, List.any_append, e]
  simp
set_option maxHeartbeats 1000000 in
set_option maxRecDepth 100000 in
theorem after_any (s : ByteArray) (i0 n c : Nat) (a : Option Addr) (L : List Nat) (w : World) (hs : s.size ≤ 1000000) (hi : i0 ≤ s.size) (hL : L.length = n) (hn : n ≤ 10) (hN : Nums .i64 w a L) :
    Calls Tryz.prog 17 #[.string s, .int .i64 (i0 : Int), .slice a n c] w (RetI w ((i0 + spn (clsB L) (s.data.toList.drop i0) : Nat) : Int)) := by
  obtain ⟨E, hE⟩ : ∃ E, E = i0 + spn (clsB L) (s.data.toList.drop i0) := ⟨_, rfl⟩
  rw [← hE]
  have HE := Lib.hid hE
  have HL := Lib.hid hL
  have HN := Lib.hid hN
  clear hE hL hN
  go_enter Tryz.func17, Tryz.ntmps17
  go_wp2_with fail
  go_loop [1] (fun iv => ∃ j : Nat, j ≤ s.size ∧ E = j + spn (clsB L) (s.data.toList.drop j) ∧ iv = .int .i64 (j : Int)) (fun iv => s.size - (intOf iv).toNat)
  case atStart => exact ⟨i0, hi, HE.out, rfl⟩
  case round =>
    obtain ⟨j, hj, hej, rfl⟩ := hrel
    have HEJ := Lib.hid hej
    clear hej
    by_cases hlt : j < s.size
    · have HC : Hid (∀ W, Calls Tryz.prog 40 #[.int .u8 (s[j].toNat : Int)] W (RetI W (classN s[j]))) := fun W => class_any _ W
      obtain ⟨b, hb⟩ : ∃ b, b = clsB L s[j] := ⟨_, rfl⟩
      have hb2 : b = L.any fun x => classN s[j] == (x : Int) := hb
      have HS := spn_drop_lt (p := clsB L) hlt
      rw [← hb] at HS
      obtain ⟨C, hC⟩ : ∃ C, C = classN s[j] := ⟨_, rfl⟩
      rw [← hC] at HC hb2
      have HB := Lib.hid hb2
      have HSP := Lib.hid HS
      clear hb hb2 HS hC
      go_wp2_with fail
      refine (HC.out _).mono ?_
      rintro e w' ⟨rfl, rfl⟩
      go_wp2_with fail
      go_loop [8, 23] (fun bv kv => ∃ k : Nat, k ≤ n ∧ kv = .int .i64 (k : Int) ∧ bv = .bool ((L.take k).any fun x => C == (x : Int))) (fun _ kv => n - (intOf kv).toNat)
      case atStart => exact ⟨0, Nat.zero_le _, rfl, rfl⟩
      case round =>
        obtain ⟨k, hk, rfl, rfl⟩ := hrel
        obtain ⟨B, hB⟩ : ∃ B, B = (L.take k).any fun x => C == (x : Int) := ⟨_, rfl⟩
        rw [← hB]
        by_cases hk2 : k < n
        · obtain ⟨g, o, rfl, hg, hcell⟩ := HN.out k (by rw [HL.out]; exact hk2)
          have hnx := any_take_succ (C := C) (show k < L.length by rw [HL.out]; exact hk2)
          obtain ⟨y, hy⟩ : ∃ y, y = L.getD k 0 := ⟨_, rfl⟩
          rw [← hy] at hcell hnx
          rw [← hB] at hnx
          have HNX := Lib.hid hnx
          clear hnx hy hB
          cases B
          · obtain ⟨q, hq⟩ : ∃ q, (C == (y : Int)) = q := ⟨_, rfl⟩
            have HQ := Lib.hid hq
            go_wp2_with fail
            go_round
            case rel => exact ⟨k + 1, by omega, by go_num, by rw [HNX.out, HQ.out]; rfl⟩
            case measure => simp [intOf] <;> omega
          · go_wp2_with fail
            go_round
            case rel => exact ⟨k + 1, by omega, by go_num, by rw [HNX.out]; rfl⟩
            case measure => simp [intOf] <;> omega
        · obtain rfl : k = n := by omega
          have hBb : B = b := by rw [hB, HB.out, List.take_of_length_le (by rw [HL.out]; exact Nat.le_refl _)]
          clear hB
          subst hBb
          cases B
          · have hE2 : E = j := by have := HEJ.out; rw [HSP.out, if_neg (by decide)] at this; omega
            have HE2 := Lib.hid hE2
            clear hE2
            go_wp2_with fail
            go_ret
            exact ⟨ret_int (by rw [HE2.out]), rfl⟩
          · have hE2 : E = j + 1 + spn (clsB L) (s.data.toList.drop (j + 1)) := by have := HEJ.out; rw [HSP.out, if_pos rfl] at this; omega
            have HE2 := Lib.hid hE2
            clear hE2
            go_wp2_with fail
            go_round
            case rel => exact ⟨j + 1, by omega, HE2.out, by go_num⟩
            case measure => simp [intOf] <;> omega
    · have hE2 : E = j := by have := HEJ.out; rw [spn_drop_ge (by omega)] at this; omega
      have HE2 := Lib.hid hE2
      clear hE2
      go_wp2_with fail
      go_ret
      exact ⟨ret_int (by rw [HE2.out]), rfl⟩

/-- The class at a place; 0 at the end. -/
def atN (l : List UInt8) : Int := match l with
  | [] => 0
  | c :: _ => classN c
theorem lat_lt {s : ByteArray} {i : Nat} (h : i < s.size) : atN (s.data.toList.drop i) = classN s[i] := by rw [data_drop s i h]; rfl
theorem lat_ge {s : ByteArray} {i : Nat} (h : s.size ≤ i) : atN (s.data.toList.drop i) = 0 := by rw [List.drop_eq_nil_of_le (by rw [data_len]; exact h)]; rfl
set_option maxHeartbeats 1000000 in
theorem lat_any (s : ByteArray) (i : Nat) (w : World) : Calls Tryz.prog 18 #[.string s, .int .i64 (i : Int)] w (RetI w (atN (s.data.toList.drop i))) := by
  by_cases h : i < s.size
  · rw [lat_lt h]
    have HC : Hid (∀ W, Calls Tryz.prog 40 #[.int .u8 (s[i].toNat : Int)] W (RetI W (classN s[i]))) := fun W => class_any _ W
    go_enter Tryz.func18, Tryz.ntmps18
    go_wp2_with fail
    refine (HC.out _).mono ?_
    rintro e w' ⟨rfl, rfl⟩
    go_wp2_with fail
    go_ret
    exact ⟨rfl, rfl⟩
  · rw [lat_ge (by omega)]
    go_enter Tryz.func18, Tryz.ntmps18
    go_wp2_with fail
    go_ret
    exact ⟨rfl, rfl⟩
theorem cls_parts (c : UInt8) : (classN c = 2 ↔ dgQ c = true) ∧ (classN c = 3 ↔ letB c = true) ∧ ((classN c = 2 ∨ classN c = 3 ∨ classN c = 4) ↔ wdQ c = true) ∧ (classN c = 6 ↔ c.toNat = 34) ∧ (classN c = 1 ↔ blQ c = true) ∧ (classN c = 7 ↔ c.toNat = 35) ∧ ((classN c = 5 ∨ c.toNat = 45) ↔ mkB c = true) := by
  unfold classN dgQ wdQ othB blQ mkB
  unfold letB
  simp only [marks_nat, decide_eq_true_eq, Bool.or_eq_true]
  refine ⟨?_, ?_, ?_, ?_, ?_, ?_, ?_⟩ <;> (repeat' split) <;> omega

set_option maxHeartbeats 2000000 in
set_option maxRecDepth 100000 in
theorem clean_any (s : ByteArray) (i : Nat) (w : World) : Calls Tryz.prog 22 #[.string s, .int .i64 (i : Int)] w (RetB w (endQ (s.data.toList.drop i))) := by
  by_cases h : i < s.size
  · have HA : Hid (∀ W, Calls Tryz.prog 18 #[.string s, .int .i64 (i : Int)] W (RetI W (classN s[i]))) := fun W => by rw [← lat_lt h]; exact lat_any s i W
    obtain ⟨_, _, p3, p4, _⟩ := cls_parts s[i]
    have hv : endQ (s.data.toList.drop i) = (!wdQ s[i] && decide (s[i].toNat ≠ 34 ∧ s[i].toNat ≠ 46 ∧ s[i].toNat ≠ 47)) := by rw [data_drop s i h]; rfl
    rw [hv]
    obtain ⟨x, hx⟩ : ∃ x : Nat, x = s[i].toNat := ⟨_, rfl⟩
    obtain ⟨C, hC⟩ : ∃ C, C = classN s[i] := ⟨_, rfl⟩
    rw [← hC] at HA p3 p4
    obtain ⟨r, hr⟩ : ∃ r : Bool, r = (!wdQ s[i] && decide (s[i].toNat ≠ 34 ∧ s[i].toNat ≠ 46 ∧ s[i].toNat ≠ 47)) := ⟨_, rfl⟩
    rw [← hr]
    by_cases hbad : C = 2 ∨ C = 3 ∨ C = 4 ∨ C = 6
    · have hr2 : r = false := by
        rw [hr]
        rcases hbad with h | h | h | h
        · rw [p3.1 (.inl h)]; rfl
        · rw [p3.1 (.inr (.inl h))]; rfl
        · rw [p3.1 (.inr (.inr h))]; rfl
        · have := p4.1 h; simp [this]
      subst hr2
      clear hr hv p3 p4 hC hx
      rcases hbad with h | h | h | h <;> subst h
      all_goals
        go_enter Tryz.func22, Tryz.ntmps22
        go_wp2_with fail
        refine (HA.out _).mono ?_
        rintro e w' ⟨rfl, rfl⟩
        go_wp2_with fail
        go_ret
        exact ⟨rfl, rfl⟩
    · have hw : wdQ s[i] = false := by
        cases hh : wdQ s[i] with
        | false => rfl
        | true => exact absurd (p3.2 hh) (by omega)
      have h34 : s[i].toNat ≠ 34 := fun h => by have := p4.2 h; omega
      have e2 : (C == 2) = false := by simpa using fun h => hbad (.inl h)
      have e3 : (C == 3) = false := by simpa using fun h => hbad (.inr (.inl h))
      have e4 : (C == 4) = false := by simpa using fun h => hbad (.inr (.inr (.inl h)))
      have e6 : (C == 6) = false := by simpa using fun h => hbad (.inr (.inr (.inr h)))
      rw [hw] at hr
      by_cases h46 : s[i].toNat = 46
      · have hr2 : r = false := by rw [hr]; simp [h46]
        subst hr2
        have t1 : ((s[i].toNat : Int) != 46) = false := by simp; omega
        clear hr hv p3 p4 hC hx hbad hw h34 h46
        go_enter Tryz.func22, Tryz.ntmps22
        go_wp2_with fail
        refine (HA.out _).mono ?_
        rintro e w' ⟨rfl, rfl⟩
        go_wp2_with fail
        go_ret
        exact ⟨rfl, rfl⟩
      · have hr2 : r = (((s[i].toNat : Int)) != 47) := by
          rw [hr, Bool.eq_iff_iff]; simp; omega
        have HR2 := Lib.hid hr2
        have t1 : ((s[i].toNat : Int) != 46) = true := by simp; omega
        clear hr hv p3 p4 hC hx hbad hw h34 h46 hr2
        go_enter Tryz.func22, Tryz.ntmps22
        go_wp2_with fail
        refine (HA.out _).mono ?_
        rintro e w' ⟨rfl, rfl⟩
        go_wp2_with fail
        go_ret
        exact ⟨by rw [HR2.out]; rfl, rfl⟩
  · have hv : endQ (s.data.toList.drop i) = true := by rw [List.drop_eq_nil_of_le (by rw [data_len]; omega)]; rfl
    rw [hv]
    go_enter Tryz.func22, Tryz.ntmps22
    go_wp2_with fail
    go_ret
    exact ⟨rfl, rfl⟩

/-- What the form of a date asks of the byte at a place. -/
def dyAt (i : Nat) (c : UInt8) : Bool := if i = 4 ∨ i = 7 then decide (c.toNat = 45) else dgQ c
theorem dayQ_all {l : List UInt8} (h : 10 ≤ l.length) : dayQ l = true ↔ ∀ i, i < 10 → ∃ c, l[i]? = some c ∧ dyAt i c = true := by
  obtain ⟨c0, c1, c2, c3, c4, c5, c6, c7, c8, c9, t, rfl⟩ := ten h
  constructor
  · intro hd i hi
    unfold dayQ at hd
    simp only [Bool.and_eq_true] at hd
    obtain ⟨⟨⟨⟨⟨⟨⟨⟨⟨h0, h1⟩, h2⟩, h3⟩, h4⟩, h5⟩, h6⟩, h7⟩, h8⟩, h9⟩ := hd
    rcases i with _ | _ | _ | _ | _ | _ | _ | _ | _ | _ | i
    · exact ⟨_, rfl, h0⟩
    · exact ⟨_, rfl, h1⟩
    · exact ⟨_, rfl, h2⟩
    · exact ⟨_, rfl, h3⟩
    · exact ⟨_, rfl, h4⟩
    · exact ⟨_, rfl, h5⟩
    · exact ⟨_, rfl, h6⟩
    · exact ⟨_, rfl, h7⟩
    · exact ⟨_, rfl, h8⟩
    · exact ⟨_, rfl, h9⟩
    · omega
  · intro h
    have g : ∀ i, i < 10 → ∀ c, (c0 :: c1 :: c2 :: c3 :: c4 :: c5 :: c6 :: c7 :: c8 :: c9 :: t)[i]? = some c → dyAt i c = true := fun i hi c hc => by
      obtain ⟨c', e, hh⟩ := h i hi
      rw [hc] at e; injection e with e; rw [e]; exact hh
    unfold dayQ
    simp only [Bool.and_eq_true]
    exact ⟨⟨⟨⟨⟨⟨⟨⟨⟨g 0 (by omega) _ rfl, g 1 (by omega) _ rfl⟩, g 2 (by omega) _ rfl⟩, g 3 (by omega) _ rfl⟩, g 4 (by omega) _ rfl⟩, g 5 (by omega) _ rfl⟩, g 6 (by omega) _ rfl⟩, g 7 (by omega) _ rfl⟩, g 8 (by omega) _ rfl⟩, g 9 (by omega) _ rfl⟩
def formB : ByteArray := ⟨#[48, 48, 48, 48, 45, 48, 48, 45, 48, 48]⟩
theorem formB_at (k : Nat) (h : k < 10) : (formB[k]'h).toNat = if k = 4 ∨ k = 7 then 45 else 48 := by
  have : ∀ k : Fin 10, (formB[(k : Nat)]'k.2).toNat = if (k : Nat) = 4 ∨ (k : Nat) = 7 then 45 else 48 := by decide
  exact this ⟨k, h⟩
def DayPost (w : World) (b : Bool) (e : Ending) (w' : World) : Prop := e = .returned (.bool b) ∧ Below w.heap.size w w'
theorem iter_below (w : World) (s : ByteArray) (p : Nat) : Below w.heap.size w (w.iter s p) := (Below.refl _ w).alloc (Nat.le_refl _) _
set_option maxHeartbeats 2000000 in
set_option maxRecDepth 100000 in
theorem day_any (s : ByteArray) (w : World) (hs : s.size ≤ 1000000) : Calls Tryz.prog 21 #[.string s] w (DayPost w (dayQ s.data.toList)) := by
  by_cases h10 : s.size < 10
  · have hv : dayQ s.data.toList = false := by
      cases hh : dayQ s.data.toList with
      | false => rfl
      | true => have := dayQ_len hh; rw [data_len] at this; omega
    rw [hv]
    go_enter Tryz.func21, Tryz.ntmps21
    go_wp2_with fail
    go_ret
    exact ⟨rfl, Below.refl _ _⟩
  · have h10' : 10 ≤ s.size := by omega
    have hall := dayQ_all (l := s.data.toList) (by rw [data_len]; exact h10')
    obtain ⟨V, hV⟩ : ∃ V, V = dayQ s.data.toList := ⟨_, rfl⟩
    rw [← hV] at hall ⊢
    have HALL := Lib.hid hall
    clear hall hV
    go_enter Tryz.func21, Tryz.ntmps21
    go_wp2_with fail
    go_loopw [3] (fun _ w' => ∃ k : Nat, k ≤ 10 ∧ w' = w.iter formB k ∧ ∀ i, i < k → ∀ c, s.data.toList[i]? = some c → dyAt i c = true) (fun _ w' => 10 - w'.iterPos w.heap.size)
    case atStart => exact ⟨0, Nat.zero_le _, rfl, fun i hi => absurd hi (Nat.not_lt_zero _)⟩
    case round =>
      obtain ⟨k, hk, rfl, hok⟩ := hrel
      have HOK := Lib.hid hok
      clear hok
      by_cases hlt : k < 10
      · have hks : k < s.size := by omega
        have hcat := Lib.data_getElem? s k hks
        have HCAT := Lib.hid hcat
        have HC : Hid (∀ W, Calls Tryz.prog 40 #[.int .u8 (s[k].toNat : Int)] W (RetI W (classN s[k]))) := fun W => class_any _ W
        have hfb := formB_at k hlt
        have hnx0 : ∀ ty, (Instr.next (.pointer (some ⟨w.heap.size, 0, none⟩)) true ty).run Tryz.prog (w.iter formB k) = _ := fun ty => run_next_ascii w formB k ty hlt (by rw [hfb]; split <;> omega)
        rw [hfb] at hnx0
        obtain ⟨p1, _⟩ := cls_parts s[k]
        by_cases h47 : k = 4 ∨ k = 7
        · rw [if_pos h47] at hnx0
          obtain ⟨q, hq⟩ : ∃ q, ((s[k].toNat : Int) != 45) = q := ⟨_, rfl⟩
          cases q
          · have hdy : dyAt k s[k] = true := by unfold dyAt; rw [if_pos h47]; simp at hq ⊢; omega
            have HDY := Lib.hid hdy
            clear hdy hfb h47 hcat p1
            go_wp2_with fail
            go_roundw
            case rel => exact ⟨k + 1, by omega, rfl, fun i hi c hc => by
              rcases Nat.lt_or_ge i k with h | h
              · exact HOK.out i h c hc
              · obtain rfl : i = k := by omega
                rw [HCAT.out] at hc; injection hc with hc; rw [← hc]; exact HDY.out⟩
            case measure => simp; omega
          · have hVf : V = false := by
              cases V with
              | false => rfl
              | true =>
                obtain ⟨c, hc, hd⟩ := HALL.out.1 rfl k hlt
                rw [HCAT.out] at hc; injection hc with hc; subst hc
                unfold dyAt at hd; rw [if_pos h47] at hd; simp at hq hd; omega
            subst hVf
            clear hfb h47 hcat p1
            go_wp2_with fail
            go_ret
            exact ⟨rfl, iter_below _ _ _⟩
        · rw [if_neg h47] at hnx0
          obtain ⟨C, hC⟩ : ∃ C, C = classN s[k] := ⟨_, rfl⟩
          rw [← hC] at HC p1
          obtain ⟨q, hq⟩ : ∃ q, (C != 2) = q := ⟨_, rfl⟩
          cases q
          · have hdy : dyAt k s[k] = true := by unfold dyAt; rw [if_neg h47]; exact p1.1 (by simpa using hq)
            have HDY := Lib.hid hdy
            clear hdy hfb h47 hcat p1 hC
            go_wp2_with fail
            refine (HC.out _).mono ?_
            rintro e w' ⟨rfl, rfl⟩
            go_wp2_with fail
            go_roundw
            case rel => exact ⟨k + 1, by omega, rfl, fun i hi c hc => by
              rcases Nat.lt_or_ge i k with h | h
              · exact HOK.out i h c hc
              · obtain rfl : i = k := by omega
                rw [HCAT.out] at hc; injection hc with hc; rw [← hc]; exact HDY.out⟩
            case measure => simp; omega
          · have hVf : V = false := by
              cases V with
              | false => rfl
              | true =>
                obtain ⟨c, hc, hd⟩ := HALL.out.1 rfl k hlt
                rw [HCAT.out] at hc; injection hc with hc; subst hc
                unfold dyAt at hd; rw [if_neg h47] at hd
                have := p1.2 hd
                rw [this] at hq; exact absurd hq (by decide)
            subst hVf
            clear hfb h47 hcat p1 hC
            go_wp2_with fail
            refine (HC.out _).mono ?_
            rintro e w' ⟨rfl, rfl⟩
            go_wp2_with fail
            go_ret
            exact ⟨rfl, iter_below _ _ _⟩
      · have hnx0 : ∀ ty, (Instr.next (.pointer (some ⟨w.heap.size, 0, none⟩)) true ty).run Tryz.prog (w.iter formB k) = _ := fun ty => run_next_end w formB k ty hlt
        have hVt : V = true := HALL.out.2 fun i hi => ⟨s.data.toList[i]'(by rw [data_len]; omega), List.getElem?_eq_getElem _, HOK.out i (by omega) _ (List.getElem?_eq_getElem _)⟩
        subst hVt
        go_wp2_with fail
        go_ret
        exact ⟨rfl, iter_below _ _ _⟩

end Go.Proofs.YtnmiiimbjojcmaaGreatDoor
