/-
  The reference's value of a number: walked. No condition.
-/
import Derived.Test.YtnmiiimbjojcmaaGreatDoorMrb
import Derived.Test.YtnmiiimbjojcmaaGreatDoorMre
namespace Go.Proofs.YtnmiiimbjojcmaaGreatDoor
open Go.RowKit Go.Shelf
set_option linter.unusedVariables false

theorem make_nd (x : Int) (Y : Nat) (nS dS : ByteArray) (W : World) (hn : nS.data.toList = txtZ x) (hd : dS.data.toList = txtN Y) (M : Nat) (hM : M = 1000) (bx : x.natAbs < 10 ^ M) (bY : Y < 10 ^ M) (hY : 0 < Y) :
    Calls Tryz.prog 73 #[.string nS, .string dS] W (StE W ⟨(ratT (ratN x (Y : Int)) (ratD x (Y : Int))).toArray⟩ 0) := by
  have b1 : bigZ x = false := bigZ_small (x := (x.natAbs : Int)) (by simp) (bigZ_ten bx (by omega) (by omega))
  have b2 : bigZ (Y : Int) = false := bigZ_ten bY (by omega) (by omega)
  have := rmake2_ok x (Y : Int) W b1 b2 (by omega)
  rw [bs_of hn, bs_of (hd.trans (txtZ_pos Y).symm)]
  exact this
def StrT (w : World) (T : ByteArray) (e : Ending) (w' : World) : Prop := e = .returned (.string T) ∧ w = w'
def TenR (n : Nat) (dv iv : Value) : Prop := ∃ (k : Nat) (t : ByteArray), k ≤ n ∧ iv = .int .i64 (k : Int) ∧ dv = .string t ∧ t.size = k + 1 ∧ Hid (t.data.toList = 49 :: List.replicate k 48)
set_option maxHeartbeats 1000000 in
theorem num_0A (f b T R : ByteArray) (w : World) (hT : T.size ≤ 100000) (HT0 : Hid (∀ W, Calls Tryz.prog 72 #[.string f] W (StrT W T)))
    (HM : Hid (∀ W, Calls Tryz.prog 73 #[.string T, .string ⟨#[49]⟩] W (StE W R 0))) :
    Calls Tryz.prog 50 #[.bool false, .string f, .int .u8 0, .string b] w (StE w R 0) := by
  go_enter Tryz.func50, Tryz.ntmps50
  go_wp2_with fail
  refine (HT0.out _).mono ?_
  rintro e w' ⟨rfl, rfl⟩
  go_wp2_with fail
  refine (HM.out _).mono ?_
  rintro e w1 ⟨rfl, hb1⟩
  have HB := Lib.hid hb1
  clear hb1
  go_wp2_with fail
  go_ret2
  exact ⟨rfl, HB.out⟩
set_option maxHeartbeats 1000000 in
theorem num_0B (f b T R : ByteArray) (w : World) (hT : T.size ≤ 100000) (HT0 : Hid (∀ W, Calls Tryz.prog 72 #[.string f] W (StrT W T))) (z1 : (T.toList == [48]) = true) (z2 : (T.toList != [48]) = false)
    (HM : Hid (∀ W, Calls Tryz.prog 73 #[.string T, .string ⟨#[49]⟩] W (StE W R 0))) :
    Calls Tryz.prog 50 #[.bool true, .string f, .int .u8 0, .string b] w (StE w R 0) := by
  go_enter Tryz.func50, Tryz.ntmps50
  go_wp2_with fail
  refine (HT0.out _).mono ?_
  rintro e w' ⟨rfl, rfl⟩
  go_wp2_with fail
  refine (HM.out _).mono ?_
  rintro e w1 ⟨rfl, hb1⟩
  have HB := Lib.hid hb1
  clear hb1
  go_wp2_with fail
  go_ret2
  exact ⟨rfl, HB.out⟩
set_option maxHeartbeats 1000000 in
theorem num_0C (f b T R : ByteArray) (w : World) (hT : T.size ≤ 100000) (HT0 : Hid (∀ W, Calls Tryz.prog 72 #[.string f] W (StrT W T))) (z1 : (T.toList == [48]) = false) (z2 : (T.toList != [48]) = true)
    (HM : Hid (∀ W, Calls Tryz.prog 73 #[.string (⟨#[45]⟩ ++ T), .string ⟨#[49]⟩] W (StE W R 0))) :
    Calls Tryz.prog 50 #[.bool true, .string f, .int .u8 0, .string b] w (StE w R 0) := by
  go_enter Tryz.func50, Tryz.ntmps50
  go_wp2_with fail
  refine (HT0.out _).mono ?_
  rintro e w' ⟨rfl, rfl⟩
  go_wp2_with fail
  refine (HM.out _).mono ?_
  rintro e w1 ⟨rfl, hb1⟩
  have HB := Lib.hid hb1
  clear hb1
  go_wp2_with fail
  go_ret2
  exact ⟨rfl, HB.out⟩
set_option maxHeartbeats 1000000 in
theorem num_46A (f b T D T0 R : ByteArray) (w : World) (hT : T.size ≤ 100000) (HT0 : Hid (∀ W, Calls Tryz.prog 72 #[.string f] W (StrT W T0))) (HT : Hid (∀ W, Calls Tryz.prog 72 #[.string (f ++ b)] W (StrT W T))) (hfb : f.size + b.size ≤ 100000) (hfc : (f ++ b).size ≤ 100000) (hb : b.size ≤ 1000) (HD : Hid (D.data.toList = 49 :: List.replicate b.size 48))
    (HM : Hid (∀ W, Calls Tryz.prog 73 #[.string T, .string D] W (StE W R 0))) :
    Calls Tryz.prog 50 #[.bool false, .string f, .int .u8 46, .string b] w (StE w R 0) := by
  go_enter Tryz.func50, Tryz.ntmps50
  go_wp2_with fail
  refine (HT0.out _).mono ?_
  rintro e w' ⟨rfl, rfl⟩
  go_wp2_with fail
  refine (HT.out _).mono ?_
  rintro e w' ⟨rfl, rfl⟩
  go_wp2_with fail
  go_loop [11, 12] (fun dv iv => TenR b.size dv iv) (fun _ iv => b.size - (intOf iv).toNat)
  case atStart => exact ⟨0, ⟨#[49]⟩, Nat.zero_le _, rfl, rfl, rfl, Lib.hid rfl⟩
  case round =>
    obtain ⟨k, t, hk, rfl, rfl, hts, HK⟩ := hrel
    have hts2 : t.size ≤ 2000 := by omega
    have HTS := Lib.hid hts
    clear hts
    by_cases hlt : k < b.size
    · have hs48 : (t ++ ⟨#[48]⟩ : ByteArray).size = t.size + 1 := by
        rw [← data_len, ByteArray.data_append, Array.toList_append, List.length_append, data_len]; rfl
      have HX : Hid ((t ++ ⟨#[48]⟩ : ByteArray).data.toList = 49 :: List.replicate (k + 1) 48) := by
        show (t ++ ⟨#[48]⟩ : ByteArray).data.toList = _
        rw [ByteArray.data_append, Array.toList_append, HK.out, List.replicate_succ']
        rfl
      have HS := Lib.hid hs48
      clear hs48
      go_wp2_with fail
      go_round
      case rel => exact ⟨k + 1, _, by omega, by go_num, rfl, by rw [HS.out, HTS.out], HX⟩
      case measure => simp [intOf] <;> omega
    · obtain rfl : k = b.size := by omega
      obtain rfl : t = D := Go.WideShapes.bytes_inj (HK.out.trans HD.out.symm)
      go_wp2_with fail
      refine (HM.out _).mono ?_
      rintro e w1 ⟨rfl, hb1⟩
      have HB := Lib.hid hb1
      clear hb1
      go_wp2_with fail
      go_ret2
      exact ⟨rfl, HB.out⟩
set_option maxHeartbeats 1000000 in
theorem num_46B (f b T D T0 R : ByteArray) (w : World) (hT : T.size ≤ 100000) (HT0 : Hid (∀ W, Calls Tryz.prog 72 #[.string f] W (StrT W T0))) (HT : Hid (∀ W, Calls Tryz.prog 72 #[.string (f ++ b)] W (StrT W T))) (hfb : f.size + b.size ≤ 100000) (hfc : (f ++ b).size ≤ 100000) (hb : b.size ≤ 1000) (HD : Hid (D.data.toList = 49 :: List.replicate b.size 48)) (z1 : (T.toList == [48]) = true) (z2 : (T.toList != [48]) = false)
    (HM : Hid (∀ W, Calls Tryz.prog 73 #[.string T, .string D] W (StE W R 0))) :
    Calls Tryz.prog 50 #[.bool true, .string f, .int .u8 46, .string b] w (StE w R 0) := by
  go_enter Tryz.func50, Tryz.ntmps50
  go_wp2_with fail
  refine (HT0.out _).mono ?_
  rintro e w' ⟨rfl, rfl⟩
  go_wp2_with fail
  refine (HT.out _).mono ?_
  rintro e w' ⟨rfl, rfl⟩
  go_wp2_with fail
  go_loop [11, 12] (fun dv iv => TenR b.size dv iv) (fun _ iv => b.size - (intOf iv).toNat)
  case atStart => exact ⟨0, ⟨#[49]⟩, Nat.zero_le _, rfl, rfl, rfl, Lib.hid rfl⟩
  case round =>
    obtain ⟨k, t, hk, rfl, rfl, hts, HK⟩ := hrel
    have hts2 : t.size ≤ 2000 := by omega
    have HTS := Lib.hid hts
    clear hts
    by_cases hlt : k < b.size
    · have hs48 : (t ++ ⟨#[48]⟩ : ByteArray).size = t.size + 1 := by
        rw [← data_len, ByteArray.data_append, Array.toList_append, List.length_append, data_len]; rfl
      have HX : Hid ((t ++ ⟨#[48]⟩ : ByteArray).data.toList = 49 :: List.replicate (k + 1) 48) := by
        show (t ++ ⟨#[48]⟩ : ByteArray).data.toList = _
        rw [ByteArray.data_append, Array.toList_append, HK.out, List.replicate_succ']
        rfl
      have HS := Lib.hid hs48
      clear hs48
      go_wp2_with fail
      go_round
      case rel => exact ⟨k + 1, _, by omega, by go_num, rfl, by rw [HS.out, HTS.out], HX⟩
      case measure => simp [intOf] <;> omega
    · obtain rfl : k = b.size := by omega
      obtain rfl : t = D := Go.WideShapes.bytes_inj (HK.out.trans HD.out.symm)
      go_wp2_with fail
      refine (HM.out _).mono ?_
      rintro e w1 ⟨rfl, hb1⟩
      have HB := Lib.hid hb1
      clear hb1
      go_wp2_with fail
      go_ret2
      exact ⟨rfl, HB.out⟩
set_option maxHeartbeats 1000000 in
theorem num_46C (f b T D T0 R : ByteArray) (w : World) (hT : T.size ≤ 100000) (HT0 : Hid (∀ W, Calls Tryz.prog 72 #[.string f] W (StrT W T0))) (HT : Hid (∀ W, Calls Tryz.prog 72 #[.string (f ++ b)] W (StrT W T))) (hfb : f.size + b.size ≤ 100000) (hfc : (f ++ b).size ≤ 100000) (hb : b.size ≤ 1000) (HD : Hid (D.data.toList = 49 :: List.replicate b.size 48)) (z1 : (T.toList == [48]) = false) (z2 : (T.toList != [48]) = true)
    (HM : Hid (∀ W, Calls Tryz.prog 73 #[.string (⟨#[45]⟩ ++ T), .string D] W (StE W R 0))) :
    Calls Tryz.prog 50 #[.bool true, .string f, .int .u8 46, .string b] w (StE w R 0) := by
  go_enter Tryz.func50, Tryz.ntmps50
  go_wp2_with fail
  refine (HT0.out _).mono ?_
  rintro e w' ⟨rfl, rfl⟩
  go_wp2_with fail
  refine (HT.out _).mono ?_
  rintro e w' ⟨rfl, rfl⟩
  go_wp2_with fail
  go_loop [11, 12] (fun dv iv => TenR b.size dv iv) (fun _ iv => b.size - (intOf iv).toNat)
  case atStart => exact ⟨0, ⟨#[49]⟩, Nat.zero_le _, rfl, rfl, rfl, Lib.hid rfl⟩
  case round =>
    obtain ⟨k, t, hk, rfl, rfl, hts, HK⟩ := hrel
    have hts2 : t.size ≤ 2000 := by omega
    have HTS := Lib.hid hts
    clear hts
    by_cases hlt : k < b.size
    · have hs48 : (t ++ ⟨#[48]⟩ : ByteArray).size = t.size + 1 := by
        rw [← data_len, ByteArray.data_append, Array.toList_append, List.length_append, data_len]; rfl
      have HX : Hid ((t ++ ⟨#[48]⟩ : ByteArray).data.toList = 49 :: List.replicate (k + 1) 48) := by
        show (t ++ ⟨#[48]⟩ : ByteArray).data.toList = _
        rw [ByteArray.data_append, Array.toList_append, HK.out, List.replicate_succ']
        rfl
      have HS := Lib.hid hs48
      clear hs48
      go_wp2_with fail
      go_round
      case rel => exact ⟨k + 1, _, by omega, by go_num, rfl, by rw [HS.out, HTS.out], HX⟩
      case measure => simp [intOf] <;> omega
    · obtain rfl : k = b.size := by omega
      obtain rfl : t = D := Go.WideShapes.bytes_inj (HK.out.trans HD.out.symm)
      go_wp2_with fail
      refine (HM.out _).mono ?_
      rintro e w1 ⟨rfl, hb1⟩
      have HB := Lib.hid hb1
      clear hb1
      go_wp2_with fail
      go_ret2
      exact ⟨rfl, HB.out⟩
set_option maxHeartbeats 1000000 in
theorem num_47A (f b T R : ByteArray) (w : World) (hT : T.size ≤ 100000) (HT0 : Hid (∀ W, Calls Tryz.prog 72 #[.string f] W (StrT W T)))
    (HM : Hid (∀ W, Calls Tryz.prog 73 #[.string T, .string b] W (StE W R 0))) :
    Calls Tryz.prog 50 #[.bool false, .string f, .int .u8 47, .string b] w (StE w R 0) := by
  go_enter Tryz.func50, Tryz.ntmps50
  go_wp2_with fail
  refine (HT0.out _).mono ?_
  rintro e w' ⟨rfl, rfl⟩
  go_wp2_with fail
  refine (HM.out _).mono ?_
  rintro e w1 ⟨rfl, hb1⟩
  have HB := Lib.hid hb1
  clear hb1
  go_wp2_with fail
  go_ret2
  exact ⟨rfl, HB.out⟩
set_option maxHeartbeats 1000000 in
theorem num_47B (f b T R : ByteArray) (w : World) (hT : T.size ≤ 100000) (HT0 : Hid (∀ W, Calls Tryz.prog 72 #[.string f] W (StrT W T))) (z1 : (T.toList == [48]) = true) (z2 : (T.toList != [48]) = false)
    (HM : Hid (∀ W, Calls Tryz.prog 73 #[.string T, .string b] W (StE W R 0))) :
    Calls Tryz.prog 50 #[.bool true, .string f, .int .u8 47, .string b] w (StE w R 0) := by
  go_enter Tryz.func50, Tryz.ntmps50
  go_wp2_with fail
  refine (HT0.out _).mono ?_
  rintro e w' ⟨rfl, rfl⟩
  go_wp2_with fail
  refine (HM.out _).mono ?_
  rintro e w1 ⟨rfl, hb1⟩
  have HB := Lib.hid hb1
  clear hb1
  go_wp2_with fail
  go_ret2
  exact ⟨rfl, HB.out⟩
set_option maxHeartbeats 1000000 in
theorem num_47C (f b T R : ByteArray) (w : World) (hT : T.size ≤ 100000) (HT0 : Hid (∀ W, Calls Tryz.prog 72 #[.string f] W (StrT W T))) (z1 : (T.toList == [48]) = false) (z2 : (T.toList != [48]) = true)
    (HM : Hid (∀ W, Calls Tryz.prog 73 #[.string (⟨#[45]⟩ ++ T), .string b] W (StE W R 0))) :
    Calls Tryz.prog 50 #[.bool true, .string f, .int .u8 47, .string b] w (StE w R 0) := by
  go_enter Tryz.func50, Tryz.ntmps50
  go_wp2_with fail
  refine (HT0.out _).mono ?_
  rintro e w' ⟨rfl, rfl⟩
  go_wp2_with fail
  refine (HM.out _).mono ?_
  rintro e w1 ⟨rfl, hb1⟩
  have HB := Lib.hid hb1
  clear hb1
  go_wp2_with fail
  go_ret2
  exact ⟨rfl, HB.out⟩
theorem neg_list {T : ByteArray} {X : Nat} (h : T.data.toList = txtN X) (hX : 0 < X) : (⟨#[45]⟩ ++ T : ByteArray).data.toList = txtZ (-(X : Int)) := by
  rw [ByteArray.data_append, Array.toList_append, h, txtZ_neg hX]; rfl
theorem zero_t {T : ByteArray} {X : Nat} (h : T.data.toList = txtN X) : (T.toList == [48]) = decide (X = 0) := by
  rw [toList_data, h, Bool.eq_iff_iff, beq_iff_eq, decide_eq_true_eq]
  constructor
  · intro e
    have := numV_txtN X
    rw [e] at this
    exact this.symm
  · rintro rfl; rfl
theorem zero_f {T : ByteArray} {X : Nat} (h : T.data.toList = txtN X) : (T.toList != [48]) = !decide (X = 0) := by
  rw [← zero_t h]; rfl
theorem trim_num (t T : ByteArray) (W : World) (ht : t.size ≤ 100000) (h0 : t.data.toList ≠ []) (hd : ∀ c ∈ t.data.toList, dgQ c = true) (hT : T.data.toList = txtN (numV t.data.toList)) :
    Calls Tryz.prog 72 #[.string t] W (StrT W T) := by
  have := trim_rf t W ht
  rw [trL_is h0 hd] at this
  exact this.mono fun e w' ⟨h1, h2⟩ => ⟨by rw [h1, bs_of hT], h2⟩
theorem dg_of {l : List UInt8} (h : ∀ c ∈ l, dgQ c = true) : ∀ c ∈ l, 48 ≤ c.toNat ∧ c.toNat ≤ 57 := fun c hc => by
  have := h c hc; unfold dgQ at this; simpa using this
/-- The reference's number. -/
theorem number_rf (neg : Bool) (f b : ByteArray) (mk : Nat) (w : World) (hmk : mk = 0 ∨ mk = 46 ∨ mk = 47) (hf0 : f.data.toList ≠ []) (hf : ∀ c ∈ f.data.toList, dgQ c = true) (hb : ∀ c ∈ b.data.toList, dgQ c = true) (hfs : f.size ≤ 1000)
    (hbs : b.size ≤ 1000) (h46 : mk = 46 → f.size + b.size ≤ 1000) (h47 : mk = 47 → b.data.toList ≠ [] ∧ b.data.toList.head? ≠ some 48) :
    Calls Tryz.prog 50 #[.bool neg, .string f, .int .u8 (mk : Int), .string b] w (StE w ⟨(ratOf neg f.data.toList mk b.data.toList).toArray⟩ 0) := by
  obtain ⟨M, hM⟩ : ∃ M, M = 1000 := ⟨_, rfl⟩
  have pw : ∀ l : List UInt8, (∀ c ∈ l, dgQ c = true) → l.length ≤ 1000 → numV l < 10 ^ M := fun l hl hn => Nat.lt_of_lt_of_le (numV_le l (dg_of hl)) (Nat.pow_le_pow_right (by omega) (by omega))
  have fl : f.data.toList.length ≤ 1000 := by rw [data_len]; exact hfs
  have bl : b.data.toList.length ≤ 1000 := by rw [data_len]; exact hbs
  have tlen : ∀ X : Nat, X < 10 ^ M → (⟨(txtN X).toArray⟩ : ByteArray).size ≤ 100000 := fun X hX => by
    have e := bigZ_len (z := (X : Int)) (bigZ_ten hX (by omega) (by omega))
    rw [Int.natAbs_natCast] at e
    rw [← data_len]; show (txtN X).length ≤ _; omega
  have e49 : (⟨#[49]⟩ : ByteArray).data.toList = txtN 1 := by
    have : CanN [49] := ⟨by simp, by decide, fun _ => rfl⟩
    have h := txtN_undig [49] this
    exact h.symm
  obtain ⟨T0, hT0⟩ : ∃ T : ByteArray, T = ⟨(txtN (numV f.data.toList)).toArray⟩ := ⟨_, rfl⟩
  have lT0 : T0.data.toList = txtN (numV f.data.toList) := by rw [hT0]
  have sT0 : T0.size ≤ 100000 := by rw [hT0]; exact tlen _ (pw _ hf fl)
  have HT0 := Lib.hid (fun W => trim_num f T0 W (by omega) hf0 hf lT0)
  rcases hmk with rfl | rfl | rfl
  · have hr : ∀ q, ratOf q f.data.toList 0 b.data.toList = ratT (ratN (if q = true then -((numV f.data.toList : Nat) : Int) else ((numV f.data.toList : Nat) : Int)) ((1 : Nat) : Int)) (ratD (if q = true then -((numV f.data.toList : Nat) : Int) else ((numV f.data.toList : Nat) : Int)) ((1 : Nat) : Int)) := fun q => rfl
    rw [hr]
    have z1 := zero_t lT0
    have z2 := zero_f lT0
    cases neg with
    | false => exact num_0A f b T0 _ w sT0 HT0 (Lib.hid fun W => make_nd _ _ _ _ W (by rw [lT0, if_neg (by decide), txtZ_pos]) e49 M hM (by rw [if_neg (by decide), Int.natAbs_natCast]; exact pw _ hf fl) (Nat.one_lt_pow (by omega) (by omega)) (by omega))
    | true =>
      by_cases hX : numV f.data.toList = 0
      · rw [decide_eq_true hX] at z1 z2
        exact num_0B f b T0 _ w sT0 HT0 z1 z2 (Lib.hid fun W => make_nd _ _ _ _ W (by rw [lT0, if_pos rfl, hX]; rfl) e49 M hM (by rw [if_pos rfl, Int.natAbs_neg, Int.natAbs_natCast]; exact pw _ hf fl) (Nat.one_lt_pow (by omega) (by omega)) (by omega))
      · rw [decide_eq_false hX] at z1 z2
        exact num_0C f b T0 _ w sT0 HT0 z1 z2 (Lib.hid fun W => make_nd _ _ _ _ W (by rw [if_pos rfl]; exact neg_list lT0 (by omega)) e49 M hM (by rw [if_pos rfl, Int.natAbs_neg, Int.natAbs_natCast]; exact pw _ hf fl) (Nat.one_lt_pow (by omega) (by omega)) (by omega))
  · have hfb : ∀ c ∈ f.data.toList ++ b.data.toList, dgQ c = true := fun c hc => by
      rcases List.mem_append.1 hc with h | h
      · exact hf c h
      · exact hb c h
    have lfb : (f ++ b).data.toList = f.data.toList ++ b.data.toList := by simp
    have sfb : (f ++ b).size ≤ 1000 := by rw [← data_len, lfb, List.length_append, data_len, data_len]; exact h46 rfl
    have pfb : numV (f.data.toList ++ b.data.toList) < 10 ^ M := pw _ hfb (by rw [List.length_append, data_len, data_len]; exact h46 rfl)
    have f1 : 1 ≤ f.size := by rw [← data_len]; exact List.length_pos_iff.2 hf0
    obtain ⟨T, hT⟩ : ∃ T : ByteArray, T = ⟨(txtN (numV (f.data.toList ++ b.data.toList))).toArray⟩ := ⟨_, rfl⟩
    have lT : T.data.toList = txtN (numV (f.data.toList ++ b.data.toList)) := by rw [hT]
    have sT : T.size ≤ 100000 := by rw [hT]; exact tlen _ pfb
    have HT := Lib.hid (fun W => trim_num (f ++ b) T W (by omega) (by rw [lfb]; intro e; exact hf0 (List.append_eq_nil_iff.1 e).1) (by rw [lfb]; exact hfb) (by rw [lfb]; exact lT))
    obtain ⟨D, hD⟩ : ∃ D : ByteArray, D = ⟨(49 :: List.replicate b.size 48).toArray⟩ := ⟨_, rfl⟩
    have lD : D.data.toList = 49 :: List.replicate b.size 48 := by rw [hD]
    have cD : CanN (49 :: List.replicate b.size 48) := ⟨by simp, by
      intro c hc
      rcases List.mem_cons.1 hc with rfl | hc
      · decide
      · rw [List.eq_of_mem_replicate hc]; decide, by simp⟩
    have lD2 : D.data.toList = txtN (10 ^ b.data.toList.length) := by
      rw [lD, data_len, ← numV_ten, numV_undig, txtN_undig _ cD]
    have hr : ∀ q, ratOf q f.data.toList 46 b.data.toList = ratT (ratN (if q = true then -((numV (f.data.toList ++ b.data.toList) : Nat) : Int) else ((numV (f.data.toList ++ b.data.toList) : Nat) : Int)) ((10 ^ b.data.toList.length : Nat) : Int)) (ratD (if q = true then -((numV (f.data.toList ++ b.data.toList) : Nat) : Int) else ((numV (f.data.toList ++ b.data.toList) : Nat) : Int)) ((10 ^ b.data.toList.length : Nat) : Int)) := fun q => rfl
    rw [hr]
    have z1 := zero_t lT
    have z2 := zero_f lT
    cases neg with
    | false => exact num_46A f b T D T0 _ w sT HT0 HT (by omega) (by omega) hbs (Lib.hid lD) (Lib.hid fun W => make_nd _ _ _ _ W (by rw [lT, if_neg (by decide), txtZ_pos]) lD2 M hM (by rw [if_neg (by decide), Int.natAbs_natCast]; exact pfb) (by rw [data_len]; exact Nat.pow_lt_pow_right (by omega) (by have := h46 rfl; omega)) (Nat.pow_pos (by omega)))
    | true =>
      by_cases hX : numV (f.data.toList ++ b.data.toList) = 0
      · rw [decide_eq_true hX] at z1 z2
        exact num_46B f b T D T0 _ w sT HT0 HT (by omega) (by omega) hbs (Lib.hid lD) z1 z2 (Lib.hid fun W => make_nd _ _ _ _ W (by rw [lT, if_pos rfl, hX]; rfl) lD2 M hM (by rw [if_pos rfl, Int.natAbs_neg, Int.natAbs_natCast]; exact pfb) (by rw [data_len]; exact Nat.pow_lt_pow_right (by omega) (by have := h46 rfl; omega)) (Nat.pow_pos (by omega)))
      · rw [decide_eq_false hX] at z1 z2
        exact num_46C f b T D T0 _ w sT HT0 HT (by omega) (by omega) hbs (Lib.hid lD) z1 z2 (Lib.hid fun W => make_nd _ _ _ _ W (by rw [if_pos rfl]; exact neg_list lT (by omega)) lD2 M hM (by rw [if_pos rfl, Int.natAbs_neg, Int.natAbs_natCast]; exact pfb) (by rw [data_len]; exact Nat.pow_lt_pow_right (by omega) (by have := h46 rfl; omega)) (Nat.pow_pos (by omega)))
  · obtain ⟨b0, b1⟩ := h47 rfl
    have cB : CanN b.data.toList := ⟨b0, dg_of hb, fun e => absurd e b1⟩
    have lB : b.data.toList = txtN (numV b.data.toList) := by rw [numV_undig, txtN_undig _ cB]
    have hr : ∀ q, ratOf q f.data.toList 47 b.data.toList = ratT (ratN (if q = true then -((numV f.data.toList : Nat) : Int) else ((numV f.data.toList : Nat) : Int)) ((numV b.data.toList : Nat) : Int)) (ratD (if q = true then -((numV f.data.toList : Nat) : Int) else ((numV f.data.toList : Nat) : Int)) ((numV b.data.toList : Nat) : Int)) := fun q => rfl
    rw [hr]
    have z1 := zero_t lT0
    have z2 := zero_f lT0
    cases neg with
    | false => exact num_47A f b T0 _ w sT0 HT0 (Lib.hid fun W => make_nd _ _ _ _ W (by rw [lT0, if_neg (by decide), txtZ_pos]) lB M hM (by rw [if_neg (by decide), Int.natAbs_natCast]; exact pw _ hf fl) (pw _ hb bl) (numV_pos b0 hb b1))
    | true =>
      by_cases hX : numV f.data.toList = 0
      · rw [decide_eq_true hX] at z1 z2
        exact num_47B f b T0 _ w sT0 HT0 z1 z2 (Lib.hid fun W => make_nd _ _ _ _ W (by rw [lT0, if_pos rfl, hX]; rfl) lB M hM (by rw [if_pos rfl, Int.natAbs_neg, Int.natAbs_natCast]; exact pw _ hf fl) (pw _ hb bl) (numV_pos b0 hb b1))
      · rw [decide_eq_false hX] at z1 z2
        exact num_47C f b T0 _ w sT0 HT0 z1 z2 (Lib.hid fun W => make_nd _ _ _ _ W (by rw [if_pos rfl]; exact neg_list lT0 (by omega)) lB M hM (by rw [if_pos rfl, Int.natAbs_neg, Int.natAbs_natCast]; exact pw _ hf fl) (pw _ hb bl) (numV_pos b0 hb b1))

end Go.Proofs.YtnmiiimbjojcmaaGreatDoor
