/-
  The program's Round of rationals, walked. Condition: what the table away holds, as a hypothesis.
-/
import Derived.Test.YtnikhbdjlipcbaaDoorVt
namespace Go.Proofs.YtnikhbdjlipcbaaDoor
open Go.RowKit Go.Shelf

theorem ret_se {a b : ByteArray} {c d : Int} (h1 : a = b) (h2 : c = d) : Ending.returned (.tuple #[.string a, .int .i64 c]) = .returned (.tuple #[.string b, .int .i64 d]) := by rw [h1, h2]
def rndUp (mode : Nat) (odd : Bool) (half : Int) : Bool :=
  match mode with
  | 0 => false
  | 1 => true
  | 2 => decide (0 ≤ half)
  | 3 => decide (0 < half) || (decide (half = 0) && odd)
  | _ => false
def awayF : List Nat := [179, 180, 181, 182, 183]
/-- What the table away holds. -/
def AwayEnv (W : World) : Prop := ∀ k f, awayF[k]? = some f → W.cell? ⟨0, k, none⟩ = some (.func (.func f) #[] #[])
theorem AwayEnv.below {W W' : World} (h : AwayEnv W) (hb : Below W.heap.size W W') : AwayEnv W' := fun k f hk =>
  ((bcell hb).1 _ _ (cell_lt (a := ⟨0, k, none⟩) (h k f hk))).trans (h k f hk)
def RetBD (W : World) (b : Bool) (e : Ending) (w' : World) : Prop := e = .returned (.bool b) ∧ Below W.heap.size W w'
set_option maxHeartbeats 1000000 in
theorem away_1 (odd : Bool) (half : Int) (w : World) : Calls Tryd.prog 179 #[.bool odd, .int .i64 half] w (RetBD w (rndUp 0 odd half)) := by
  go_enter Tryd.func179, Tryd.ntmps179
  go_wp2_with fail
  go_ret
  exact ⟨rfl, Below.refl _ _⟩
set_option maxHeartbeats 1000000 in
theorem away_2 (odd : Bool) (half : Int) (w : World) : Calls Tryd.prog 180 #[.bool odd, .int .i64 half] w (RetBD w (rndUp 1 odd half)) := by
  go_enter Tryd.func180, Tryd.ntmps180
  go_wp2_with fail
  go_ret
  exact ⟨rfl, Below.refl _ _⟩
set_option maxHeartbeats 1000000 in
theorem away_3 (odd : Bool) (half : Int) (w : World) : Calls Tryd.prog 181 #[.bool odd, .int .i64 half] w (RetBD w (rndUp 2 odd half)) := by
  go_enter Tryd.func181, Tryd.ntmps181
  go_wp2_with fail
  go_ret
  exact ⟨rfl, Below.refl _ _⟩
set_option maxHeartbeats 1000000 in
theorem away_4 (odd : Bool) (half : Int) (w : World) : Calls Tryd.prog 182 #[.bool odd, .int .i64 half] w (RetBD w (rndUp 3 odd half)) := by
  have hc : 0 < half ∨ half = 0 ∨ half < 0 := by omega
  rcases hc with h | h | h
  · have HQ : Hid (rndUp 3 odd half = true) := by show rndUp 3 odd half = true; unfold rndUp; simp [h]
    rw [HQ.out]
    go_enter Tryd.func182, Tryd.ntmps182
    go_wp2_with fail
    go_ret
    exact ⟨rfl, Below.refl _ _⟩
  · subst h
    have HQ : Hid (rndUp 3 odd 0 = odd) := by show rndUp 3 odd 0 = odd; unfold rndUp; simp
    rw [HQ.out]
    cases odd
    all_goals
      go_enter Tryd.func182, Tryd.ntmps182
      go_wp2_with fail
      go_ret
      exact ⟨rfl, Below.refl _ _⟩
  · have HQ : Hid (rndUp 3 odd half = false) := by
      show rndUp 3 odd half = false
      unfold rndUp
      show (decide (0 < half) || (decide (half = 0) && odd)) = false
      rw [Bool.or_eq_false_iff, Bool.and_eq_false_iff]
      exact ⟨by simp; omega, .inl (by simp; omega)⟩
    have h1 : decide (0 < half) = false := by simp; omega
    have h2 : (half == 0) = false := by rw [beq_eq_false_iff_ne]; omega
    rw [HQ.out]
    go_enter Tryd.func182, Tryd.ntmps182
    go_wp2_with fail
    go_ret
    exact ⟨rfl, Below.refl _ _⟩

def CmE (W : World) (n : Int) (e : Ending) (w' : World) : Prop := e = .returned (.tuple #[.int .i64 n, .int .i64 0]) ∧ Below W.heap.size W w'
set_option maxHeartbeats 1000000 in
set_option maxRecDepth 100000 in
theorem round_mode (s : ByteArray) (k : Nat) (w : World) (hk : 5 ≤ k) : Calls Tryd.prog 22 #[.string s, .int .u8 (k : Int)] w (StE w ⟨#[]⟩ 2) := by
  have t1 : decide ((5 : Int) ≤ (k : Int)) = true := by simp; omega
  go_enter Tryd.func22, Tryd.ntmps22
  go_wp2_with fail
  go_ret2
  exact ⟨rfl, Below.refl _ _⟩
set_option maxHeartbeats 1000000 in
set_option maxRecDepth 100000 in
theorem round_bad (s : ByteArray) (k : Nat) (f : Int) (w : World) (hk : k < 5) (hf : f ≠ 0) (HP : Hid (∀ W, Calls Tryd.prog 52 #[.string s] W (P3 W ⟨#[]⟩ ⟨#[]⟩ f))) : Calls Tryd.prog 22 #[.string s, .int .u8 (k : Int)] w (StE w ⟨#[]⟩ f) := by
  have t1 : decide ((5 : Int) ≤ (k : Int)) = false := by simp; omega
  have t2 : (f != 0) = true := by simpa using hf
  clear hf
  go_enter Tryd.func22, Tryd.ntmps22
  go_wp2_with fail
  refine (HP.out _).mono ?_
  rintro e w1 ⟨rfl, b1⟩
  have B1 := Lib.hid b1
  clear b1
  go_wp2_with fail
  go_ret2
  exact ⟨rfl, B1.out⟩
set_option maxHeartbeats 1000000 in
set_option maxRecDepth 100000 in
theorem round_floor (s n d q r : ByteArray) (w : World) (HP : Hid (∀ W, Calls Tryd.prog 52 #[.string s] W (P3 W n d 0)))
    (HD : Hid (∀ W, Calls Tryd.prog 53 #[.string n, .string d] W (QrB W q r))) : Calls Tryd.prog 22 #[.string s, .int .u8 4] w (StE w q 0) := by
  go_enter Tryd.func22, Tryd.ntmps22
  go_wp2_with fail
  refine (HP.out _).mono ?_
  rintro e w1 ⟨rfl, b1⟩
  have B1 := Lib.hid b1
  clear b1
  go_wp2_with fail
  refine (HD.out _).mono ?_
  rintro e w2 ⟨rfl, b2⟩
  have B2 := Lib.hid (B1.out.trans (b2.mono B1.out.size))
  clear b2
  go_wp2_with fail
  go_ret2
  exact ⟨rfl, B2.out⟩


set_option maxHeartbeats 8000000 in
set_option maxRecDepth 100000 in
theorem round_0 (s n m d q r l q2 : ByteArray) (neg odd rz up qz : Bool) (half f : Int) (w : World) (hE : AwayEnv w)
    (HP : Hid (∀ W, Calls Tryd.prog 52 #[.string s] W (P3 W n d 0)))
    (h0 : 0 < n.size) (t1 : ((n[0].toNat : Int) == 45) = neg) (hm : Hid (if neg = true then n.extract 1 n.size = m else n = m))
    (HD : Hid (∀ W, Calls Tryd.prog 53 #[.string m, .string d] W (QrB W q r)))
    (HS : Hid (∀ W, Calls Tryd.prog 54 #[.string d, .string r] W (StE W l 0)))
    (HC : Hid (∀ W, Calls Tryd.prog 55 #[.string r, .string l] W (CmE W half)))
    (hq : 0 < q.size) (hqs : q.size ≤ 100000) (hq1 : 48 ≤ (q[q.size - 1]'(by omega)).toNat) (hq2 : (q[q.size - 1]'(by omega)).toNat ≤ 57) (t3 : Hid (((((q[q.size - 1]'(by omega)).toNat : Int) - 48) % 2 == 1) = odd))
    (t4 : (r.toList == [48]) = rz) (hup : Hid (up = (!rz && rndUp 0 odd half)))
    (HA : Hid (if up = true then ∀ W, Calls Tryd.prog 56 #[.string q, .string ⟨#[49]⟩] W (StE W q2 f) else q = q2 ∧ f = 0))
    (t5 : (q2.toList == [48]) = qz) (res : ByteArray) (HR : Hid (res = if f ≠ 0 then ⟨#[]⟩ else if (neg && !qz) = true then ⟨#[45]⟩ ++ q2 else q2)) (h2s : q2.size ≤ 100000) :
    Calls Tryd.prog 22 #[.string s, .int .u8 0] w (StE w res f) := by
  have HE := Lib.hid hE
  clear hE
  have HEW : Hid (∀ W, Below w.heap.size w W → W.cell? ⟨0, 0, none⟩ = some (.func (.func 179) #[] #[])) := fun W h => HE.out.below h 0 _ rfl
  go_enter Tryd.func22, Tryd.ntmps22
  go_wp2_with fail
  refine (HP.out _).mono ?_
  rintro e w1 ⟨rfl, b1⟩
  have B1 := Lib.hid b1
  clear b1
  go_upto_if 46 with (fail)
  go_cut [6] (fun v wx => v = .string m ∧ w1 = wx)
  case first => as_aux_lemma =>
    cases neg with
    | true =>
      have HM : Hid (n.extract 1 n.size = m) := hm.out
      have h1n : ¬ ((n.size : Int) < 1) := by omega
      go_wp2_with fail
      go_meet
      exact ⟨by rw [HM.out], rfl⟩
    | false =>
      have HM : Hid (n = m) := hm.out
      go_wp2_with fail
      go_meet
      exact ⟨by rw [HM.out], rfl⟩
  case rest => as_aux_lemma =>
    obtain ⟨rfl, rfl⟩ := hcut
    go_wp2_with fail
    refine (HD.out _).mono ?_
    rintro e w2 ⟨rfl, b2⟩
    have B2 := Lib.hid (B1.out.trans (b2.mono B1.out.size))
    clear b2
    go_wp2_with fail
    refine (HS.out _).mono ?_
    rintro e w3 ⟨rfl, b3⟩
    have B3 := Lib.hid (B2.out.trans (b3.mono B2.out.size))
    clear b3
    go_wp2_with fail
    refine (HC.out _).mono ?_
    rintro e w4 ⟨rfl, b4⟩
    have B4 := Lib.hid (B3.out.trans (b4.mono B3.out.size))
    clear b4
    go_upto_region 16 with (fail)
    go_cut [85] (fun v wx => v = .bool up ∧ Below w4.heap.size w4 wx)
    case first => as_aux_lemma =>
      cases rz with
      | true =>
        have HU : Hid (up = false) := by show up = false; rw [hup.out]; simp
        go_wp2_with fail
        go_meet
        exact ⟨by rw [HU.out], Below.refl _ _⟩
      | false =>
        have c1 := HEW.out _ B4.out
        go_wp2_with fail
        refine (away_1 _ _ _).mono ?_
        rintro e w5 ⟨rfl, b5⟩
        have HU : Hid (up = rndUp 0 odd half) := by show up = _; rw [hup.out]; simp
        have B5 := Lib.hid b5
        clear b5
        go_wp2_with fail
        go_meet
        exact ⟨by rw [HU.out, ← t3.out], B5.out⟩
    case rest => as_aux_lemma =>
      obtain ⟨rfl, hb5⟩ := hcut
      have B5 : Hid (Below w.heap.size w wc) := B4.out.trans (hb5.mono B4.out.size)
      clear hb5
      cases up with
      | false =>
        obtain ⟨rfl, rfl⟩ : q = q2 ∧ f = 0 := by have h := HA.out; simpa using h
        have BX := B5
        go_upto_region 20 with (fail)
        cases neg with
        | false =>
          have HR2 : Hid (res = q) := by show res = q; rw [HR.out]; simp
          go_wp2_with fail
          go_ret2
          exact ⟨ret_se HR2.out.symm rfl, BX.out⟩
        | true =>
          cases qz with
          | true =>
            have HR2 : Hid (res = q) := by show res = q; rw [HR.out]; simp
            go_wp2_with fail
            go_ret2
            exact ⟨ret_se HR2.out.symm rfl, BX.out⟩
          | false =>
            have HR2 : Hid (res = ⟨#[45]⟩ ++ q) := by show res = _; rw [HR.out]; simp
            go_wp2_with fail
            go_ret2
            exact ⟨ret_se HR2.out.symm rfl, BX.out⟩

      | true =>
        have HAD : Hid (∀ W, Calls Tryd.prog 56 #[.string q, .string ⟨#[49]⟩] W (StE W q2 f)) := HA.out
        by_cases hf : f = 0
        · subst hf
          go_wp2_with fail
          refine (HAD.out _).mono ?_
          rintro e w6 ⟨rfl, b6⟩
          have BX : Hid (Below w.heap.size w w6) := B5.out.trans (b6.mono B5.out.size)
          clear b6
          go_upto_region 20 with (fail)
          cases neg with
          | false =>
            have HR2 : Hid (res = q2) := by show res = q2; rw [HR.out]; simp
            go_wp2_with fail
            go_ret2
            exact ⟨ret_se HR2.out.symm rfl, BX.out⟩
          | true =>
            cases qz with
            | true =>
              have HR2 : Hid (res = q2) := by show res = q2; rw [HR.out]; simp
              go_wp2_with fail
              go_ret2
              exact ⟨ret_se HR2.out.symm rfl, BX.out⟩
            | false =>
              have HR2 : Hid (res = ⟨#[45]⟩ ++ q2) := by show res = _; rw [HR.out]; simp
              go_wp2_with fail
              go_ret2
              exact ⟨ret_se HR2.out.symm rfl, BX.out⟩

        · have t6 : (f != 0) = true := by simpa using hf
          have HR2 : Hid (res = ⟨#[]⟩) := by show res = _; rw [HR.out, if_pos hf]
          clear hf
          go_wp2_with fail
          refine (HAD.out _).mono ?_
          rintro e w6 ⟨rfl, b6⟩
          have BX : Hid (Below w.heap.size w w6) := B5.out.trans (b6.mono B5.out.size)
          clear b6
          go_wp2_with fail
          go_ret2
          exact ⟨ret_se HR2.out.symm rfl, BX.out⟩


set_option maxHeartbeats 8000000 in
set_option maxRecDepth 100000 in
theorem round_1 (s n m d q r l q2 : ByteArray) (neg odd rz up qz : Bool) (half f : Int) (w : World) (hE : AwayEnv w)
    (HP : Hid (∀ W, Calls Tryd.prog 52 #[.string s] W (P3 W n d 0)))
    (h0 : 0 < n.size) (t1 : ((n[0].toNat : Int) == 45) = neg) (hm : Hid (if neg = true then n.extract 1 n.size = m else n = m))
    (HD : Hid (∀ W, Calls Tryd.prog 53 #[.string m, .string d] W (QrB W q r)))
    (HS : Hid (∀ W, Calls Tryd.prog 54 #[.string d, .string r] W (StE W l 0)))
    (HC : Hid (∀ W, Calls Tryd.prog 55 #[.string r, .string l] W (CmE W half)))
    (hq : 0 < q.size) (hqs : q.size ≤ 100000) (hq1 : 48 ≤ (q[q.size - 1]'(by omega)).toNat) (hq2 : (q[q.size - 1]'(by omega)).toNat ≤ 57) (t3 : Hid (((((q[q.size - 1]'(by omega)).toNat : Int) - 48) % 2 == 1) = odd))
    (t4 : (r.toList == [48]) = rz) (hup : Hid (up = (!rz && rndUp 1 odd half)))
    (HA : Hid (if up = true then ∀ W, Calls Tryd.prog 56 #[.string q, .string ⟨#[49]⟩] W (StE W q2 f) else q = q2 ∧ f = 0))
    (t5 : (q2.toList == [48]) = qz) (res : ByteArray) (HR : Hid (res = if f ≠ 0 then ⟨#[]⟩ else if (neg && !qz) = true then ⟨#[45]⟩ ++ q2 else q2)) (h2s : q2.size ≤ 100000) :
    Calls Tryd.prog 22 #[.string s, .int .u8 1] w (StE w res f) := by
  have HE := Lib.hid hE
  clear hE
  have HEW : Hid (∀ W, Below w.heap.size w W → W.cell? ⟨0, 1, none⟩ = some (.func (.func 180) #[] #[])) := fun W h => HE.out.below h 1 _ rfl
  go_enter Tryd.func22, Tryd.ntmps22
  go_wp2_with fail
  refine (HP.out _).mono ?_
  rintro e w1 ⟨rfl, b1⟩
  have B1 := Lib.hid b1
  clear b1
  go_upto_if 46 with (fail)
  go_cut [6] (fun v wx => v = .string m ∧ w1 = wx)
  case first => as_aux_lemma =>
    cases neg with
    | true =>
      have HM : Hid (n.extract 1 n.size = m) := hm.out
      have h1n : ¬ ((n.size : Int) < 1) := by omega
      go_wp2_with fail
      go_meet
      exact ⟨by rw [HM.out], rfl⟩
    | false =>
      have HM : Hid (n = m) := hm.out
      go_wp2_with fail
      go_meet
      exact ⟨by rw [HM.out], rfl⟩
  case rest => as_aux_lemma =>
    obtain ⟨rfl, rfl⟩ := hcut
    go_wp2_with fail
    refine (HD.out _).mono ?_
    rintro e w2 ⟨rfl, b2⟩
    have B2 := Lib.hid (B1.out.trans (b2.mono B1.out.size))
    clear b2
    go_wp2_with fail
    refine (HS.out _).mono ?_
    rintro e w3 ⟨rfl, b3⟩
    have B3 := Lib.hid (B2.out.trans (b3.mono B2.out.size))
    clear b3
    go_wp2_with fail
    refine (HC.out _).mono ?_
    rintro e w4 ⟨rfl, b4⟩
    have B4 := Lib.hid (B3.out.trans (b4.mono B3.out.size))
    clear b4
    go_upto_region 16 with (fail)
    go_cut [85] (fun v wx => v = .bool up ∧ Below w4.heap.size w4 wx)
    case first => as_aux_lemma =>
      cases rz with
      | true =>
        have HU : Hid (up = false) := by show up = false; rw [hup.out]; simp
        go_wp2_with fail
        go_meet
        exact ⟨by rw [HU.out], Below.refl _ _⟩
      | false =>
        have c1 := HEW.out _ B4.out
        go_wp2_with fail
        refine (away_2 _ _ _).mono ?_
        rintro e w5 ⟨rfl, b5⟩
        have HU : Hid (up = rndUp 1 odd half) := by show up = _; rw [hup.out]; simp
        have B5 := Lib.hid b5
        clear b5
        go_wp2_with fail
        go_meet
        exact ⟨by rw [HU.out, ← t3.out], B5.out⟩
    case rest => as_aux_lemma =>
      obtain ⟨rfl, hb5⟩ := hcut
      have B5 : Hid (Below w.heap.size w wc) := B4.out.trans (hb5.mono B4.out.size)
      clear hb5
      cases up with
      | false =>
        obtain ⟨rfl, rfl⟩ : q = q2 ∧ f = 0 := by have h := HA.out; simpa using h
        have BX := B5
        go_upto_region 20 with (fail)
        cases neg with
        | false =>
          have HR2 : Hid (res = q) := by show res = q; rw [HR.out]; simp
          go_wp2_with fail
          go_ret2
          exact ⟨ret_se HR2.out.symm rfl, BX.out⟩
        | true =>
          cases qz with
          | true =>
            have HR2 : Hid (res = q) := by show res = q; rw [HR.out]; simp
            go_wp2_with fail
            go_ret2
            exact ⟨ret_se HR2.out.symm rfl, BX.out⟩
          | false =>
            have HR2 : Hid (res = ⟨#[45]⟩ ++ q) := by show res = _; rw [HR.out]; simp
            go_wp2_with fail
            go_ret2
            exact ⟨ret_se HR2.out.symm rfl, BX.out⟩

      | true =>
        have HAD : Hid (∀ W, Calls Tryd.prog 56 #[.string q, .string ⟨#[49]⟩] W (StE W q2 f)) := HA.out
        by_cases hf : f = 0
        · subst hf
          go_wp2_with fail
          refine (HAD.out _).mono ?_
          rintro e w6 ⟨rfl, b6⟩
          have BX : Hid (Below w.heap.size w w6) := B5.out.trans (b6.mono B5.out.size)
          clear b6
          go_upto_region 20 with (fail)
          cases neg with
          | false =>
            have HR2 : Hid (res = q2) := by show res = q2; rw [HR.out]; simp
            go_wp2_with fail
            go_ret2
            exact ⟨ret_se HR2.out.symm rfl, BX.out⟩
          | true =>
            cases qz with
            | true =>
              have HR2 : Hid (res = q2) := by show res = q2; rw [HR.out]; simp
              go_wp2_with fail
              go_ret2
              exact ⟨ret_se HR2.out.symm rfl, BX.out⟩
            | false =>
              have HR2 : Hid (res = ⟨#[45]⟩ ++ q2) := by show res = _; rw [HR.out]; simp
              go_wp2_with fail
              go_ret2
              exact ⟨ret_se HR2.out.symm rfl, BX.out⟩

        · have t6 : (f != 0) = true := by simpa using hf
          have HR2 : Hid (res = ⟨#[]⟩) := by show res = _; rw [HR.out, if_pos hf]
          clear hf
          go_wp2_with fail
          refine (HAD.out _).mono ?_
          rintro e w6 ⟨rfl, b6⟩
          have BX : Hid (Below w.heap.size w w6) := B5.out.trans (b6.mono B5.out.size)
          clear b6
          go_wp2_with fail
          go_ret2
          exact ⟨ret_se HR2.out.symm rfl, BX.out⟩


set_option maxHeartbeats 8000000 in
set_option maxRecDepth 100000 in
theorem round_2 (s n m d q r l q2 : ByteArray) (neg odd rz up qz : Bool) (half f : Int) (w : World) (hE : AwayEnv w)
    (HP : Hid (∀ W, Calls Tryd.prog 52 #[.string s] W (P3 W n d 0)))
    (h0 : 0 < n.size) (t1 : ((n[0].toNat : Int) == 45) = neg) (hm : Hid (if neg = true then n.extract 1 n.size = m else n = m))
    (HD : Hid (∀ W, Calls Tryd.prog 53 #[.string m, .string d] W (QrB W q r)))
    (HS : Hid (∀ W, Calls Tryd.prog 54 #[.string d, .string r] W (StE W l 0)))
    (HC : Hid (∀ W, Calls Tryd.prog 55 #[.string r, .string l] W (CmE W half)))
    (hq : 0 < q.size) (hqs : q.size ≤ 100000) (hq1 : 48 ≤ (q[q.size - 1]'(by omega)).toNat) (hq2 : (q[q.size - 1]'(by omega)).toNat ≤ 57) (t3 : Hid (((((q[q.size - 1]'(by omega)).toNat : Int) - 48) % 2 == 1) = odd))
    (t4 : (r.toList == [48]) = rz) (hup : Hid (up = (!rz && rndUp 2 odd half)))
    (HA : Hid (if up = true then ∀ W, Calls Tryd.prog 56 #[.string q, .string ⟨#[49]⟩] W (StE W q2 f) else q = q2 ∧ f = 0))
    (t5 : (q2.toList == [48]) = qz) (res : ByteArray) (HR : Hid (res = if f ≠ 0 then ⟨#[]⟩ else if (neg && !qz) = true then ⟨#[45]⟩ ++ q2 else q2)) (h2s : q2.size ≤ 100000) :
    Calls Tryd.prog 22 #[.string s, .int .u8 2] w (StE w res f) := by
  have HE := Lib.hid hE
  clear hE
  have HEW : Hid (∀ W, Below w.heap.size w W → W.cell? ⟨0, 2, none⟩ = some (.func (.func 181) #[] #[])) := fun W h => HE.out.below h 2 _ rfl
  go_enter Tryd.func22, Tryd.ntmps22
  go_wp2_with fail
  refine (HP.out _).mono ?_
  rintro e w1 ⟨rfl, b1⟩
  have B1 := Lib.hid b1
  clear b1
  go_upto_if 46 with (fail)
  go_cut [6] (fun v wx => v = .string m ∧ w1 = wx)
  case first => as_aux_lemma =>
    cases neg with
    | true =>
      have HM : Hid (n.extract 1 n.size = m) := hm.out
      have h1n : ¬ ((n.size : Int) < 1) := by omega
      go_wp2_with fail
      go_meet
      exact ⟨by rw [HM.out], rfl⟩
    | false =>
      have HM : Hid (n = m) := hm.out
      go_wp2_with fail
      go_meet
      exact ⟨by rw [HM.out], rfl⟩
  case rest => as_aux_lemma =>
    obtain ⟨rfl, rfl⟩ := hcut
    go_wp2_with fail
    refine (HD.out _).mono ?_
    rintro e w2 ⟨rfl, b2⟩
    have B2 := Lib.hid (B1.out.trans (b2.mono B1.out.size))
    clear b2
    go_wp2_with fail
    refine (HS.out _).mono ?_
    rintro e w3 ⟨rfl, b3⟩
    have B3 := Lib.hid (B2.out.trans (b3.mono B2.out.size))
    clear b3
    go_wp2_with fail
    refine (HC.out _).mono ?_
    rintro e w4 ⟨rfl, b4⟩
    have B4 := Lib.hid (B3.out.trans (b4.mono B3.out.size))
    clear b4
    go_upto_region 16 with (fail)
    go_cut [85] (fun v wx => v = .bool up ∧ Below w4.heap.size w4 wx)
    case first => as_aux_lemma =>
      cases rz with
      | true =>
        have HU : Hid (up = false) := by show up = false; rw [hup.out]; simp
        go_wp2_with fail
        go_meet
        exact ⟨by rw [HU.out], Below.refl _ _⟩
      | false =>
        have c1 := HEW.out _ B4.out
        go_wp2_with fail
        refine (away_3 _ _ _).mono ?_
        rintro e w5 ⟨rfl, b5⟩
        have HU : Hid (up = rndUp 2 odd half) := by show up = _; rw [hup.out]; simp
        have B5 := Lib.hid b5
        clear b5
        go_wp2_with fail
        go_meet
        exact ⟨by rw [HU.out, ← t3.out], B5.out⟩
    case rest => as_aux_lemma =>
      obtain ⟨rfl, hb5⟩ := hcut
      have B5 : Hid (Below w.heap.size w wc) := B4.out.trans (hb5.mono B4.out.size)
      clear hb5
      cases up with
      | false =>
        obtain ⟨rfl, rfl⟩ : q = q2 ∧ f = 0 := by have h := HA.out; simpa using h
        have BX := B5
        go_upto_region 20 with (fail)
        cases neg with
        | false =>
          have HR2 : Hid (res = q) := by show res = q; rw [HR.out]; simp
          go_wp2_with fail
          go_ret2
          exact ⟨ret_se HR2.out.symm rfl, BX.out⟩
        | true =>
          cases qz with
          | true =>
            have HR2 : Hid (res = q) := by show res = q; rw [HR.out]; simp
            go_wp2_with fail
            go_ret2
            exact ⟨ret_se HR2.out.symm rfl, BX.out⟩
          | false =>
            have HR2 : Hid (res = ⟨#[45]⟩ ++ q) := by show res = _; rw [HR.out]; simp
            go_wp2_with fail
            go_ret2
            exact ⟨ret_se HR2.out.symm rfl, BX.out⟩

      | true =>
        have HAD : Hid (∀ W, Calls Tryd.prog 56 #[.string q, .string ⟨#[49]⟩] W (StE W q2 f)) := HA.out
        by_cases hf : f = 0
        · subst hf
          go_wp2_with fail
          refine (HAD.out _).mono ?_
          rintro e w6 ⟨rfl, b6⟩
          have BX : Hid (Below w.heap.size w w6) := B5.out.trans (b6.mono B5.out.size)
          clear b6
          go_upto_region 20 with (fail)
          cases neg with
          | false =>
            have HR2 : Hid (res = q2) := by show res = q2; rw [HR.out]; simp
            go_wp2_with fail
            go_ret2
            exact ⟨ret_se HR2.out.symm rfl, BX.out⟩
          | true =>
            cases qz with
            | true =>
              have HR2 : Hid (res = q2) := by show res = q2; rw [HR.out]; simp
              go_wp2_with fail
              go_ret2
              exact ⟨ret_se HR2.out.symm rfl, BX.out⟩
            | false =>
              have HR2 : Hid (res = ⟨#[45]⟩ ++ q2) := by show res = _; rw [HR.out]; simp
              go_wp2_with fail
              go_ret2
              exact ⟨ret_se HR2.out.symm rfl, BX.out⟩

        · have t6 : (f != 0) = true := by simpa using hf
          have HR2 : Hid (res = ⟨#[]⟩) := by show res = _; rw [HR.out, if_pos hf]
          clear hf
          go_wp2_with fail
          refine (HAD.out _).mono ?_
          rintro e w6 ⟨rfl, b6⟩
          have BX : Hid (Below w.heap.size w w6) := B5.out.trans (b6.mono B5.out.size)
          clear b6
          go_wp2_with fail
          go_ret2
          exact ⟨ret_se HR2.out.symm rfl, BX.out⟩


set_option maxHeartbeats 8000000 in
set_option maxRecDepth 100000 in
theorem round_3 (s n m d q r l q2 : ByteArray) (neg odd rz up qz : Bool) (half f : Int) (w : World) (hE : AwayEnv w)
    (HP : Hid (∀ W, Calls Tryd.prog 52 #[.string s] W (P3 W n d 0)))
    (h0 : 0 < n.size) (t1 : ((n[0].toNat : Int) == 45) = neg) (hm : Hid (if neg = true then n.extract 1 n.size = m else n = m))
    (HD : Hid (∀ W, Calls Tryd.prog 53 #[.string m, .string d] W (QrB W q r)))
    (HS : Hid (∀ W, Calls Tryd.prog 54 #[.string d, .string r] W (StE W l 0)))
    (HC : Hid (∀ W, Calls Tryd.prog 55 #[.string r, .string l] W (CmE W half)))
    (hq : 0 < q.size) (hqs : q.size ≤ 100000) (hq1 : 48 ≤ (q[q.size - 1]'(by omega)).toNat) (hq2 : (q[q.size - 1]'(by omega)).toNat ≤ 57) (t3 : Hid (((((q[q.size - 1]'(by omega)).toNat : Int) - 48) % 2 == 1) = odd))
    (t4 : (r.toList == [48]) = rz) (hup : Hid (up = (!rz && rndUp 3 odd half)))
    (HA : Hid (if up = true then ∀ W, Calls Tryd.prog 56 #[.string q, .string ⟨#[49]⟩] W (StE W q2 f) else q = q2 ∧ f = 0))
    (t5 : (q2.toList == [48]) = qz) (res : ByteArray) (HR : Hid (res = if f ≠ 0 then ⟨#[]⟩ else if (neg && !qz) = true then ⟨#[45]⟩ ++ q2 else q2)) (h2s : q2.size ≤ 100000) :
    Calls Tryd.prog 22 #[.string s, .int .u8 3] w (StE w res f) := by
  have HE := Lib.hid hE
  clear hE
  have HEW : Hid (∀ W, Below w.heap.size w W → W.cell? ⟨0, 3, none⟩ = some (.func (.func 182) #[] #[])) := fun W h => HE.out.below h 3 _ rfl
  go_enter Tryd.func22, Tryd.ntmps22
  go_wp2_with fail
  refine (HP.out _).mono ?_
  rintro e w1 ⟨rfl, b1⟩
  have B1 := Lib.hid b1
  clear b1
  go_upto_if 46 with (fail)
  go_cut [6] (fun v wx => v = .string m ∧ w1 = wx)
  case first => as_aux_lemma =>
    cases neg with
    | true =>
      have HM : Hid (n.extract 1 n.size = m) := hm.out
      have h1n : ¬ ((n.size : Int) < 1) := by omega
      go_wp2_with fail
      go_meet
      exact ⟨by rw [HM.out], rfl⟩
    | false =>
      have HM : Hid (n = m) := hm.out
      go_wp2_with fail
      go_meet
      exact ⟨by rw [HM.out], rfl⟩
  case rest => as_aux_lemma =>
    obtain ⟨rfl, rfl⟩ := hcut
    go_wp2_with fail
    refine (HD.out _).mono ?_
    rintro e w2 ⟨rfl, b2⟩
    have B2 := Lib.hid (B1.out.trans (b2.mono B1.out.size))
    clear b2
    go_wp2_with fail
    refine (HS.out _).mono ?_
    rintro e w3 ⟨rfl, b3⟩
    have B3 := Lib.hid (B2.out.trans (b3.mono B2.out.size))
    clear b3
    go_wp2_with fail
    refine (HC.out _).mono ?_
    rintro e w4 ⟨rfl, b4⟩
    have B4 := Lib.hid (B3.out.trans (b4.mono B3.out.size))
    clear b4
    go_upto_region 16 with (fail)
    go_cut [85] (fun v wx => v = .bool up ∧ Below w4.heap.size w4 wx)
    case first => as_aux_lemma =>
      cases rz with
      | true =>
        have HU : Hid (up = false) := by show up = false; rw [hup.out]; simp
        go_wp2_with fail
        go_meet
        exact ⟨by rw [HU.out], Below.refl _ _⟩
      | false =>
        have c1 := HEW.out _ B4.out
        go_wp2_with fail
        refine (away_4 _ _ _).mono ?_
        rintro e w5 ⟨rfl, b5⟩
        have HU : Hid (up = rndUp 3 odd half) := by show up = _; rw [hup.out]; simp
        have B5 := Lib.hid b5
        clear b5
        go_wp2_with fail
        go_meet
        exact ⟨by rw [HU.out, ← t3.out], B5.out⟩
    case rest => as_aux_lemma =>
      obtain ⟨rfl, hb5⟩ := hcut
      have B5 : Hid (Below w.heap.size w wc) := B4.out.trans (hb5.mono B4.out.size)
      clear hb5
      cases up with
      | false =>
        obtain ⟨rfl, rfl⟩ : q = q2 ∧ f = 0 := by have h := HA.out; simpa using h
        have BX := B5
        go_upto_region 20 with (fail)
        cases neg with
        | false =>
          have HR2 : Hid (res = q) := by show res = q; rw [HR.out]; simp
          go_wp2_with fail
          go_ret2
          exact ⟨ret_se HR2.out.symm rfl, BX.out⟩
        | true =>
          cases qz with
          | true =>
            have HR2 : Hid (res = q) := by show res = q; rw [HR.out]; simp
            go_wp2_with fail
            go_ret2
            exact ⟨ret_se HR2.out.symm rfl, BX.out⟩
          | false =>
            have HR2 : Hid (res = ⟨#[45]⟩ ++ q) := by show res = _; rw [HR.out]; simp
            go_wp2_with fail
            go_ret2
            exact ⟨ret_se HR2.out.symm rfl, BX.out⟩

      | true =>
        have HAD : Hid (∀ W, Calls Tryd.prog 56 #[.string q, .string ⟨#[49]⟩] W (StE W q2 f)) := HA.out
        by_cases hf : f = 0
        · subst hf
          go_wp2_with fail
          refine (HAD.out _).mono ?_
          rintro e w6 ⟨rfl, b6⟩
          have BX : Hid (Below w.heap.size w w6) := B5.out.trans (b6.mono B5.out.size)
          clear b6
          go_upto_region 20 with (fail)
          cases neg with
          | false =>
            have HR2 : Hid (res = q2) := by show res = q2; rw [HR.out]; simp
            go_wp2_with fail
            go_ret2
            exact ⟨ret_se HR2.out.symm rfl, BX.out⟩
          | true =>
            cases qz with
            | true =>
              have HR2 : Hid (res = q2) := by show res = q2; rw [HR.out]; simp
              go_wp2_with fail
              go_ret2
              exact ⟨ret_se HR2.out.symm rfl, BX.out⟩
            | false =>
              have HR2 : Hid (res = ⟨#[45]⟩ ++ q2) := by show res = _; rw [HR.out]; simp
              go_wp2_with fail
              go_ret2
              exact ⟨ret_se HR2.out.symm rfl, BX.out⟩

        · have t6 : (f != 0) = true := by simpa using hf
          have HR2 : Hid (res = ⟨#[]⟩) := by show res = _; rw [HR.out, if_pos hf]
          clear hf
          go_wp2_with fail
          refine (HAD.out _).mono ?_
          rintro e w6 ⟨rfl, b6⟩
          have BX : Hid (Below w.heap.size w w6) := B5.out.trans (b6.mono B5.out.size)
          clear b6
          go_wp2_with fail
          go_ret2
          exact ⟨ret_se HR2.out.symm rfl, BX.out⟩


end Go.Proofs.YtnikhbdjlipcbaaDoor
