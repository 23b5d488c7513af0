/-
  novationlaw07.MoneyBack returns true at every amount, currency and mode. Condition: what the package-level variables hold.
-/
import Derived.Test.YtnikhbdjlipcbaaGreatDoorXa
namespace Go.Proofs.YtnikhbdjlipcbaaGreatDoor
open Go.RowKit Go.Shelf

set_option maxHeartbeats 4000000 in
set_option maxRecDepth 100000 in
theorem mback_bad (n : Int) (c : ByteArray) (k : Nat) (w : World) (HAL : Hid (AlY w)) (H1 : Hid (Ct w 12 #[.int .i64 n, .string c] (.tuple #[.string ⟨#[]⟩, .int .i64 2]))) : Calls Tryz.prog 5 #[.int .i64 n, .string c, .int .u8 (k : Int)] w (RetBD w true) := by
  go_enter Tryz.func5, Tryz.ntmps5
  go_wp2_with fail
  refine (HAL.out _ (Below.refl _ _)).mono ?_
  rintro e w1 ⟨rfl, b1⟩
  have B1 := Lib.hid b1
  clear b1
  go_wp2_with fail
  refine (H1.out.use B1.out).mono ?_
  rintro e w2 ⟨rfl, b2⟩
  have B2 := Lib.hid (B1.out.trans (b2.mono B1.out.size))
  clear b2
  go_wp2_with fail
  go_ret
  exact ⟨rfl, B2.out⟩

set_option maxHeartbeats 4000000 in
set_option maxRecDepth 100000 in
theorem mback_mode (n : Int) (c r : ByteArray) (k : Nat) (w : World) (HAL : Hid (AlY w)) (H1 : Hid (Ct w 12 #[.int .i64 n, .string c] (.tuple #[.string r, .int .i64 0]))) (hk : decide ((4 : Int) < (k : Int)) = true)
    (H2 : Hid (Ct w 13 #[.string r, .string c, .int .u8 (k : Int)] (.tuple #[.int .i64 0, .int .i64 2]))) : Calls Tryz.prog 5 #[.int .i64 n, .string c, .int .u8 (k : Int)] w (RetBD w true) := by
  go_enter Tryz.func5, Tryz.ntmps5
  go_wp2_with fail
  refine (HAL.out _ (Below.refl _ _)).mono ?_
  rintro e w1 ⟨rfl, b1⟩
  have B1 := Lib.hid b1
  clear b1
  go_wp2_with fail
  refine (H1.out.use B1.out).mono ?_
  rintro e w2 ⟨rfl, b2⟩
  have B2 := Lib.hid (B1.out.trans (b2.mono B1.out.size))
  clear b2
  go_wp2_with fail
  refine (H2.out.use B2.out).mono ?_
  rintro e w3 ⟨rfl, b3⟩
  have B3 := Lib.hid (B2.out.trans (b3.mono B2.out.size))
  clear b3
  go_wp2_with fail
  go_ret
  exact ⟨rfl, B3.out⟩

set_option maxHeartbeats 4000000 in
set_option maxRecDepth 100000 in
theorem mback_go (n : Int) (c r : ByteArray) (k : Nat) (w : World) (HAL : Hid (AlY w)) (H1 : Hid (Ct w 12 #[.int .i64 n, .string c] (.tuple #[.string r, .int .i64 0]))) (hk : decide ((4 : Int) < (k : Int)) = false) (hk2 : decide ((k : Int) ≤ 4) = true)
    (H2 : Hid (Ct w 13 #[.string r, .string c, .int .u8 (k : Int)] (.tuple #[.int .i64 n, .int .i64 0]))) : Calls Tryz.prog 5 #[.int .i64 n, .string c, .int .u8 (k : Int)] w (RetBD w true) := by
  go_enter Tryz.func5, Tryz.ntmps5
  go_wp2_with fail
  refine (HAL.out _ (Below.refl _ _)).mono ?_
  rintro e w1 ⟨rfl, b1⟩
  have B1 := Lib.hid b1
  clear b1
  go_wp2_with fail
  refine (H1.out.use B1.out).mono ?_
  rintro e w2 ⟨rfl, b2⟩
  have B2 := Lib.hid (B1.out.trans (b2.mono B1.out.size))
  clear b2
  go_wp2_with fail
  refine (H2.out.use B2.out).mono ?_
  rintro e w3 ⟨rfl, b3⟩
  have B3 := Lib.hid (B2.out.trans (b3.mono B2.out.size))
  clear b3
  go_wp2_with fail
  go_ret
  exact ⟨rfl, B3.out⟩


/-- What FromUnits gives, times the power, is the amount. -/
theorem back_val (n : Int) (P : Nat) (hP : 0 < P) : ratN (ratN n P * (P : Int)) (ratD n P * 1) = n ∧ ratD (ratN n P * (P : Int)) (ratD n P * 1) = 1 := by
  obtain ⟨G, hG⟩ : ∃ G, G = Nat.gcd n.natAbs P := ⟨_, rfl⟩
  have hG0 : 0 < G := by rw [hG]; exact Nat.gcd_pos_of_pos_right _ hP
  obtain ⟨q, hq⟩ : G ∣ P := by rw [hG]; exact Nat.gcd_dvd_right _ _
  obtain ⟨m, hm⟩ : (G : Int) ∣ n := by rw [hG]; exact Int.ofNat_dvd_left.2 (Nat.gcd_dvd_left _ _)
  have hq0 : 0 < q := by
    rcases Nat.eq_zero_or_pos q with h | h
    · rw [h, Nat.mul_zero] at hq; omega
    · exact h
  have eN : ratN n P = m := by
    unfold ratN
    rw [if_neg (by omega), Int.natAbs_natCast, ← hG, hm, Int.mul_ediv_cancel_left _ (by omega)]
  have eD : ratD n P = (q : Int) := by
    unfold ratD
    rw [Int.natAbs_natCast, ← hG, hq]
    rw [Int.natCast_mul, Int.mul_ediv_cancel_left _ (by omega)]
  rw [eN, eD, Int.mul_one]
  have eX : m * (P : Int) = n * (q : Int) := by rw [hq, hm, Int.natCast_mul]; rw [Int.mul_comm (G : Int) m, Int.mul_assoc]
  rw [eX]
  have hg : Nat.gcd (n * (q : Int)).natAbs (q : Int).natAbs = q := by
    rw [Int.natAbs_mul, Int.natAbs_natCast]
    exact Nat.gcd_eq_right (Nat.dvd_mul_left _ _)
  refine ⟨?_, ?_⟩
  · unfold ratN
    rw [hg, if_neg (by omega), Int.mul_ediv_cancel _ (by omega)]
  · unfold ratD
    rw [hg, Int.natAbs_natCast, Int.ediv_self (by omega)]
theorem round_one (k : Nat) (n : Int) : roundZ k n 1 = n := by
  unfold roundZ
  by_cases h4 : k = 4
  · rw [if_pos h4, Int.ediv_one]
  · rw [if_neg h4]
    have : rndQ k n.natAbs (1 : Int).natAbs = n.natAbs := by
      unfold rndQ
      rw [show (1 : Int).natAbs = 1 from rfl, Nat.div_one, Nat.mod_one]
      rw [if_neg (by unfold rndB; simp)]
    rw [this]
    split <;> omega
theorem mback_any (n : Int) (c : ByteArray) (k : Nat) (w : World) (hE : Env w) (hA : AwayEnv w) : Calls Tryz.prog 5 #[.int .i64 n, .string c, .int .u8 (k : Int)] w (RetBD w true) := by
  have HAL := alY hE hA
  by_cases hb : unitOf c.data.toList = none ∨ amtOK n = false
  · refine mback_bad n c k w HAL (Lib.hid fun W _ => (fru_any n c W).mono fun e w' hp => ?_)
    rcases hp with ⟨_, hp⟩ | ⟨u, h1, h2, _⟩
    · exact hp
    · rcases hb with hb | hb
      · rw [hb] at h1; cases h1
      · rw [hb] at h2; cases h2
  · obtain ⟨u, hu⟩ : ∃ u, unitOf c.data.toList = some u := by
      cases hq : unitOf c.data.toList with
      | none => exact absurd (.inl hq) hb
      | some u => exact ⟨u, rfl⟩
    have ha : amtOK n = true := by
      cases hq : amtOK n with
      | false => exact absurd (.inr hq) hb
      | true => rfl
    have hu3 := unit_le hu
    have hp3 : 10 ^ u ≤ 1000 := Nat.pow_le_pow_right (by omega) (by omega : u ≤ 3)
    have hp0 : 0 < 10 ^ u := Nat.pow_pos (by omega)
    have ha2 := ha
    unfold amtOK at ha2
    rw [decide_eq_true_eq] at ha2
    have H1 : Hid (Ct w 12 #[.int .i64 n, .string c] (.tuple #[.string ⟨(ratT (ratN n (10 ^ u : Nat)) (ratD n (10 ^ u : Nat))).toArray⟩, .int .i64 0])) := fun W _ => (fru_any n c W).mono fun e w' hp => by
      rcases hp with ⟨h1 | h1, _⟩ | ⟨u', h1, _, hp⟩
      · rw [hu] at h1; cases h1
      · rw [ha] at h1; cases h1
      · rw [hu] at h1; rw [Option.some.inj h1]; exact hp
    by_cases hk : 4 < k
    · exact mback_mode n c _ k w HAL H1 (by simp; omega) (Lib.hid fun W _ => tou_mode _ c k _ (un_some hu) (by simp; omega) W)
    · refine mback_go n c _ k w HAL H1 (by simp; omega) (by simp; omega) (Lib.hid fun W hW => ?_)
      obtain ⟨P, hP⟩ : ∃ P : Nat, P = 10 ^ u := ⟨_, rfl⟩
      have bn : bigZ n = false := bigZ_lt (by omega)
      have bP : bigZ (P : Int) = false := bigZ_lt (by simp only [Int.natAbs_natCast]; omega)
      have hrok := ratOK_make (x := n) (y := (P : Int)) (by omega) bn bP
      have hNle : (ratN n P).natAbs ≤ n.natAbs := by
        unfold ratN
        refine Nat.le_trans (Int.natAbs_ediv_le_natAbs _ _) ?_
        rw [if_neg (by omega)]; exact Nat.le_refl _
      have hsz : (⟨(ratT (ratN n P) (ratD n P)).toArray⟩ : ByteArray).size ≤ 100000 := by
        rw [← data_len]
        show (ratT (ratN n P) (ratD n P)).length ≤ _
        have l1 := bs_len _ hrok.2.2.1
        have l2 := bs_len _ hrok.2.2.2
        rw [← data_len] at l1 l2
        have l1' : (txtZ (ratN n P)).length ≤ 1001 := l1
        have l2' : (txtZ (ratD n P)).length ≤ 1001 := l2
        unfold ratT
        split
        · omega
        · rw [List.length_append, List.length_cons]; omega
      have ht := tou_ok ⟨(ratT (ratN n P) (ratD n P)).toArray⟩ c (ratN n P) (ratD n P) u k W (hA.below hW) hsz hu (by omega) rfl hrok
      have hv : touV (ratN n P) (ratD n P) u k = (n, 0) := by
        unfold touV
        rw [← hP]
        obtain ⟨e1, e2⟩ := back_val n P (by omega)
        have hbig : bigZ (ratN n P * (P : Int)) = false := bigZ_lt (by
          rw [Int.natAbs_mul, Int.natAbs_natCast]
          have : (ratN n P).natAbs * P ≤ n.natAbs * 1000 := Nat.mul_le_mul hNle (by omega)
          omega)
        simp only [e1, e2, round_one, hbig, ha, Bool.false_eq_true, Bool.true_eq_false, if_false]
      rw [hv] at ht
      rw [hP] at ht
      exact ht

end Go.Proofs.YtnikhbdjlipcbaaGreatDoor
