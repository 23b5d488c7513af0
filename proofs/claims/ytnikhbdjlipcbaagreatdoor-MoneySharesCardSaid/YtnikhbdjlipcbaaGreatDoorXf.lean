/-
  novationlaw07.MoneyShares, walked. Condition: what the package-level variables hold.
-/
import Derived.Test.YtnikhbdjlipcbaaGreatDoorXa
import Derived.Test.YtnikhbdjlipcbaaGreatDoorXe
namespace Go.Proofs.YtnikhbdjlipcbaaGreatDoor
open Go.RowKit Go.Shelf

set_option maxHeartbeats 8000000 in
set_option maxRecDepth 100000 in
theorem mshares_long (total : Int) (a : Option Addr) (n c : Nat) (w : World) (HAL : Hid (AlY w)) (h : 200 < n) : Calls Tryz.prog 3 #[.int .i64 total, .slice a n c] w (RetBD w true) := by
  have g1 : decide ((200 : Int) < (n : Int)) = true := by simp; omega
  clear h
  go_enter Tryz.func3, Tryz.ntmps3
  go_wp2_with fail
  refine (HAL.out _ (Below.refl _ _)).mono ?_
  rintro e w1 ⟨rfl, b1⟩
  have B1 := Lib.hid b1
  clear b1
  go_wp2_with fail
  go_ret
  exact ⟨rfl, B1.out⟩

set_option maxHeartbeats 8000000 in
set_option maxRecDepth 100000 in
theorem mshares_bad (total : Int) (a : Option Addr) (n c : Nat) (w : World) (HAL : Hid (AlY w)) (h : n ≤ 200) (HS : Hid (∀ W, Below w.heap.size w W → Calls Tryz.prog 9 #[.int .i64 total, .slice a n c] W (Spl.NoSplit2 W))) : Calls Tryz.prog 3 #[.int .i64 total, .slice a n c] w (RetBD w true) := by
  have g1 : decide ((200 : Int) < (n : Int)) = false := by simp; omega
  clear h
  go_enter Tryz.func3, Tryz.ntmps3
  go_wp2_with fail
  refine (HAL.out _ (Below.refl _ _)).mono ?_
  rintro e w1 ⟨rfl, b1⟩
  have B1 := Lib.hid b1
  clear b1
  go_wp2_with fail
  refine (HS.out _ B1.out).mono ?_
  rintro e w2 ⟨rfl, b2⟩
  have B2 := Lib.hid (B1.out.trans (b2.mono B1.out.size))
  clear b2
  go_wp2_with fail
  go_ret
  exact ⟨rfl, B2.out⟩

set_option maxHeartbeats 8000000 in
set_option maxRecDepth 100000 in
theorem mshares_pos (size S b o n c : Nat) (W p q r A Sm : Nat → Nat) (w : World) (HAL : Hid (AlY w)) (hn : n ≤ 100) (hb : b < w.heap.size) (hsz : size ≤ 1125899906842624) (hS1 : 1 ≤ S)
    (l : List Int) (hl : Hid (∀ i, i < n → l[i]?.getD 0 = (p i : Int))) (hll : Hid (l.length = n))
    (HS : Hid (∀ W', Below w.heap.size w W' → Calls Tryz.prog 9 #[.int .i64 ((size : Int)), .slice (some ⟨b, o, none⟩) n c] W' (Spl.SplitPost W' n l)))
    (HW : Hid (∀ i, i < n → w.cell? ⟨b, o + i, none⟩ = some (.int .i64 (W i : Int))))
    (HB : Hid (∀ i, i < n → W i ≤ 4000 ∧ p i ≤ 1125899906842624 ∧ A i ≤ 400000 ∧ Sm i ≤ 112589990684262400))
    (HA : Hid (A 0 = 0 ∧ Sm 0 = 0 ∧ (∀ i, i < n → A (i + 1) = A i + W i ∧ Sm (i + 1) = Sm i + p i) ∧ A n = S ∧ Sm n = size))
    (HE : Hid (∀ i, i < n → size * W i = S * q i + r i ∧ r i < S ∧ (p i = q i ∨ (p i = q i + 1 ∧ r i ≠ 0))))
    (HM : Hid (∀ i k, i < n → k < n → W k < W i → p k ≤ p i)) :
    Calls Tryz.prog 3 #[.int .i64 ((size : Int)), .slice (some ⟨b, o, none⟩) n c] w (RetBD w true) := by
  have g1 : decide ((200 : Int) < (n : Int)) = false := by simp; omega
  go_enter Tryz.func3, Tryz.ntmps3
  go_wp2_with fail
  refine (HAL.out _ (Below.refl _ _)).mono ?_
  rintro e w1 ⟨rfl, b1⟩
  have B1 := Lib.hid b1
  clear b1
  go_wp2_with fail
  refine (HS.out _ B1.out).mono ?_
  rintro e w2 ⟨g, cap, rfl, hg, hcap, hr, b2⟩
  have HL2 : Hid (∀ i, i < n → w2.cell? ⟨g, i, none⟩ = some (.int .i64 ((p i : Int)))) := fun i hi => by
    rw [hr.cell (by rw [Spl.ints_length, hll.out]; exact hi), Spl.ints_get l i (by rw [hll.out]; exact hi), hl.out i hi]
  have B2 := Lib.hid (B1.out.trans (b2.mono B1.out.size))
  have HW2 : Hid (∀ i, i < n → w2.cell? ⟨b, o + i, none⟩ = some (.int .i64 (W i : Int))) := fun i hi => ((bcell B2.out).1 _ _ hb).trans (HW.out i hi)
  clear hg hcap hr b2 g1
  go_wp2_with fail
  go_loop [8, 9, 10] (fun a s i => ∃ k : Nat, k ≤ n ∧ i = .int .i64 (k : Int) ∧ a = .int .i64 (A k : Int) ∧ s = .int .i64 ((Sm k : Int))) (fun _ _ i => n - (intOf i).toNat)
  case atStart => exact ⟨0, Nat.zero_le _, rfl, by rw [HA.out.1]; rfl, by rw [HA.out.2.1]; rfl⟩
  case round =>
    obtain ⟨k, hk, rfl, rfl, rfl⟩ := hrel
    by_cases hlt : k < n
    · obtain ⟨h1, h2, h3, h4⟩ := HB.out k hlt
      have c1 := HL2.out k hlt
      have c2 := HW2.out k hlt
      have HN := Lib.hid (HA.out.2.2.1 k hlt)
      obtain ⟨x, hx⟩ : ∃ x, x = p k := ⟨_, rfl⟩
      obtain ⟨v, hv⟩ : ∃ v, v = W k := ⟨_, rfl⟩
      obtain ⟨a, ha⟩ : ∃ a, a = A k := ⟨_, rfl⟩
      obtain ⟨s, hs⟩ : ∃ s, s = Sm k := ⟨_, rfl⟩
      rw [← hx] at c1 h2 HN
      rw [← hv] at c2 h1 HN
      rw [← ha] at h3 HN ⊢
      rw [← hs] at h4 HN ⊢
      clear hx hv ha hs
      go_wp2_with fail
      go_round
      case rel => exact ⟨k + 1, by omega, by go_num, by rw [HN.out.1]; go_num, by rw [HN.out.2]; go_num⟩
      case measure => simp [intOf]; omega
    · obtain ⟨k0, hk0⟩ : ∃ k0, k0 = k := ⟨_, rfl⟩
      obtain rfl : k = n := by omega
      subst hk0
      rw [HA.out.2.2.2.1, HA.out.2.2.2.2]
      have s1 : decide ((S : Int) < 1) = false := by simp; omega
      have s2 : max (size : Int) (-(size : Int)) = (size : Int) := by omega
      go_wp2_with fail
      go_loopw [12] (fun i wr => ∃ k z : Nat, k ≤ k0 ∧ i = .int .i64 (k : Int) ∧ wr = w2.drewN z) (fun i _ => k0 - (intOf i).toNat)
      case atStart => exact ⟨0, 0, Nat.zero_le _, rfl, rfl⟩
      case round =>
        obtain ⟨i, z, hi, rfl, rfl⟩ := hrel
        by_cases hlt2 : i < k0
        · obtain ⟨h1, h2, _, _⟩ := HB.out i hlt2
          have c1 : w2.cell? ⟨g, i, none⟩ = some (.int .i64 ((p i : Int))) := HL2.out i hlt2
          have c2 : w2.cell? ⟨b, o + i, none⟩ = some (.int .i64 (W i : Int)) := HW2.out i hlt2
          have hE0 := HE.out i hlt2
          obtain ⟨x, hx⟩ : ∃ x, x = p i := ⟨_, rfl⟩
          obtain ⟨v, hv⟩ : ∃ v, v = W i := ⟨_, rfl⟩
          obtain ⟨qq, hqq⟩ : ∃ qq, qq = q i := ⟨_, rfl⟩
          obtain ⟨rr, hrr⟩ : ∃ rr, rr = r i := ⟨_, rfl⟩
          rw [← hx] at c1 h2 hE0
          rw [← hv] at c2 h1 hE0
          rw [← hqq, ← hrr] at hE0
          have HX := Lib.hid hx
          have HV := Lib.hid hv
          obtain ⟨E, hEE⟩ : ∃ E, E = size * v := ⟨_, rfl⟩
          have hEb : E ≤ 4503599627370496000 := by
            rw [hEE]
            exact Nat.le_trans (Nat.mul_le_mul hsz h1) (by decide)
          have hprod : (size : Int) * (v : Int) = (E : Int) := by rw [hEE, Int.natCast_mul]
          rw [← hEE] at hE0
          have hdiv : (E : Int) / (S : Int) = (qq : Int) := by
            have : E / S = qq := by rw [hE0.1, Nat.mul_add_div (by omega), Nat.div_eq_of_lt hE0.2.1]; omega
            rw [← this]; rfl
          have hmod : (E : Int) % (S : Int) = (rr : Int) := by
            have : E % S = rr := by rw [hE0.1, Nat.mul_add_mod, Nat.mod_eq_of_lt hE0.2.1]
            rw [← this]; rfl
          have hcase : (x = 0 ∧ qq = 0) ∨ (0 < x ∧ x = qq) ∨ (x = qq + 1 ∧ rr ≠ 0) := by
            rcases hE0.2.2 with h | h
            · rcases Nat.eq_zero_or_pos x with h0 | h0
              · exact .inl ⟨h0, by omega⟩
              · exact .inr (.inl ⟨h0, h⟩)
            · exact .inr (.inr h)
          have i1 : (0 : Int) ≤ (i : Int) := by omega
          have i2 : (i : Int) < (k0 : Int) := by omega
          have i3 : ¬ ((k0 : Int) ≤ (i : Int)) := by omega
          have mx : max (x : Int) (-(x : Int)) = (x : Int) := by omega
          clear hE0 hx hv hqq hrr hEE
          rcases hcase with ⟨rfl, rfl⟩ | ⟨hx0, rfl⟩ | ⟨rfl, hr0⟩
          · have c3 : w2.cell? ⟨g, i, none⟩ = some (.int .i64 0) := c1
            have hdiv2 : (E : Int) / (S : Int) = 0 := hdiv
            clear c1 hdiv mx
            go_wp2_with fail
            go_quiet (fail)
            go_wp2_with fail
            go_loopw [16] (fun kv wr => ∃ k z2 : Nat, k ≤ i ∧ kv = .int .i64 (k : Int) ∧ wr = w2.drewN z2) (fun kv _ => i - (intOf kv).toNat)
            case atStart => exact ⟨0, _, Nat.zero_le _, rfl, rfl⟩
            case round =>
              obtain ⟨k, z2, hki, rfl, rfl⟩ := hrel
              by_cases hlt3 : k < i
              · obtain ⟨_, h6, _, _⟩ := HB.out k (by omega)
                have d1 : w2.cell? ⟨g, k, none⟩ = some (.int .i64 ((p k : Int))) := HL2.out k (by omega)
                have d2 : w2.cell? ⟨b, o + k, none⟩ = some (.int .i64 (W k : Int)) := HW2.out k (by omega)
                have hm1 := HM.out i k (by omega) (by omega)
                have hm2 := HM.out k i (by omega) (by omega)
                rw [← HX.out, ← HV.out] at hm1 hm2
                obtain ⟨y, hy⟩ : ∃ y, y = p k := ⟨_, rfl⟩
                obtain ⟨u, hu⟩ : ∃ u, u = W k := ⟨_, rfl⟩
                rw [← hy] at d1 h6 hm1 hm2
                rw [← hu] at d2 hm1 hm2
                have my : max (y : Int) (-(y : Int)) = (y : Int) := by omega
                have k1 : (0 : Int) ≤ (k : Int) := by omega
                have k2 : (k : Int) < (k0 : Int) := by omega
                have k3 : ¬ ((k0 : Int) ≤ (k : Int)) := by omega
                clear hy hu
                rcases Nat.lt_trichotomy u v with hc | hc | hc
                · have t1 : decide (u < v) = true := by simp; omega
                  have t2 : decide (0 < y) = false := by have := hm1 hc; simp; omega
                  have t3 : decide (v < u) = false := by simp; omega
                  clear hm1 hm2 hc
                  go_wp2_with fail
                  go_quiet (fail)
                  go_wp2_with fail
                  go_quiet (fail)
                  go_wp2_with fail
                  go_roundw
                  case rel => exact ⟨k + 1, _, by omega, by go_num, rfl⟩
                  case measure => simp [intOf]; omega
                · subst hc
                  have t1 : decide (u < u) = false := by simp
                  clear hm1 hm2
                  go_wp2_with fail
                  go_quiet (fail)
                  go_wp2_with fail
                  go_quiet (fail)
                  go_wp2_with fail
                  go_roundw
                  case rel => exact ⟨k + 1, _, by omega, by go_num, rfl⟩
                  case measure => simp [intOf]; omega
                · have t1 : decide (u < v) = false := by simp; omega
                  have t3 : decide (v < u) = true := by simp; omega
                  clear hm1 hm2 hc
                  go_wp2_with fail
                  go_quiet (fail)
                  go_wp2_with fail
                  go_quiet (fail)
                  go_wp2_with fail
                  go_roundw
                  case rel => exact ⟨k + 1, _, by omega, by go_num, rfl⟩
                  case measure => simp [intOf]; omega
              · obtain rfl : k = i := by omega
                go_wp2_with fail
                go_roundw
                case rel => exact ⟨k + 1, _, by omega, by go_num, rfl⟩
                case measure => simp [intOf]; omega
          · have n1 : decide ((x : Int) < 0) = false := by simp
            have n2 : decide ((size : Int) < 0) = false := by simp
            go_wp2_with fail
            go_quiet (fail)
            go_wp2_with fail
            go_loopw [16] (fun kv wr => ∃ k z2 : Nat, k ≤ i ∧ kv = .int .i64 (k : Int) ∧ wr = w2.drewN z2) (fun kv _ => i - (intOf kv).toNat)
            case atStart => exact ⟨0, _, Nat.zero_le _, rfl, rfl⟩
            case round =>
              obtain ⟨k, z2, hki, rfl, rfl⟩ := hrel
              by_cases hlt3 : k < i
              · obtain ⟨_, h6, _, _⟩ := HB.out k (by omega)
                have d1 : w2.cell? ⟨g, k, none⟩ = some (.int .i64 ((p k : Int))) := HL2.out k (by omega)
                have d2 : w2.cell? ⟨b, o + k, none⟩ = some (.int .i64 (W k : Int)) := HW2.out k (by omega)
                have hm1 := HM.out i k (by omega) (by omega)
                have hm2 := HM.out k i (by omega) (by omega)
                rw [← HX.out, ← HV.out] at hm1 hm2
                obtain ⟨y, hy⟩ : ∃ y, y = p k := ⟨_, rfl⟩
                obtain ⟨u, hu⟩ : ∃ u, u = W k := ⟨_, rfl⟩
                rw [← hy] at d1 h6 hm1 hm2
                rw [← hu] at d2 hm1 hm2
                have my : max (y : Int) (-(y : Int)) = (y : Int) := by omega
                have k1 : (0 : Int) ≤ (k : Int) := by omega
                have k2 : (k : Int) < (k0 : Int) := by omega
                have k3 : ¬ ((k0 : Int) ≤ (k : Int)) := by omega
                clear hy hu
                rcases Nat.lt_trichotomy u v with hc | hc | hc
                · have t1 : decide (u < v) = true := by simp; omega
                  have t2 : decide (x < y) = false := by have := hm1 hc; simp; omega
                  have t3 : decide (v < u) = false := by simp; omega
                  clear hm1 hm2 hc
                  go_wp2_with fail
                  go_quiet (fail)
                  go_wp2_with fail
                  go_quiet (fail)
                  go_wp2_with fail
                  go_roundw
                  case rel => exact ⟨k + 1, _, by omega, by go_num, rfl⟩
                  case measure => simp [intOf]; omega
                · subst hc
                  have t1 : decide (u < u) = false := by simp
                  clear hm1 hm2
                  go_wp2_with fail
                  go_quiet (fail)
                  go_wp2_with fail
                  go_quiet (fail)
                  go_wp2_with fail
                  go_roundw
                  case rel => exact ⟨k + 1, _, by omega, by go_num, rfl⟩
                  case measure => simp [intOf]; omega
                · have t1 : decide (u < v) = false := by simp; omega
                  have t2 : decide (y < x) = false := by have := hm2 hc; simp; omega
                  have t3 : decide (v < u) = true := by simp; omega
                  clear hm1 hm2 hc
                  go_wp2_with fail
                  go_quiet (fail)
                  go_wp2_with fail
                  go_quiet (fail)
                  go_wp2_with fail
                  go_roundw
                  case rel => exact ⟨k + 1, _, by omega, by go_num, rfl⟩
                  case measure => simp [intOf]; omega
              · obtain rfl : k = i := by omega
                go_wp2_with fail
                go_roundw
                case rel => exact ⟨k + 1, _, by omega, by go_num, rfl⟩
                case measure => simp [intOf]; omega
          · have n1 : decide ((qq : Int) + 1 < 0) = false := by simp; omega
            have n2 : decide ((size : Int) < 0) = false := by simp
            have mx2 : max ((qq : Int) + 1) (-((qq : Int) + 1)) = (qq : Int) + 1 := by omega
            clear mx
            have r1 : ((rr : Int) == 0) = false := by rw [beq_eq_false_iff_ne]; omega
            go_wp2_with fail
            go_quiet (fail)
            go_wp2_with fail
            go_loopw [16] (fun kv wr => ∃ k z2 : Nat, k ≤ i ∧ kv = .int .i64 (k : Int) ∧ wr = w2.drewN z2) (fun kv _ => i - (intOf kv).toNat)
            case atStart => exact ⟨0, _, Nat.zero_le _, rfl, rfl⟩
            case round =>
              obtain ⟨k, z2, hki, rfl, rfl⟩ := hrel
              by_cases hlt3 : k < i
              · obtain ⟨_, h6, _, _⟩ := HB.out k (by omega)
                have d1 : w2.cell? ⟨g, k, none⟩ = some (.int .i64 ((p k : Int))) := HL2.out k (by omega)
                have d2 : w2.cell? ⟨b, o + k, none⟩ = some (.int .i64 (W k : Int)) := HW2.out k (by omega)
                have hm1 := HM.out i k (by omega) (by omega)
                have hm2 := HM.out k i (by omega) (by omega)
                rw [← HX.out, ← HV.out] at hm1 hm2
                obtain ⟨y, hy⟩ : ∃ y, y = p k := ⟨_, rfl⟩
                obtain ⟨u, hu⟩ : ∃ u, u = W k := ⟨_, rfl⟩
                rw [← hy] at d1 h6 hm1 hm2
                rw [← hu] at d2 hm1 hm2
                have my : max (y : Int) (-(y : Int)) = (y : Int) := by omega
                have k1 : (0 : Int) ≤ (k : Int) := by omega
                have k2 : (k : Int) < (k0 : Int) := by omega
                have k3 : ¬ ((k0 : Int) ≤ (k : Int)) := by omega
                clear hy hu
                rcases Nat.lt_trichotomy u v with hc | hc | hc
                · have t1 : decide (u < v) = true := by simp; omega
                  have t2 : decide ((qq : Int) + 1 < (y : Int)) = false := by have := hm1 hc; simp; omega
                  have t3 : decide (v < u) = false := by simp; omega
                  clear hm1 hm2 hc
                  go_wp2_with fail
                  go_quiet (fail)
                  go_wp2_with fail
                  go_quiet (fail)
                  go_wp2_with fail
                  go_roundw
                  case rel => exact ⟨k + 1, _, by omega, by go_num, rfl⟩
                  case measure => simp [intOf]; omega
                · subst hc
                  have t1 : decide (u < u) = false := by simp
                  clear hm1 hm2
                  go_wp2_with fail
                  go_quiet (fail)
                  go_wp2_with fail
                  go_quiet (fail)
                  go_wp2_with fail
                  go_roundw
                  case rel => exact ⟨k + 1, _, by omega, by go_num, rfl⟩
                  case measure => simp [intOf]; omega
                · have t1 : decide (u < v) = false := by simp; omega
                  have t2 : decide ((y : Int) < (qq : Int) + 1) = false := by have := hm2 hc; simp; omega
                  have t3 : decide (v < u) = true := by simp; omega
                  clear hm1 hm2 hc
                  go_wp2_with fail
                  go_quiet (fail)
                  go_wp2_with fail
                  go_quiet (fail)
                  go_wp2_with fail
                  go_roundw
                  case rel => exact ⟨k + 1, _, by omega, by go_num, rfl⟩
                  case measure => simp [intOf]; omega
              · obtain rfl : k = i := by omega
                go_wp2_with fail
                go_roundw
                case rel => exact ⟨k + 1, _, by omega, by go_num, rfl⟩
                case measure => simp [intOf]; omega
        · obtain rfl : i = k0 := by omega
          go_wp2_with fail
          go_ret
          exact ⟨rfl, below_drewN B2.out _⟩

set_option maxHeartbeats 8000000 in
set_option maxRecDepth 100000 in
theorem mshares_neg (size S b o n c : Nat) (W p q r A Sm : Nat → Nat) (w : World) (HAL : Hid (AlY w)) (hn : n ≤ 100) (hb : b < w.heap.size) (hz : 0 < size) (hsz : size ≤ 1125899906842624) (hS1 : 1 ≤ S)
    (l : List Int) (hl : Hid (∀ i, i < n → l[i]?.getD 0 = -(p i : Int))) (hll : Hid (l.length = n))
    (HS : Hid (∀ W', Below w.heap.size w W' → Calls Tryz.prog 9 #[.int .i64 (-(size : Int)), .slice (some ⟨b, o, none⟩) n c] W' (Spl.SplitPost W' n l)))
    (HW : Hid (∀ i, i < n → w.cell? ⟨b, o + i, none⟩ = some (.int .i64 (W i : Int))))
    (HB : Hid (∀ i, i < n → W i ≤ 4000 ∧ p i ≤ 1125899906842624 ∧ A i ≤ 400000 ∧ Sm i ≤ 112589990684262400))
    (HA : Hid (A 0 = 0 ∧ Sm 0 = 0 ∧ (∀ i, i < n → A (i + 1) = A i + W i ∧ Sm (i + 1) = Sm i + p i) ∧ A n = S ∧ Sm n = size))
    (HE : Hid (∀ i, i < n → size * W i = S * q i + r i ∧ r i < S ∧ (p i = q i ∨ (p i = q i + 1 ∧ r i ≠ 0)) ∧ True))
    (HM : Hid (∀ i k, i < n → k < n → W k < W i → p k ≤ p i)) :
    Calls Tryz.prog 3 #[.int .i64 (-(size : Int)), .slice (some ⟨b, o, none⟩) n c] w (RetBD w true) := by
  have g1 : decide ((200 : Int) < (n : Int)) = false := by simp; omega
  go_enter Tryz.func3, Tryz.ntmps3
  go_wp2_with fail
  refine (HAL.out _ (Below.refl _ _)).mono ?_
  rintro e w1 ⟨rfl, b1⟩
  have B1 := Lib.hid b1
  clear b1
  go_wp2_with fail
  refine (HS.out _ B1.out).mono ?_
  rintro e w2 ⟨g, cap, rfl, hg, hcap, hr, b2⟩
  have HL2 : Hid (∀ i, i < n → w2.cell? ⟨g, i, none⟩ = some (.int .i64 (-(p i : Int)))) := fun i hi => by
    rw [hr.cell (by rw [Spl.ints_length, hll.out]; exact hi), Spl.ints_get l i (by rw [hll.out]; exact hi), hl.out i hi]
  have B2 := Lib.hid (B1.out.trans (b2.mono B1.out.size))
  have HW2 : Hid (∀ i, i < n → w2.cell? ⟨b, o + i, none⟩ = some (.int .i64 (W i : Int))) := fun i hi => ((bcell B2.out).1 _ _ hb).trans (HW.out i hi)
  clear hg hcap hr b2 g1
  go_wp2_with fail
  go_loop [8, 9, 10] (fun a s i => ∃ k : Nat, k ≤ n ∧ i = .int .i64 (k : Int) ∧ a = .int .i64 (A k : Int) ∧ s = .int .i64 (-(Sm k : Int))) (fun _ _ i => n - (intOf i).toNat)
  case atStart => exact ⟨0, Nat.zero_le _, rfl, by rw [HA.out.1]; rfl, by rw [HA.out.2.1]; rfl⟩
  case round =>
    obtain ⟨k, hk, rfl, rfl, rfl⟩ := hrel
    by_cases hlt : k < n
    · obtain ⟨h1, h2, h3, h4⟩ := HB.out k hlt
      have c1 := HL2.out k hlt
      have c2 := HW2.out k hlt
      have HN := Lib.hid (HA.out.2.2.1 k hlt)
      obtain ⟨x, hx⟩ : ∃ x, x = p k := ⟨_, rfl⟩
      obtain ⟨v, hv⟩ : ∃ v, v = W k := ⟨_, rfl⟩
      obtain ⟨a, ha⟩ : ∃ a, a = A k := ⟨_, rfl⟩
      obtain ⟨s, hs⟩ : ∃ s, s = Sm k := ⟨_, rfl⟩
      rw [← hx] at c1 h2 HN
      rw [← hv] at c2 h1 HN
      rw [← ha] at h3 HN ⊢
      rw [← hs] at h4 HN ⊢
      clear hx hv ha hs
      go_wp2_with fail
      go_round
      case rel => exact ⟨k + 1, by omega, by go_num, by rw [HN.out.1]; go_num, by rw [HN.out.2]; congr 1; omega⟩
      case measure => simp [intOf]; omega
    · obtain ⟨k0, hk0⟩ : ∃ k0, k0 = k := ⟨_, rfl⟩
      obtain rfl : k = n := by omega
      subst hk0
      rw [HA.out.2.2.2.1, HA.out.2.2.2.2]
      have s1 : decide ((S : Int) < 1) = false := by simp; omega
      have s2 : max (-(size : Int)) (size : Int) = (size : Int) := by omega
      go_wp2_with fail
      go_loopw [12] (fun i wr => ∃ k z : Nat, k ≤ k0 ∧ i = .int .i64 (k : Int) ∧ wr = w2.drewN z) (fun i _ => k0 - (intOf i).toNat)
      case atStart => exact ⟨0, 0, Nat.zero_le _, rfl, rfl⟩
      case round =>
        obtain ⟨i, z, hi, rfl, rfl⟩ := hrel
        by_cases hlt2 : i < k0
        · obtain ⟨h1, h2, _, _⟩ := HB.out i hlt2
          have c1 : w2.cell? ⟨g, i, none⟩ = some (.int .i64 (-(p i : Int))) := HL2.out i hlt2
          have c2 : w2.cell? ⟨b, o + i, none⟩ = some (.int .i64 (W i : Int)) := HW2.out i hlt2
          have hE0 := HE.out i hlt2
          obtain ⟨x, hx⟩ : ∃ x, x = p i := ⟨_, rfl⟩
          obtain ⟨v, hv⟩ : ∃ v, v = W i := ⟨_, rfl⟩
          obtain ⟨qq, hqq⟩ : ∃ qq, qq = q i := ⟨_, rfl⟩
          obtain ⟨rr, hrr⟩ : ∃ rr, rr = r i := ⟨_, rfl⟩
          rw [← hx] at c1 h2 hE0
          rw [← hv] at c2 h1 hE0
          rw [← hqq, ← hrr] at hE0
          have HX := Lib.hid hx
          have HV := Lib.hid hv
          obtain ⟨E, hEE⟩ : ∃ E, E = size * v := ⟨_, rfl⟩
          have hEb : E ≤ 4503599627370496000 := by
            rw [hEE]
            exact Nat.le_trans (Nat.mul_le_mul hsz h1) (by decide)
          have hprod : (size : Int) * (v : Int) = (E : Int) := by rw [hEE, Int.natCast_mul]
          rw [← hEE] at hE0
          have hdiv : (E : Int) / (S : Int) = (qq : Int) := by
            have : E / S = qq := by rw [hE0.1, Nat.mul_add_div (by omega), Nat.div_eq_of_lt hE0.2.1]; omega
            rw [← this]; rfl
          have hmod : (E : Int) % (S : Int) = (rr : Int) := by
            have : E % S = rr := by rw [hE0.1, Nat.mul_add_mod, Nat.mod_eq_of_lt hE0.2.1]
            rw [← this]; rfl
          have hcase : (x = 0 ∧ qq = 0) ∨ (0 < x ∧ x = qq) ∨ (x = qq + 1 ∧ rr ≠ 0) := by
            rcases hE0.2.2.1 with h | h
            · rcases Nat.eq_zero_or_pos x with h0 | h0
              · exact .inl ⟨h0, by omega⟩
              · exact .inr (.inl ⟨h0, h⟩)
            · exact .inr (.inr h)
          have i1 : (0 : Int) ≤ (i : Int) := by omega
          have i2 : (i : Int) < (k0 : Int) := by omega
          have i3 : ¬ ((k0 : Int) ≤ (i : Int)) := by omega
          have mx : max (-(x : Int)) (x : Int) = (x : Int) := by omega
          clear hE0 hx hv hqq hrr hEE
          rcases hcase with ⟨rfl, rfl⟩ | ⟨hx0, rfl⟩ | ⟨rfl, hr0⟩
          · have c3 : w2.cell? ⟨g, i, none⟩ = some (.int .i64 0) := c1
            have hdiv2 : (E : Int) / (S : Int) = 0 := hdiv
            clear c1 hdiv mx
            go_wp2_with fail
            go_quiet (fail)
            go_wp2_with fail
            go_loopw [16] (fun kv wr => ∃ k z2 : Nat, k ≤ i ∧ kv = .int .i64 (k : Int) ∧ wr = w2.drewN z2) (fun kv _ => i - (intOf kv).toNat)
            case atStart => exact ⟨0, _, Nat.zero_le _, rfl, rfl⟩
            case round =>
              obtain ⟨k, z2, hki, rfl, rfl⟩ := hrel
              by_cases hlt3 : k < i
              · obtain ⟨_, h6, _, _⟩ := HB.out k (by omega)
                have d1 : w2.cell? ⟨g, k, none⟩ = some (.int .i64 (-(p k : Int))) := HL2.out k (by omega)
                have d2 : w2.cell? ⟨b, o + k, none⟩ = some (.int .i64 (W k : Int)) := HW2.out k (by omega)
                have hm1 := HM.out i k (by omega) (by omega)
                have hm2 := HM.out k i (by omega) (by omega)
                rw [← HX.out, ← HV.out] at hm1 hm2
                obtain ⟨y, hy⟩ : ∃ y, y = p k := ⟨_, rfl⟩
                obtain ⟨u, hu⟩ : ∃ u, u = W k := ⟨_, rfl⟩
                rw [← hy] at d1 h6 hm1 hm2
                rw [← hu] at d2 hm1 hm2
                have my : max (-(y : Int)) (y : Int) = (y : Int) := by omega
                have k1 : (0 : Int) ≤ (k : Int) := by omega
                have k2 : (k : Int) < (k0 : Int) := by omega
                have k3 : ¬ ((k0 : Int) ≤ (k : Int)) := by omega
                clear hy hu
                rcases Nat.lt_trichotomy u v with hc | hc | hc
                · have t1 : decide (u < v) = true := by simp; omega
                  have t2 : decide (0 < y) = false := by have := hm1 hc; simp; omega
                  have t3 : decide (v < u) = false := by simp; omega
                  clear hm1 hm2 hc
                  go_wp2_with fail
                  go_quiet (fail)
                  go_wp2_with fail
                  go_quiet (fail)
                  go_wp2_with fail
                  go_roundw
                  case rel => exact ⟨k + 1, _, by omega, by go_num, rfl⟩
                  case measure => simp [intOf]; omega
                · subst hc
                  have t1 : decide (u < u) = false := by simp
                  clear hm1 hm2
                  go_wp2_with fail
                  go_quiet (fail)
                  go_wp2_with fail
                  go_quiet (fail)
                  go_wp2_with fail
                  go_roundw
                  case rel => exact ⟨k + 1, _, by omega, by go_num, rfl⟩
                  case measure => simp [intOf]; omega
                · have t1 : decide (u < v) = false := by simp; omega
                  have t3 : decide (v < u) = true := by simp; omega
                  clear hm1 hm2 hc
                  go_wp2_with fail
                  go_quiet (fail)
                  go_wp2_with fail
                  go_quiet (fail)
                  go_wp2_with fail
                  go_roundw
                  case rel => exact ⟨k + 1, _, by omega, by go_num, rfl⟩
                  case measure => simp [intOf]; omega
              · obtain rfl : k = i := by omega
                go_wp2_with fail
                go_roundw
                case rel => exact ⟨k + 1, _, by omega, by go_num, rfl⟩
                case measure => simp [intOf]; omega
          · have n1 : (0 : Int) < (x : Int) := by omega
            go_wp2_with fail
            go_quiet (fail)
            go_wp2_with fail
            go_loopw [16] (fun kv wr => ∃ k z2 : Nat, k ≤ i ∧ kv = .int .i64 (k : Int) ∧ wr = w2.drewN z2) (fun kv _ => i - (intOf kv).toNat)
            case atStart => exact ⟨0, _, Nat.zero_le _, rfl, rfl⟩
            case round =>
              obtain ⟨k, z2, hki, rfl, rfl⟩ := hrel
              by_cases hlt3 : k < i
              · obtain ⟨_, h6, _, _⟩ := HB.out k (by omega)
                have d1 : w2.cell? ⟨g, k, none⟩ = some (.int .i64 (-(p k : Int))) := HL2.out k (by omega)
                have d2 : w2.cell? ⟨b, o + k, none⟩ = some (.int .i64 (W k : Int)) := HW2.out k (by omega)
                have hm1 := HM.out i k (by omega) (by omega)
                have hm2 := HM.out k i (by omega) (by omega)
                rw [← HX.out, ← HV.out] at hm1 hm2
                obtain ⟨y, hy⟩ : ∃ y, y = p k := ⟨_, rfl⟩
                obtain ⟨u, hu⟩ : ∃ u, u = W k := ⟨_, rfl⟩
                rw [← hy] at d1 h6 hm1 hm2
                rw [← hu] at d2 hm1 hm2
                have my : max (-(y : Int)) (y : Int) = (y : Int) := by omega
                have k1 : (0 : Int) ≤ (k : Int) := by omega
                have k2 : (k : Int) < (k0 : Int) := by omega
                have k3 : ¬ ((k0 : Int) ≤ (k : Int)) := by omega
                clear hy hu
                rcases Nat.lt_trichotomy u v with hc | hc | hc
                · have t1 : decide (u < v) = true := by simp; omega
                  have t2 : decide (x < y) = false := by have := hm1 hc; simp; omega
                  have t3 : decide (v < u) = false := by simp; omega
                  clear hm1 hm2 hc
                  go_wp2_with fail
                  go_quiet (fail)
                  go_wp2_with fail
                  go_quiet (fail)
                  go_wp2_with fail
                  go_roundw
                  case rel => exact ⟨k + 1, _, by omega, by go_num, rfl⟩
                  case measure => simp [intOf]; omega
                · subst hc
                  have t1 : decide (u < u) = false := by simp
                  clear hm1 hm2
                  go_wp2_with fail
                  go_quiet (fail)
                  go_wp2_with fail
                  go_quiet (fail)
                  go_wp2_with fail
                  go_roundw
                  case rel => exact ⟨k + 1, _, by omega, by go_num, rfl⟩
                  case measure => simp [intOf]; omega
                · have t1 : decide (u < v) = false := by simp; omega
                  have t2 : decide (y < x) = false := by have := hm2 hc; simp; omega
                  have t3 : decide (v < u) = true := by simp; omega
                  clear hm1 hm2 hc
                  go_wp2_with fail
                  go_quiet (fail)
                  go_wp2_with fail
                  go_quiet (fail)
                  go_wp2_with fail
                  go_roundw
                  case rel => exact ⟨k + 1, _, by omega, by go_num, rfl⟩
                  case measure => simp [intOf]; omega
              · obtain rfl : k = i := by omega
                go_wp2_with fail
                go_roundw
                case rel => exact ⟨k + 1, _, by omega, by go_num, rfl⟩
                case measure => simp [intOf]; omega
          · 
            have r1 : ((rr : Int) == 0) = false := by rw [beq_eq_false_iff_ne]; omega
            go_wp2_with fail
            go_quiet (fail)
            go_wp2_with fail
            go_loopw [16] (fun kv wr => ∃ k z2 : Nat, k ≤ i ∧ kv = .int .i64 (k : Int) ∧ wr = w2.drewN z2) (fun kv _ => i - (intOf kv).toNat)
            case atStart => exact ⟨0, _, Nat.zero_le _, rfl, rfl⟩
            case round =>
              obtain ⟨k, z2, hki, rfl, rfl⟩ := hrel
              by_cases hlt3 : k < i
              · obtain ⟨_, h6, _, _⟩ := HB.out k (by omega)
                have d1 : w2.cell? ⟨g, k, none⟩ = some (.int .i64 (-(p k : Int))) := HL2.out k (by omega)
                have d2 : w2.cell? ⟨b, o + k, none⟩ = some (.int .i64 (W k : Int)) := HW2.out k (by omega)
                have hm1 := HM.out i k (by omega) (by omega)
                have hm2 := HM.out k i (by omega) (by omega)
                rw [← HX.out, ← HV.out] at hm1 hm2
                obtain ⟨y, hy⟩ : ∃ y, y = p k := ⟨_, rfl⟩
                obtain ⟨u, hu⟩ : ∃ u, u = W k := ⟨_, rfl⟩
                rw [← hy] at d1 h6 hm1 hm2
                rw [← hu] at d2 hm1 hm2
                have my : max (-(y : Int)) (y : Int) = (y : Int) := by omega
                have k1 : (0 : Int) ≤ (k : Int) := by omega
                have k2 : (k : Int) < (k0 : Int) := by omega
                have k3 : ¬ ((k0 : Int) ≤ (k : Int)) := by omega
                clear hy hu
                rcases Nat.lt_trichotomy u v with hc | hc | hc
                · have t1 : decide (u < v) = true := by simp; omega
                  have t2 : decide ((qq : Int) + 1 < (y : Int)) = false := by have := hm1 hc; simp; omega
                  have t3 : decide (v < u) = false := by simp; omega
                  clear hm1 hm2 hc
                  go_wp2_with fail
                  go_quiet (fail)
                  go_wp2_with fail
                  go_quiet (fail)
                  go_wp2_with fail
                  go_roundw
                  case rel => exact ⟨k + 1, _, by omega, by go_num, rfl⟩
                  case measure => simp [intOf]; omega
                · subst hc
                  have t1 : decide (u < u) = false := by simp
                  clear hm1 hm2
                  go_wp2_with fail
                  go_quiet (fail)
                  go_wp2_with fail
                  go_quiet (fail)
                  go_wp2_with fail
                  go_roundw
                  case rel => exact ⟨k + 1, _, by omega, by go_num, rfl⟩
                  case measure => simp [intOf]; omega
                · have t1 : decide (u < v) = false := by simp; omega
                  have t2 : decide ((y : Int) < (qq : Int) + 1) = false := by have := hm2 hc; simp; omega
                  have t3 : decide (v < u) = true := by simp; omega
                  clear hm1 hm2 hc
                  go_wp2_with fail
                  go_quiet (fail)
                  go_wp2_with fail
                  go_quiet (fail)
                  go_wp2_with fail
                  go_roundw
                  case rel => exact ⟨k + 1, _, by omega, by go_num, rfl⟩
                  case measure => simp [intOf]; omega
              · obtain rfl : k = i := by omega
                go_wp2_with fail
                go_roundw
                case rel => exact ⟨k + 1, _, by omega, by go_num, rfl⟩
                case measure => simp [intOf]; omega
        · obtain rfl : i = k0 := by omega
          go_wp2_with fail
          go_ret
          exact ⟨rfl, below_drewN B2.out _⟩


end Go.Proofs.YtnikhbdjlipcbaaGreatDoor
