/-
  The reference's Show of an amount. No condition.
-/
import Derived.Test.YtnikhbdjlipcbaaDoorYf
import Derived.Test.YtnikhbdjlipcbaaDoorYe
namespace Go.Proofs.YtnikhbdjlipcbaaDoor
open Go.RowKit Go.Shelf

theorem figB_cons (i : Nat) : ∀ n, figB n (i + 1) = UInt8.ofNat (48 + n / 10 ^ i % 10) :: figB n i := by
  induction i with
  | zero => intro n; simp [figB]
  | succ i ih =>
    intro n
    have e : figB n (i + 1 + 1) = figB (n / 10) (i + 1) ++ [UInt8.ofNat (48 + n % 10)] := rfl
    have e2 : figB n (i + 1) = figB (n / 10) i ++ [UInt8.ofNat (48 + n % 10)] := rfl
    rw [e, ih, e2, Nat.pow_succ, Nat.mul_comm, ← Nat.div_div_eq_div_mul]
    rfl
/-- The loop: what is left, the digits so far. -/
def ShR (w : World) (a u : Nat) (nv sv iv : Value) (wr : World) : Prop :=
  ∃ (i m : Nat) (s : ByteArray), nv = .int .i64 (m : Int) ∧ sv = .string s ∧ iv = .int .i64 (i : Int) ∧ i ≤ u ∧ m = a / 10 ^ i ∧ s.data.toList = figB a i ∧ Below w.heap.size w wr
set_option maxHeartbeats 4000000 in
set_option maxRecDepth 100000 in
theorem rshow_unit (n : Int) (c : ByteArray) (w : World) (hu : unitOf c.data.toList = none) : Calls Tryd.prog 12 #[.int .i64 n, .string c] w (SPost w ⟨#[]⟩ 2) := by
  have HU := Lib.hid (fun W => runit_any c W)
  rw [hu] at HU
  clear hu
  go_enter Tryd.func12, Tryd.ntmps12
  go_wp2_with fail
  refine (HU.out _).mono ?_
  rintro e w1 ⟨rfl, b1⟩
  have B1 := Lib.hid b1
  clear b1
  go_wp2_with fail
  go_ret2
  exact ⟨rfl, B1.out⟩
set_option maxHeartbeats 4000000 in
set_option maxRecDepth 100000 in
theorem rshow_amt (n : Int) (c : ByteArray) (u : Nat) (w : World) (hu : unitOf c.data.toList = some u) (ha : amtOK n = false) : Calls Tryd.prog 12 #[.int .i64 n, .string c] w (SPost w ⟨#[]⟩ 2) := by
  have HU := Lib.hid (fun W => runit_any c W)
  have HA := Lib.hid (fun W => ramount_any n W)
  rw [hu] at HU
  rw [ha] at HA
  clear hu ha
  go_enter Tryd.func12, Tryd.ntmps12
  go_wp2_with fail
  refine (HU.out _).mono ?_
  rintro e w1 ⟨rfl, b1⟩
  have B1 := Lib.hid b1
  clear b1
  go_wp2_with fail
  refine (HA.out _).mono ?_
  rintro e w' ⟨rfl, rfl⟩
  go_wp2_with fail
  go_ret2
  exact ⟨rfl, B1.out⟩
set_option maxHeartbeats 4000000 in
set_option maxRecDepth 100000 in
theorem rshow_pos (a : Nat) (c : ByteArray) (u : Nat) (hu3 : u ≤ 3) (w : World) (hu : unitOf c.data.toList = some u) (ha : a ≤ 1125899906842624) (hc : c.size ≤ 100000) : Calls Tryd.prog 12 #[.int .i64 (a : Int), .string c] w (SPost w ⟨(amtB (a : Int) u c.data.toList).toArray⟩ 0) := by
  have HU := Lib.hid (fun W => runit_any c W)
  have HA := Lib.hid (fun W => ramount_any (a : Int) W)
  rw [hu] at HU
  rw [show amtOK (a : Int) = true by unfold amtOK; simp; omega] at HA
  have HOF := Lib.hid (fun W => rof_any (a / 10 ^ u) W (Nat.lt_of_le_of_lt (Nat.div_le_self _ _) (by omega)))
  have HST : Hid (∀ W, Below w.heap.size w W → ShR w a u (.int .i64 (a : Int)) (.string ⟨#[]⟩) (.int .i64 0) W) := fun W hW => ⟨0, a, ⟨#[]⟩, rfl, rfl, rfl, Nat.zero_le _, by simp, rfl, hW⟩
  clear hu
  go_enter Tryd.func12, Tryd.ntmps12
  go_wp2_with fail
  refine (HU.out _).mono ?_
  rintro e w1 ⟨rfl, b1⟩
  have B1 := Lib.hid b1
  clear b1
  go_wp2_with fail
  refine (HA.out _).mono ?_
  rintro e w' ⟨rfl, rfl⟩
  go_wp2_with fail
  go_loopw [8, 9, 10] (ShR w a u) (fun _ _ i _ => u - (intOf i).toNat)
  case atStart => exact HST.out _ B1.out
  case round =>
    obtain ⟨wq, rfl⟩ : ∃ wq : World, wq = wr := ⟨_, rfl⟩
    obtain ⟨i, m, s, rfl, rfl, rfl, hi, hm, hs, hb⟩ := hrel
    have HB := Lib.hid hb
    have HM := Lib.hid hm
    have HS := Lib.hid hs
    have hs3 : s.size = i := by rw [← data_len, hs, figB_len]
    have hma : m ≤ a := by rw [hm]; exact Nat.div_le_self _ _
    have hs4 : s.size ≤ 3 := by omega
    clear hb hm hs HST
    by_cases hlt : i < u
    · obtain ⟨d, hd⟩ : ∃ d, d = m % 10 := ⟨_, rfl⟩
      obtain ⟨q, hq⟩ : ∃ q, q = m / 10 := ⟨_, rfl⟩
      have hdI : (m : Int) % 10 = (d : Int) := by omega
      have hqI : (m : Int) / 10 = (q : Int) := by omega
      have hdb : d < 10 := by omega
      have hqm : q ≤ m := by omega
      obtain ⟨ch, hch⟩ : ∃ ch, ch = UInt8.ofNat (48 + d) := ⟨_, rfl⟩
      have hcI : (48 : Int) + (d : Int) = (ch.toNat : Int) := by rw [hch, UInt8.toNat_ofNat']; omega
      have HNX : Hid (q = a / 10 ^ (i + 1) ∧ ((⟨[ch].toArray⟩ : ByteArray) ++ s).data.toList = figB a (i + 1)) := by
        refine ⟨by rw [hq, HM.out, Nat.pow_succ, Nat.div_div_eq_div_mul], ?_⟩
        rw [figB_cons, ← HM.out, ← HS.out, ← hd, ← hch]
        simp
      have hcv : ∀ W : World, (convert 66 9 (.slice (some ⟨W.heap.size, 0, none⟩) 1 1)).run Tryd.prog (W.alloc (.cells #[.int .u8 (ch.toNat : Int)] 5)) = .ok (.string ⟨[ch].toArray⟩) (W.alloc (.cells #[.int .u8 (ch.toNat : Int)] 5)) := fun W =>
        run_convert_bytes_back (P := Tryd.prog) _ 66 9 5 ⟨W.heap.size, 0, none⟩ 1 [ch] Tryd.underlying66 Tryd.underlying5 Tryd.underlying9 (fun j hj => by
          have : j = 0 := by simpa using hj
          subst this
          simp [go_sem])
      clear hd hq hch HS HM
      go_wp2_with fail
      go_roundw
      case rel => exact ⟨i + 1, q, _, rfl, rfl, by go_num, by omega, HNX.out.1, by simpa using HNX.out.2, HB.out.alloc HB.out.size _⟩
      case measure => simp [intOf]; omega
    · obtain rfl : i = u := by omega
      obtain ⟨O, hO⟩ : ∃ O : ByteArray, O = ⟨(txtN (a / 10 ^ i)).toArray⟩ := ⟨_, rfl⟩
      have hOd : O.data.toList = Lib.decDigits (a / 10 ^ i) := by rw [hO, ← txtN_dec]
      have hOl : O.size ≤ 20 := by
        rw [← data_len, hOd]
        refine Nat.le_trans (dec_len 18 _ ?_) (by omega)
        exact Nat.lt_of_le_of_lt (Nat.div_le_self _ _) (by omega)
      have HOD := Lib.hid hOd
      have HO := Lib.hid hO
      rw [← HM.out] at HOF
      clear hO hOd
      rcases Nat.eq_zero_or_pos i with h0 | h0
      · go_wp2_with fail
        refine (HOF.out _).mono ?_
        rintro e w3 ⟨rfl, b3⟩
        have B3 := Lib.hid (HB.out.trans (b3.mono HB.out.size))
        rw [show (⟨(txtN m).toArray⟩ : ByteArray) = O by rw [HO.out, HM.out]]
        clear b3
        go_wp2_with fail
        go_ret2
        refine ⟨ret_str (Go.WideShapes.bytes_inj ?_), B3.out⟩
        show _ = amtB _ _ _
        unfold amtB
        rw [if_neg (by omega), Int.natAbs_natCast]
        simp [HOD.out, HS.out, h0, figB]
      · go_wp2_with fail
        refine (HOF.out _).mono ?_
        rintro e w3 ⟨rfl, b3⟩
        have B3 := Lib.hid (HB.out.trans (b3.mono HB.out.size))
        rw [show (⟨(txtN m).toArray⟩ : ByteArray) = O by rw [HO.out, HM.out]]
        clear b3
        go_wp2_with fail
        go_ret2
        refine ⟨ret_str (Go.WideShapes.bytes_inj ?_), B3.out⟩
        show _ = amtB _ _ _
        unfold amtB
        rw [if_neg (by omega), Int.natAbs_natCast]
        simp [HOD.out, HS.out, show i ≠ 0 by omega]
set_option maxHeartbeats 4000000 in
set_option maxRecDepth 100000 in
theorem rshow_neg (a : Nat) (c : ByteArray) (u : Nat) (hu3 : u ≤ 3) (ha0 : 0 < a) (w : World) (hu : unitOf c.data.toList = some u) (ha : a ≤ 1125899906842624) (hc : c.size ≤ 100000) : Calls Tryd.prog 12 #[.int .i64 (-(a : Int)), .string c] w (SPost w ⟨(amtB (-(a : Int)) u c.data.toList).toArray⟩ 0) := by
  have HU := Lib.hid (fun W => runit_any c W)
  have HA := Lib.hid (fun W => ramount_any (-(a : Int)) W)
  rw [hu] at HU
  rw [show amtOK (-(a : Int)) = true by unfold amtOK; simp; omega] at HA
  have HOF := Lib.hid (fun W => rof_any (a / 10 ^ u) W (Nat.lt_of_le_of_lt (Nat.div_le_self _ _) (by omega)))
  have HST : Hid (∀ W, Below w.heap.size w W → ShR w a u (.int .i64 (a : Int)) (.string ⟨#[]⟩) (.int .i64 0) W) := fun W hW => ⟨0, a, ⟨#[]⟩, rfl, rfl, rfl, Nat.zero_le _, by simp, rfl, hW⟩
  clear hu
  go_enter Tryd.func12, Tryd.ntmps12
  go_wp2_with fail
  refine (HU.out _).mono ?_
  rintro e w1 ⟨rfl, b1⟩
  have B1 := Lib.hid b1
  clear b1
  go_wp2_with fail
  refine (HA.out _).mono ?_
  rintro e w' ⟨rfl, rfl⟩
  go_wp2_with fail
  go_loopw [8, 9, 10] (ShR w a u) (fun _ _ i _ => u - (intOf i).toNat)
  case atStart => exact HST.out _ B1.out
  case round =>
    obtain ⟨wq, rfl⟩ : ∃ wq : World, wq = wr := ⟨_, rfl⟩
    obtain ⟨i, m, s, rfl, rfl, rfl, hi, hm, hs, hb⟩ := hrel
    have HB := Lib.hid hb
    have HM := Lib.hid hm
    have HS := Lib.hid hs
    have hs3 : s.size = i := by rw [← data_len, hs, figB_len]
    have hma : m ≤ a := by rw [hm]; exact Nat.div_le_self _ _
    have hs4 : s.size ≤ 3 := by omega
    clear hb hm hs HST
    by_cases hlt : i < u
    · obtain ⟨d, hd⟩ : ∃ d, d = m % 10 := ⟨_, rfl⟩
      obtain ⟨q, hq⟩ : ∃ q, q = m / 10 := ⟨_, rfl⟩
      have hdI : (m : Int) % 10 = (d : Int) := by omega
      have hqI : (m : Int) / 10 = (q : Int) := by omega
      have hdb : d < 10 := by omega
      have hqm : q ≤ m := by omega
      obtain ⟨ch, hch⟩ : ∃ ch, ch = UInt8.ofNat (48 + d) := ⟨_, rfl⟩
      have hcI : (48 : Int) + (d : Int) = (ch.toNat : Int) := by rw [hch, UInt8.toNat_ofNat']; omega
      have HNX : Hid (q = a / 10 ^ (i + 1) ∧ ((⟨[ch].toArray⟩ : ByteArray) ++ s).data.toList = figB a (i + 1)) := by
        refine ⟨by rw [hq, HM.out, Nat.pow_succ, Nat.div_div_eq_div_mul], ?_⟩
        rw [figB_cons, ← HM.out, ← HS.out, ← hd, ← hch]
        simp
      have hcv : ∀ W : World, (convert 66 9 (.slice (some ⟨W.heap.size, 0, none⟩) 1 1)).run Tryd.prog (W.alloc (.cells #[.int .u8 (ch.toNat : Int)] 5)) = .ok (.string ⟨[ch].toArray⟩) (W.alloc (.cells #[.int .u8 (ch.toNat : Int)] 5)) := fun W =>
        run_convert_bytes_back (P := Tryd.prog) _ 66 9 5 ⟨W.heap.size, 0, none⟩ 1 [ch] Tryd.underlying66 Tryd.underlying5 Tryd.underlying9 (fun j hj => by
          have : j = 0 := by simpa using hj
          subst this
          simp [go_sem])
      clear hd hq hch HS HM
      go_wp2_with fail
      go_roundw
      case rel => exact ⟨i + 1, q, _, rfl, rfl, by go_num, by omega, HNX.out.1, by simpa using HNX.out.2, HB.out.alloc HB.out.size _⟩
      case measure => simp [intOf]; omega
    · obtain rfl : i = u := by omega
      obtain ⟨O, hO⟩ : ∃ O : ByteArray, O = ⟨(txtN (a / 10 ^ i)).toArray⟩ := ⟨_, rfl⟩
      have hOd : O.data.toList = Lib.decDigits (a / 10 ^ i) := by rw [hO, ← txtN_dec]
      have hOl : O.size ≤ 20 := by
        rw [← data_len, hOd]
        refine Nat.le_trans (dec_len 18 _ ?_) (by omega)
        exact Nat.lt_of_le_of_lt (Nat.div_le_self _ _) (by omega)
      have HOD := Lib.hid hOd
      have HO := Lib.hid hO
      rw [← HM.out] at HOF
      clear hO hOd
      rcases Nat.eq_zero_or_pos i with h0 | h0
      · go_wp2_with fail
        refine (HOF.out _).mono ?_
        rintro e w3 ⟨rfl, b3⟩
        have B3 := Lib.hid (HB.out.trans (b3.mono HB.out.size))
        rw [show (⟨(txtN m).toArray⟩ : ByteArray) = O by rw [HO.out, HM.out]]
        clear b3
        go_wp2_with fail
        go_ret2
        refine ⟨ret_str (Go.WideShapes.bytes_inj ?_), B3.out⟩
        show _ = amtB _ _ _
        unfold amtB
        rw [if_pos (by omega), Int.natAbs_neg, Int.natAbs_natCast]
        simp [HOD.out, HS.out, h0, figB]
      · go_wp2_with fail
        refine (HOF.out _).mono ?_
        rintro e w3 ⟨rfl, b3⟩
        have B3 := Lib.hid (HB.out.trans (b3.mono HB.out.size))
        rw [show (⟨(txtN m).toArray⟩ : ByteArray) = O by rw [HO.out, HM.out]]
        clear b3
        go_wp2_with fail
        go_ret2
        refine ⟨ret_str (Go.WideShapes.bytes_inj ?_), B3.out⟩
        show _ = amtB _ _ _
        unfold amtB
        rw [if_pos (by omega), Int.natAbs_neg, Int.natAbs_natCast]
        simp [HOD.out, HS.out, show i ≠ 0 by omega]
theorem rshow_any (n : Int) (c : ByteArray) (w : World) (hc : c.size ≤ 100000) : Calls Tryd.prog 12 #[.int .i64 n, .string c] w fun e w' => ((unitOf c.data.toList = none ∨ amtOK n = false) ∧ SPost w ⟨#[]⟩ 2 e w') ∨ (∃ u, unitOf c.data.toList = some u ∧ amtOK n = true ∧ SPost w ⟨(amtB n u c.data.toList).toArray⟩ 0 e w') := by
  cases hu : unitOf c.data.toList with
  | none => exact (rshow_unit n c w hu).mono fun e w' h => .inl ⟨.inl rfl, h⟩
  | some u =>
    cases ha : amtOK n with
    | false => exact (rshow_amt n c u w hu ha).mono fun e w' h => .inl ⟨.inr rfl, h⟩
    | true =>
      have hb : -1125899906842624 ≤ n ∧ n ≤ 1125899906842624 := by unfold amtOK at ha; simpa using ha
      have hu3 : u ≤ 3 := unit_le hu
      suffices h : Calls Tryd.prog 12 #[.int .i64 n, .string c] w (SPost w ⟨(amtB n u c.data.toList).toArray⟩ 0) from h.mono fun e w' h => .inr ⟨u, rfl, rfl, h⟩
      by_cases hn : n < 0
      · obtain ⟨a, rfl⟩ : ∃ a : Nat, n = -(a : Int) := ⟨n.natAbs, by omega⟩
        exact rshow_neg a c u hu3 (by omega) w hu (by omega) hc
      · obtain ⟨a, rfl⟩ : ∃ a : Nat, n = (a : Int) := ⟨n.natAbs, by omega⟩
        exact rshow_pos a c u hu3 w hu (by omega) hc

end Go.Proofs.YtnikhbdjlipcbaaDoor
