/-
  The text of a date walked: the program's and the reference's. No condition.
-/
import Derived.Test.YtnmiiimbjojcmaaDb
import Derived.Test.YtnmiiimbjojcmaaIg
namespace Go.Proofs.Ytnmiiimbjojcmaa
open Go.RowKit

theorem dig_val {d : Nat} (h : d < 10) : Value.int .u8 ((48 : Int) + (d : Int)) = .int .u8 ((UInt8.ofNat (48 + d)).toNat : Int) := by
  congr 1
  rw [UInt8.toNat_ofNat']; omega

/-- What digits hands back. -/
def DigsPost (B : Nat) (w : World) (l : List UInt8) (e : Ending) (w' : World) : Prop := ∃ v', e = .returned v' ∧ w'.ownsRow B 5 1 v' l.length (bytesV l) ∧ Below B w w'

set_option maxHeartbeats 2000000 in
set_option maxRecDepth 100000 in
theorem digits_many (k : Nat) : ∀ (B : Nat) (v : Value) (l : List UInt8) (n : Nat) (many : Int) (w : World), n ≤ 100000 → k ≤ 10 → l.length ≤ 1000 → B ≤ w.heap.size → many = (k : Int) + 1 → w.ownsRow B 5 1 v l.length (bytesV l) →
    Calls Try.prog 25 #[v, .int .i64 (n : Int), .int .i64 many] w (DigsPost B w (l ++ figB n (k + 1))) := by
  obtain ⟨i0, hi, hz0, hz1, hz2⟩ := info_parts infoU8
  induction k with
  | zero =>
    intro B v l n many w hn hk hl hB hm ho
    obtain ⟨d, hd⟩ : ∃ d, d = n % 10 := ⟨_, rfl⟩
    have hdI : (n : Int) % 10 = (d : Int) := by omega
    have hdb : d < 10 := by omega
    have HF : Hid (l ++ figB n (0 + 1) = l ++ [UInt8.ofNat (48 + d)]) := by rw [hd]; rfl
    have HO := Lib.hid ho
    obtain ⟨m, hm'⟩ : ∃ m, m = l.length := ⟨_, rfl⟩
    have HO' := HO.out
    rw [← hm'] at HO' hl
    have HO2 := Lib.hid HO'
    have HM := Lib.hid hm'
    subst hm
    clear ho HO HO' hd hm'
    rw [HF.out]
    go_enter Try.func25, Try.ntmps25
    go_wp2_with (at_builtin; refine wpList_append1 _ rfl (.tmp 15) (.tmp 20) 45 rfl B 5 i0 (.int .u8 0) 1 Try.underlying45 hi hz0 hz1 hz2 rfl _ _ _ rfl (HO2.out.alloc _) ⟨w.heap.size, 0, none⟩ 1 (.int .u8 ((48 : Int) + (d : Int))) rfl ?c1 rfl ?c3 ?c4 ?c5 ?_)
    case c1 => simp
    case c3 => unfold maxLen; omega
    case c4 => omega
    case c5 => simp; omega
    intro v3 w3 ho3 hg3 hne3 hpl3
    have n3 : Below B w w3 := ((Below.refl B w).alloc hB _).grown hg3 (by simp; omega) (fun k hk => (HO2.out.lt k hk).1)
    rw [dig_val hdb, bytesV_snoc] at ho3
    have HO3 := Lib.hid ho3
    have N3 := Lib.hid n3
    clear ho3 hg3 hne3 hpl3 n3
    go_wp2_with fail
    go_ret
    exact ⟨_, rfl, by rw [List.length_append, ← HM.out]; exact HO3.out, N3.out⟩
  | succ k ih =>
    intro B v l n many w hn hk hl hB hm ho
    obtain ⟨d, hd⟩ : ∃ d, d = n % 10 := ⟨_, rfl⟩
    obtain ⟨q, hq⟩ : ∃ q, q = n / 10 := ⟨_, rfl⟩
    have hdI : (n : Int) % 10 = (d : Int) := by omega
    have hqI : (n : Int) / 10 = (q : Int) := by omega
    have hdb : d < 10 := by omega
    have HF : Hid (l ++ figB n (k + 1 + 1) = (l ++ figB q (k + 1)) ++ [UInt8.ofNat (48 + d)]) := by rw [hd, hq]; show l ++ (figB (n / 10) (k + 1) ++ _) = _; rw [List.append_assoc]
    have HI := Lib.hid (ih B v l q (many - 1) w (by omega) (by omega) hl hB (by omega) ho)
    obtain ⟨m, hm'⟩ : ∃ m, m = (l ++ figB q (k + 1)).length := ⟨_, rfl⟩
    have hml : m = l.length + (k + 1) := by rw [hm', List.length_append, figB_len]
    have t1 : decide ((1 : Int) < many) = true := by simp; omega
    have hmb : 1 ≤ many ∧ many ≤ 100 := by omega
    have HM := Lib.hid hm'
    clear ho hd hq hm hm' ih
    rw [HF.out]
    go_enter Try.func25, Try.ntmps25
    go_wp2_with fail
    refine HI.out.mono ?_
    rintro e w1 ⟨v1, rfl, ho1, b1⟩
    rw [← HM.out] at ho1
    have HO1 := Lib.hid ho1
    have B1 := Lib.hid b1
    clear ho1 b1 HI
    go_wp2_with (at_builtin; refine wpList_append1 _ rfl (.tmp 15) (.tmp 20) 45 rfl B 5 i0 (.int .u8 0) 1 Try.underlying45 hi hz0 hz1 hz2 rfl _ _ _ rfl (HO1.out.alloc _) ⟨w1.heap.size, 0, none⟩ 1 (.int .u8 ((48 : Int) + (d : Int))) rfl ?c1 rfl ?c3 ?c4 ?c5 ?_)
    case c1 => simp
    case c3 => unfold maxLen; omega
    case c4 => omega
    case c5 => have := B1.out.size; simp; omega
    intro v3 w3 ho3 hg3 hne3 hpl3
    have n3 : Below B w w3 := (B1.out.alloc (Nat.le_trans hB B1.out.size) _).grown hg3 (by have := B1.out.size; simp; omega) (fun k hk => (HO1.out.lt k hk).1)
    rw [dig_val hdb, bytesV_snoc] at ho3
    have HO3 := Lib.hid ho3
    have N3 := Lib.hid n3
    clear ho3 hg3 hne3 hpl3 n3
    go_wp2_with fail
    go_ret
    exact ⟨_, rfl, by rw [List.length_append, ← HM.out, hml]; exact HO3.out, N3.out⟩

/-- A text and an error. -/
theorem dtext_len (Y M D : Nat) : ([] ++ figB Y 4 ++ [45] ++ figB M 2 ++ [45] ++ figB D 2 : List UInt8) = dateB Y M D := by simp [dateB]

set_option maxHeartbeats 2000000 in
set_option maxRecDepth 100000 in
theorem dtext_ok (day Y M D : Nat) (w : World) (hd : day ≤ 99999) (h : DateIs day Y M D) : Calls Try.prog 12 #[.int .i64 (day : Int)] w (SEPost w (dateB Y M D) 0) := by
  obtain ⟨i0, hi, hz0, hz1, hz2⟩ := info_parts infoU8
  have HP := Lib.hid (fun W => parts_ok day Y M D W hd h)
  obtain ⟨hY, hD⟩ := h.small hd
  have hM : M ≤ 12 := h.2.2.1
  obtain ⟨L1, hL1⟩ : ∃ L1, L1 = [] ++ figB Y 4 := ⟨_, rfl⟩
  obtain ⟨L2, hL2⟩ : ∃ L2, L2 = L1 ++ [45] := ⟨_, rfl⟩
  obtain ⟨L3, hL3⟩ : ∃ L3, L3 = L2 ++ figB M 2 := ⟨_, rfl⟩
  obtain ⟨L4, hL4⟩ : ∃ L4, L4 = L3 ++ [45] := ⟨_, rfl⟩
  obtain ⟨L5, hL5⟩ : ∃ L5, L5 = L4 ++ figB D 2 := ⟨_, rfl⟩
  have l1 : L1.length = 4 := by rw [hL1, List.nil_append, figB_len]
  have l2 : L2.length = 5 := by rw [hL2, List.length_append, l1]; rfl
  have l3 : L3.length = 7 := by rw [hL3, List.length_append, l2, figB_len]
  have l4 : L4.length = 8 := by rw [hL4, List.length_append, l3]; rfl
  have HL : Hid (dateB Y M D = L5) := by show _ = _; rw [hL5, hL4, hL3, hL2, hL1]; exact (dtext_len Y M D).symm
  have HB1 : Hid (bytesV L1 ++ [.int .u8 45] = bytesV L2) := by rw [hL2, ← bytesV_snoc]; rfl
  have HB2 : Hid (bytesV L3 ++ [.int .u8 45] = bytesV L4) := by rw [hL4, ← bytesV_snoc]; rfl
  have H1 : Hid (∀ W : World, w.heap.size ≤ W.heap.size → Calls Try.prog 25 #[.slice none 0 0, .int .i64 (Y : Int), .int .i64 4] W (DigsPost w.heap.size W L1)) := fun W hW => by
    rw [hL1]; exact digits_many 3 w.heap.size (.slice none 0 0) [] Y 4 W (by omega) (by omega) (by simp) hW rfl (World.ownsRow_nil _ _ _ _)
  have H2 : Hid (∀ (W : World) (v : Value), w.heap.size ≤ W.heap.size → W.ownsRow w.heap.size 5 1 v 5 (bytesV L2) → Calls Try.prog 25 #[v, .int .i64 (M : Int), .int .i64 2] W (DigsPost w.heap.size W L3)) := fun W v hW ho => by
    rw [hL3]; exact digits_many 1 w.heap.size v L2 M 2 W (by omega) (by omega) (by omega) hW rfl (by rw [l2]; exact ho)
  have H3 : Hid (∀ (W : World) (v : Value), w.heap.size ≤ W.heap.size → W.ownsRow w.heap.size 5 1 v 8 (bytesV L4) → Calls Try.prog 25 #[v, .int .i64 (D : Int), .int .i64 2] W (DigsPost w.heap.size W L5)) := fun W v hW ho => by
    rw [hL5]; exact digits_many 1 w.heap.size v L4 D 2 W (by omega) (by omega) (by omega) hW rfl (by rw [l4]; exact ho)
  rw [HL.out]
  clear h hL1 hL2 hL3 hL4 hL5
  go_enter Try.func12, Try.ntmps12
  go_wp2_with fail
  refine (HP.out _).mono ?_
  rintro e w1 ⟨rfl, b1⟩
  have B1 := Lib.hid b1
  clear b1
  go_wp2_with fail
  refine (H1.out _ B1.out.size).mono ?_
  rintro e w2 ⟨v2, rfl, ho2, b2⟩
  rw [l1] at ho2
  have O2 := Lib.hid ho2
  have B2 := Lib.hid (B1.out.trans b2)
  clear ho2 b2 B1
  go_wp2_with (at_builtin; refine wpList_append1 _ rfl (.tmp 20) (.tmp 21) 45 rfl w.heap.size 5 i0 (.int .u8 0) 1 Try.underlying45 hi hz0 hz1 hz2 rfl _ _ _ rfl (O2.out.alloc _) ⟨w2.heap.size, 0, none⟩ 1 (.int .u8 45) rfl ?c1 rfl ?c3 ?c4 ?c5 ?_)
  case c1 => simp
  case c3 => unfold maxLen; omega
  case c4 => omega
  case c5 => have := B2.out.size; simp; omega
  intro v3 w3 ho3 hg3 hne3 hpl3
  have n3 : Below w.heap.size w w3 := (B2.out.alloc B2.out.size _).grown hg3 (by have := B2.out.size; simp; omega) (fun k hk => (O2.out.lt k hk).1)
  rw [HB1.out] at ho3
  have O3 := Lib.hid ho3
  have B3 := Lib.hid n3
  clear ho3 hg3 hne3 hpl3 n3 O2 B2
  go_wp2_with fail
  refine (H2.out _ _ B3.out.size O3.out).mono ?_
  rintro e w4 ⟨v4, rfl, ho4, b4⟩
  rw [l3] at ho4
  have O4 := Lib.hid ho4
  have B4 := Lib.hid (B3.out.trans b4)
  clear ho4 b4 B3 O3
  go_wp2_with (at_builtin; refine wpList_append1 _ rfl (.tmp 25) (.tmp 26) 45 rfl w.heap.size 5 i0 (.int .u8 0) 1 Try.underlying45 hi hz0 hz1 hz2 rfl _ _ _ rfl (O4.out.alloc _) ⟨w4.heap.size, 0, none⟩ 1 (.int .u8 45) rfl ?c1 rfl ?c3 ?c4 ?c5 ?_)
  case c1 => simp
  case c3 => unfold maxLen; omega
  case c4 => omega
  case c5 => have := B4.out.size; simp; omega
  intro v5 w5 ho5 hg5 hne5 hpl5
  have n5 : Below w.heap.size w w5 := (B4.out.alloc B4.out.size _).grown hg5 (by have := B4.out.size; simp; omega) (fun k hk => (O4.out.lt k hk).1)
  rw [HB2.out] at ho5
  have O5 := Lib.hid ho5
  have B5 := Lib.hid n5
  clear ho5 hg5 hne5 hpl5 n5 O4 B4
  go_wp2_with fail
  refine (H3.out _ _ B5.out.size O5.out).mono ?_
  rintro e w6 ⟨v6, rfl, ho6, b6⟩
  have hcv := conv_own ho6 9 Try.underlying9
  have B6 := Lib.hid (B5.out.trans b6)
  clear ho6 b6 B5 O5
  go_wp2_with fail
  go_ret2
  exact ⟨rfl, B6.out⟩

theorem dtext_bad (n : Int) (w : World) (h : inB n 0 99999 = false) : Calls Try.prog 12 #[.int .i64 n] w (SEPost w [] 2) := by
  have HP := Lib.hid (fun W => parts_bad n W h)
  clear h
  go_enter Try.func12, Try.ntmps12
  go_wp2_with fail
  refine (HP.out _).mono ?_
  rintro e w1 ⟨rfl, b1⟩
  have B1 := Lib.hid b1
  clear b1
  go_wp2_with fail
  go_ret2
  exact ⟨rfl, B1.out⟩

/-- The reference's loop over the digits. -/
def FigR (w : World) (n many : Nat) (nv sv iv : Value) (wr : World) : Prop :=
  ∃ (i m : Nat) (s : ByteArray), nv = .int .i64 (m : Int) ∧ sv = .string s ∧ iv = .int .i64 (i : Int) ∧ m ≤ n ∧ s.size = i ∧ FigAt n many s.data.toList i m ∧ Below w.heap.size w wr

set_option maxHeartbeats 2000000 in
set_option maxRecDepth 100000 in
theorem figures_any (n many : Nat) (w : World) (hn : n ≤ 100000) (hm : many ≤ 10) : Calls Try.prog 27 #[.int .i64 (n : Int), .int .i64 (many : Int)] w (StrPost w (figB n many)) := by
  have HST : Hid (FigR w n many (.int .i64 (n : Int)) (.string ⟨#[]⟩) (.int .i64 0) w) := ⟨0, n, ⟨#[]⟩, rfl, rfl, rfl, Nat.le_refl _, rfl, fig_start n many, Below.refl _ _⟩
  go_enter Try.func27, Try.ntmps27
  go_wp2_with fail
  go_loopw [0, 5, 6] (FigR w n many) (fun _ _ i _ => many - (intOf i).toNat)
  case atStart => exact HST.out
  case round =>
    obtain ⟨w1, rfl⟩ : ∃ w1 : World, w1 = wr := ⟨_, rfl⟩
    obtain ⟨i, m, s, rfl, rfl, rfl, hmn, hsz, hat, hb⟩ := hrel
    have HB := Lib.hid hb
    have him := hat.1
    have hs10 : s.size ≤ 10 := by omega
    have HSZ := Lib.hid hsz
    clear hsz
    by_cases hlt : i < many
    · have hs := fig_step hat hlt
      obtain ⟨d, hd⟩ : ∃ d, d = m % 10 := ⟨_, rfl⟩
      obtain ⟨q, hq⟩ : ∃ q, q = m / 10 := ⟨_, rfl⟩
      have hdI : (m : Int) % 10 = (d : Int) := by omega
      have hqI : (m : Int) / 10 = (q : Int) := by omega
      have hdb : d < 10 := by omega
      have hqm : q ≤ m := by omega
      rw [← hd, ← hq] at hs
      obtain ⟨c, hc⟩ : ∃ c, c = UInt8.ofNat (48 + d) := ⟨_, rfl⟩
      have hcI : (48 : Int) + (d : Int) = (c.toNat : Int) := by rw [hc, UInt8.toNat_ofNat']; omega
      rw [← hc] at hs
      have HS := Lib.hid hs
      have hcv : ∀ W : World, (convert 45 9 (.slice (some ⟨W.heap.size, 0, none⟩) 1 1)).run Try.prog (W.alloc (.cells #[.int .u8 (c.toNat : Int)] 5)) = .ok (.string ⟨[c].toArray⟩) (W.alloc (.cells #[.int .u8 (c.toNat : Int)] 5)) := fun W =>
        run_convert_bytes_back (P := Try.prog) _ 45 9 5 ⟨W.heap.size, 0, none⟩ 1 [c] Try.underlying45 Try.underlying5 Try.underlying9 (fun j hj => by
          have : j = 0 := by simpa using hj
          subst this
          simp [go_sem])
      clear hd hq hs hc HST hat hb
      go_wp2_with fail
      go_roundw
      case rel => exact ⟨i + 1, q, _, rfl, rfl, by go_num, by omega, by rw [ByteArray.size_append]; show 1 + s.size = i + 1; rw [HSZ.out]; omega, by simpa using HS.out, (HB.out.alloc HB.out.size _)⟩
      case measure => simp [intOf]; omega
    · obtain rfl : i = many := by omega
      have e := Lib.hid (fig_end hat)
      clear hat hb HST
      go_wp2_with fail
      go_ret
      exact ⟨by rw [← e.out]; show Ending.returned (.string s) = _; congr 2, HB.out⟩

theorem fig_is (n many : Nat) (M : Int) (hM : M = (many : Int)) (hn : n ≤ 100000) (hm : many ≤ 10) : Hid (∀ W, Calls Try.prog 27 #[.int .i64 (n : Int), .int .i64 M] W (StrPost W (figB n many))) := fun W => by
  subst hM; exact figures_any n many W hn hm

set_option maxHeartbeats 2000000 in
set_option maxRecDepth 100000 in
theorem rdtext_ok (day Y M D : Nat) (w : World) (hd : day ≤ 99999) (h : DateIs day Y M D) : Calls Try.prog 13 #[.int .i64 (day : Int)] w (SEPost w (dateB Y M D) 0) := by
  have HP := Lib.hid (fun W => rparts_ok day Y M D W hd h)
  obtain ⟨hY, hD⟩ := h.small hd
  have hM : M ≤ 12 := h.2.2.1
  have H1 := fig_is Y 4 4 rfl (by omega) (by omega)
  have H2 := fig_is M 2 2 rfl (by omega) (by omega)
  have H3 := fig_is D 2 2 rfl (by omega) (by omega)
  have HL : Hid (∀ x1 x2 x3 : List UInt8, x1 = figB Y 4 → x2 = figB M 2 → x3 = figB D 2 → x1 ++ [45] ++ x2 ++ [45] ++ x3 = dateB Y M D) := fun x1 x2 x3 e1 e2 e3 => by rw [e1, e2, e3]; rfl
  clear h
  go_enter Try.func13, Try.ntmps13
  go_wp2_with fail
  refine (HP.out _).mono ?_
  rintro e w1 ⟨rfl, b1⟩
  have B1 := Lib.hid b1
  clear b1
  go_wp2_with fail
  refine (H1.out _).mono ?_
  rintro e w2 ⟨rfl, b2⟩
  have B2 := Lib.hid (B1.out.trans (b2.mono B1.out.size))
  clear b2 B1
  go_wp2_with fail
  refine (H2.out _).mono ?_
  rintro e w3 ⟨rfl, b3⟩
  have B3 := Lib.hid (B2.out.trans (b3.mono B2.out.size))
  clear b3 B2
  go_wp2_with fail
  refine (H3.out _).mono ?_
  rintro e w4 ⟨rfl, b4⟩
  have B4 := Lib.hid (B3.out.trans (b4.mono B3.out.size))
  clear b4 B3
  go_wp2_with fail
  go_ret2
  have e : ((⟨(figB Y 4).toArray⟩ : ByteArray) ++ ⟨#[45]⟩ ++ ⟨(figB M 2).toArray⟩ ++ ⟨#[45]⟩ ++ ⟨(figB D 2).toArray⟩) = ⟨(dateB Y M D).toArray⟩ := by
    rw [← HL.out _ _ _ rfl rfl rfl]
    apply ByteArray.ext
    simp
  exact ⟨by rw [← e]; rfl, B4.out⟩

theorem rdtext_bad (n : Int) (w : World) (h : inB n 0 99999 = false) : Calls Try.prog 13 #[.int .i64 n] w (SEPost w [] 2) := by
  have HP := Lib.hid (fun W => rparts_bad n W h)
  clear h
  go_enter Try.func13, Try.ntmps13
  go_wp2_with fail
  refine (HP.out _).mono ?_
  rintro e w1 ⟨rfl, b1⟩
  have B1 := Lib.hid b1
  clear b1
  go_wp2_with fail
  go_ret2
  exact ⟨rfl, B1.out⟩

end Go.Proofs.Ytnmiiimbjojcmaa
