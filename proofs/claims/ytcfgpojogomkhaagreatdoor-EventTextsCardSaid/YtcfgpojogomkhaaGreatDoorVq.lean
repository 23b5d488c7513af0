/-
  The text of a date walked: the program's and the reference's. No condition. The program's date.Parse walked, at what is a date. Condition: the text is that of a date. The program's date.Parse at the text of a date. Condition: the text is that of a date.
-/
import Derived.Test.YtcfgpojogomkhaaGreatDoorVp
import Derived.Test.YtcfgpojogomkhaaGreatDoorVf
namespace Go.Proofs.YtcfgpojogomkhaaGreatDoor
open Go.RowKit

theorem dig_val {d : Nat} (h : d < 10) : Value.int .u8 ((48 : Int) + (d : Int)) = .int .u8 ((UInt8.ofNat (48 + d)).toNat : Int) := by
  congr 1
  rw [UInt8.toNat_ofNat']; omega

/-- What digits hands back. -/
def DigsPost (B : Nat) (w : World) (l : List UInt8) (e : Ending) (w' : World) : Prop := ∃ v', e = .returned v' ∧ w'.ownsRow B 5 1 v' l.length (bytesV l) ∧ Below B w w'

set_option maxHeartbeats 2000000 in
set_option maxRecDepth 100000 in
theorem digits_many (k : Nat) : ∀ (B : Nat) (v : Value) (l : List UInt8) (n : Nat) (many : Int) (w : World), n ≤ 100000 → k ≤ 10 → l.length ≤ 1000 → B ≤ w.heap.size → many = (k : Int) + 1 → w.ownsRow B 5 1 v l.length (bytesV l) →
    Calls Tryz.prog 50 #[v, .int .i64 (n : Int), .int .i64 many] w (DigsPost B w (l ++ figB n (k + 1))) := by
  obtain ⟨i0, hi, hz0, hz1, hz2⟩ := info_parts infoU8
  induction k with
  | zero =>
    intro B v l n many w hn hk hl hB hm ho
    obtain ⟨d, hd⟩ : ∃ d, d = n % 10 := ⟨_, rfl⟩
    have hdI : (n : Int) % 10 = (d : Int) := by omega
    have hdb : d < 10 := by omega
    have HF : Hid (l ++ figB n (0 + 1) = l ++ [UInt8.ofNat (48 + d)]) := by rw [hd]; rfl
    have HO := Lib.hid ho
    obtain ⟨m, hm'⟩ : ∃ m, m = l.length := ⟨_, rfl⟩
    have HO' := HO.out
    rw [← hm'] at HO' hl
    have HO2 := Lib.hid HO'
    have HM := Lib.hid hm'
    subst hm
    clear ho HO HO' hd hm'
    rw [HF.out]
    go_enter Tryz.func50, Tryz.ntmps50
    go_wp2_with (at_builtin; refine wpList_append1 _ rfl (.tmp 15) (.tmp 20) 81 rfl B 5 i0 (.int .u8 0) 1 Tryz.underlying81 hi hz0 hz1 hz2 rfl _ _ _ rfl (HO2.out.alloc _) ⟨w.heap.size, 0, none⟩ 1 (.int .u8 ((48 : Int) + (d : Int))) rfl ?c1 rfl ?c3 ?c4 ?c5 ?_)
    case c1 => simp
    case c3 => unfold maxLen; omega
    case c4 => omega
    case c5 => simp; omega
    intro v3 w3 ho3 hg3 hne3 hpl3
    have n3 : Below B w w3 := ((Below.refl B w).alloc hB _).grown hg3 (by simp; omega) (fun k hk => (HO2.out.lt k hk).1)
    rw [dig_val hdb, bytesV_snoc] at ho3
    have HO3 := Lib.hid ho3
    have N3 := Lib.hid n3
    clear ho3 hg3 hne3 hpl3 n3
    go_wp2_with fail
    go_ret
    exact ⟨_, rfl, by rw [List.length_append, ← HM.out]; exact HO3.out, N3.out⟩
  | succ k ih =>
    intro B v l n many w hn hk hl hB hm ho
    obtain ⟨d, hd⟩ : ∃ d, d = n % 10 := ⟨_, rfl⟩
    obtain ⟨q, hq⟩ : ∃ q, q = n / 10 := ⟨_, rfl⟩
    have hdI : (n : Int) % 10 = (d : Int) := by omega
    have hqI : (n : Int) / 10 = (q : Int) := by omega
    have hdb : d < 10 := by omega
    have HF : Hid (l ++ figB n (k + 1 + 1) = (l ++ figB q (k + 1)) ++ [UInt8.ofNat (48 + d)]) := by rw [hd, hq]; show l ++ (figB (n / 10) (k + 1) ++ _) = _; rw [List.append_assoc]
    have HI := Lib.hid (ih B v l q (many - 1) w (by omega) (by omega) hl hB (by omega) ho)
    obtain ⟨m, hm'⟩ : ∃ m, m = (l ++ figB q (k + 1)).length := ⟨_, rfl⟩
    have hml : m = l.length + (k + 1) := by rw [hm', List.length_append, figB_len]
    have t1 : decide ((1 : Int) < many) = true := by simp; omega
    have hmb : 1 ≤ many ∧ many ≤ 100 := by omega
    have HM := Lib.hid hm'
    clear ho hd hq hm hm' ih
    rw [HF.out]
    go_enter Tryz.func50, Tryz.ntmps50
    go_wp2_with fail
    refine HI.out.mono ?_
    rintro e w1 ⟨v1, rfl, ho1, b1⟩
    rw [← HM.out] at ho1
    have HO1 := Lib.hid ho1
    have B1 := Lib.hid b1
    clear ho1 b1 HI
    go_wp2_with (at_builtin; refine wpList_append1 _ rfl (.tmp 15) (.tmp 20) 81 rfl B 5 i0 (.int .u8 0) 1 Tryz.underlying81 hi hz0 hz1 hz2 rfl _ _ _ rfl (HO1.out.alloc _) ⟨w1.heap.size, 0, none⟩ 1 (.int .u8 ((48 : Int) + (d : Int))) rfl ?c1 rfl ?c3 ?c4 ?c5 ?_)
    case c1 => simp
    case c3 => unfold maxLen; omega
    case c4 => omega
    case c5 => have := B1.out.size; simp; omega
    intro v3 w3 ho3 hg3 hne3 hpl3
    have n3 : Below B w w3 := (B1.out.alloc (Nat.le_trans hB B1.out.size) _).grown hg3 (by have := B1.out.size; simp; omega) (fun k hk => (HO1.out.lt k hk).1)
    rw [dig_val hdb, bytesV_snoc] at ho3
    have HO3 := Lib.hid ho3
    have N3 := Lib.hid n3
    clear ho3 hg3 hne3 hpl3 n3
    go_wp2_with fail
    go_ret
    exact ⟨_, rfl, by rw [List.length_append, ← HM.out, hml]; exact HO3.out, N3.out⟩

/-- A text and an error. -/
theorem dtext_len (Y M D : Nat) : ([] ++ figB Y 4 ++ [45] ++ figB M 2 ++ [45] ++ figB D 2 : List UInt8) = dateB Y M D := by simp [dateB]

set_option maxHeartbeats 2000000 in
set_option maxRecDepth 100000 in
theorem dtext_ok (day Y M D : Nat) (w : World) (hd : day ≤ 99999) (h : DateIs day Y M D) : Calls Tryz.prog 22 #[.int .i64 (day : Int)] w (SEPost w (dateB Y M D) 0) := by
  obtain ⟨i0, hi, hz0, hz1, hz2⟩ := info_parts infoU8
  have HP := Lib.hid (fun W => parts_ok day Y M D W hd h)
  obtain ⟨hY, hD⟩ := h.small hd
  have hM : M ≤ 12 := h.2.2.1
  obtain ⟨L1, hL1⟩ : ∃ L1, L1 = [] ++ figB Y 4 := ⟨_, rfl⟩
  obtain ⟨L2, hL2⟩ : ∃ L2, L2 = L1 ++ [45] := ⟨_, rfl⟩
  obtain ⟨L3, hL3⟩ : ∃ L3, L3 = L2 ++ figB M 2 := ⟨_, rfl⟩
  obtain ⟨L4, hL4⟩ : ∃ L4, L4 = L3 ++ [45] := ⟨_, rfl⟩
  obtain ⟨L5, hL5⟩ : ∃ L5, L5 = L4 ++ figB D 2 := ⟨_, rfl⟩
  have l1 : L1.length = 4 := by rw [hL1, List.nil_append, figB_len]
  have l2 : L2.length = 5 := by rw [hL2, List.length_append, l1]; rfl
  have l3 : L3.length = 7 := by rw [hL3, List.length_append, l2, figB_len]
  have l4 : L4.length = 8 := by rw [hL4, List.length_append, l3]; rfl
  have HL : Hid (dateB Y M D = L5) := by show _ = _; rw [hL5, hL4, hL3, hL2, hL1]; exact (dtext_len Y M D).symm
  have HB1 : Hid (bytesV L1 ++ [.int .u8 45] = bytesV L2) := by rw [hL2, ← bytesV_snoc]; rfl
  have HB2 : Hid (bytesV L3 ++ [.int .u8 45] = bytesV L4) := by rw [hL4, ← bytesV_snoc]; rfl
  have H1 : Hid (∀ W : World, w.heap.size ≤ W.heap.size → Calls Tryz.prog 50 #[.slice none 0 0, .int .i64 (Y : Int), .int .i64 4] W (DigsPost w.heap.size W L1)) := fun W hW => by
    rw [hL1]; exact digits_many 3 w.heap.size (.slice none 0 0) [] Y 4 W (by omega) (by omega) (by simp) hW rfl (World.ownsRow_nil _ _ _ _)
  have H2 : Hid (∀ (W : World) (v : Value), w.heap.size ≤ W.heap.size → W.ownsRow w.heap.size 5 1 v 5 (bytesV L2) → Calls Tryz.prog 50 #[v, .int .i64 (M : Int), .int .i64 2] W (DigsPost w.heap.size W L3)) := fun W v hW ho => by
    rw [hL3]; exact digits_many 1 w.heap.size v L2 M 2 W (by omega) (by omega) (by omega) hW rfl (by rw [l2]; exact ho)
  have H3 : Hid (∀ (W : World) (v : Value), w.heap.size ≤ W.heap.size → W.ownsRow w.heap.size 5 1 v 8 (bytesV L4) → Calls Tryz.prog 50 #[v, .int .i64 (D : Int), .int .i64 2] W (DigsPost w.heap.size W L5)) := fun W v hW ho => by
    rw [hL5]; exact digits_many 1 w.heap.size v L4 D 2 W (by omega) (by omega) (by omega) hW rfl (by rw [l4]; exact ho)
  rw [HL.out]
  clear h hL1 hL2 hL3 hL4 hL5
  go_enter Tryz.func22, Tryz.ntmps22
  go_wp2_with fail
  refine (HP.out _).mono ?_
  rintro e w1 ⟨rfl, b1⟩
  have B1 := Lib.hid b1
  clear b1
  go_wp2_with fail
  refine (H1.out _ B1.out.size).mono ?_
  rintro e w2 ⟨v2, rfl, ho2, b2⟩
  rw [l1] at ho2
  have O2 := Lib.hid ho2
  have B2 := Lib.hid (B1.out.trans b2)
  clear ho2 b2 B1
  go_wp2_with (at_builtin; refine wpList_append1 _ rfl (.tmp 20) (.tmp 21) 81 rfl w.heap.size 5 i0 (.int .u8 0) 1 Tryz.underlying81 hi hz0 hz1 hz2 rfl _ _ _ rfl (O2.out.alloc _) ⟨w2.heap.size, 0, none⟩ 1 (.int .u8 45) rfl ?c1 rfl ?c3 ?c4 ?c5 ?_)
  case c1 => simp
  case c3 => unfold maxLen; omega
  case c4 => omega
  case c5 => have := B2.out.size; simp; omega
  intro v3 w3 ho3 hg3 hne3 hpl3
  have n3 : Below w.heap.size w w3 := (B2.out.alloc B2.out.size _).grown hg3 (by have := B2.out.size; simp; omega) (fun k hk => (O2.out.lt k hk).1)
  rw [HB1.out] at ho3
  have O3 := Lib.hid ho3
  have B3 := Lib.hid n3
  clear ho3 hg3 hne3 hpl3 n3 O2 B2
  go_wp2_with fail
  refine (H2.out _ _ B3.out.size O3.out).mono ?_
  rintro e w4 ⟨v4, rfl, ho4, b4⟩
  rw [l3] at ho4
  have O4 := Lib.hid ho4
  have B4 := Lib.hid (B3.out.trans b4)
  clear ho4 b4 B3 O3
  go_wp2_with (at_builtin; refine wpList_append1 _ rfl (.tmp 25) (.tmp 26) 81 rfl w.heap.size 5 i0 (.int .u8 0) 1 Tryz.underlying81 hi hz0 hz1 hz2 rfl _ _ _ rfl (O4.out.alloc _) ⟨w4.heap.size, 0, none⟩ 1 (.int .u8 45) rfl ?c1 rfl ?c3 ?c4 ?c5 ?_)
  case c1 => simp
  case c3 => unfold maxLen; omega
  case c4 => omega
  case c5 => have := B4.out.size; simp; omega
  intro v5 w5 ho5 hg5 hne5 hpl5
  have n5 : Below w.heap.size w w5 := (B4.out.alloc B4.out.size _).grown hg5 (by have := B4.out.size; simp; omega) (fun k hk => (O4.out.lt k hk).1)
  rw [HB2.out] at ho5
  have O5 := Lib.hid ho5
  have B5 := Lib.hid n5
  clear ho5 hg5 hne5 hpl5 n5 O4 B4
  go_wp2_with fail
  refine (H3.out _ _ B5.out.size O5.out).mono ?_
  rintro e w6 ⟨v6, rfl, ho6, b6⟩
  have hcv := conv_own ho6 9 Tryz.underlying9
  have B6 := Lib.hid (B5.out.trans b6)
  clear ho6 b6 B5 O5
  go_wp2_with fail
  go_ret2
  exact ⟨rfl, B6.out⟩

theorem dtext_bad (n : Int) (w : World) (h : inB n 0 99999 = false) : Calls Tryz.prog 22 #[.int .i64 n] w (SEPost w [] 2) := by
  have HP := Lib.hid (fun W => parts_bad n W h)
  clear h
  go_enter Tryz.func22, Tryz.ntmps22
  go_wp2_with fail
  refine (HP.out _).mono ?_
  rintro e w1 ⟨rfl, b1⟩
  have B1 := Lib.hid b1
  clear b1
  go_wp2_with fail
  go_ret2
  exact ⟨rfl, B1.out⟩

/-- The reference's loop over the digits. -/
def FigR (w : World) (n many : Nat) (nv sv iv : Value) (wr : World) : Prop :=
  ∃ (i m : Nat) (s : ByteArray), nv = .int .i64 (m : Int) ∧ sv = .string s ∧ iv = .int .i64 (i : Int) ∧ m ≤ n ∧ s.size = i ∧ FigAt n many s.data.toList i m ∧ Below w.heap.size w wr

set_option maxHeartbeats 2000000 in
set_option maxRecDepth 100000 in
theorem figures_any (n many : Nat) (w : World) (hn : n ≤ 100000) (hm : many ≤ 10) : Calls Tryz.prog 61 #[.int .i64 (n : Int), .int .i64 (many : Int)] w (StrPost w (figB n many)) := by
  have HST : Hid (FigR w n many (.int .i64 (n : Int)) (.string ⟨#[]⟩) (.int .i64 0) w) := ⟨0, n, ⟨#[]⟩, rfl, rfl, rfl, Nat.le_refl _, rfl, fig_start n many, Below.refl _ _⟩
  go_enter Tryz.func61, Tryz.ntmps61
  go_wp2_with fail
  go_loopw [0, 5, 6] (FigR w n many) (fun _ _ i _ => many - (intOf i).toNat)
  case atStart => exact HST.out
  case round =>
    obtain ⟨w1, rfl⟩ : ∃ w1 : World, w1 = wr := ⟨_, rfl⟩
    obtain ⟨i, m, s, rfl, rfl, rfl, hmn, hsz, hat, hb⟩ := hrel
    have HB := Lib.hid hb
    have him := hat.1
    have hs10 : s.size ≤ 10 := by omega
    have HSZ := Lib.hid hsz
    clear hsz
    by_cases hlt : i < many
    · have hs := fig_step hat hlt
      obtain ⟨d, hd⟩ : ∃ d, d = m % 10 := ⟨_, rfl⟩
      obtain ⟨q, hq⟩ : ∃ q, q = m / 10 := ⟨_, rfl⟩
      have hdI : (m : Int) % 10 = (d : Int) := by omega
      have hqI : (m : Int) / 10 = (q : Int) := by omega
      have hdb : d < 10 := by omega
      have hqm : q ≤ m := by omega
      rw [← hd, ← hq] at hs
      obtain ⟨c, hc⟩ : ∃ c, c = UInt8.ofNat (48 + d) := ⟨_, rfl⟩
      have hcI : (48 : Int) + (d : Int) = (c.toNat : Int) := by rw [hc, UInt8.toNat_ofNat']; omega
      rw [← hc] at hs
      have HS := Lib.hid hs
      have hcv : ∀ W : World, (convert 81 9 (.slice (some ⟨W.heap.size, 0, none⟩) 1 1)).run Tryz.prog (W.alloc (.cells #[.int .u8 (c.toNat : Int)] 5)) = .ok (.string ⟨[c].toArray⟩) (W.alloc (.cells #[.int .u8 (c.toNat : Int)] 5)) := fun W =>
        run_convert_bytes_back (P := Tryz.prog) _ 81 9 5 ⟨W.heap.size, 0, none⟩ 1 [c] Tryz.underlying81 Tryz.underlying5 Tryz.underlying9 (fun j hj => by
          have : j = 0 := by simpa using hj
          subst this
          simp [go_sem])
      clear hd hq hs hc HST hat hb
      go_wp2_with fail
      go_roundw
      case rel => exact ⟨i + 1, q, _, rfl, rfl, by go_num, by omega, by rw [ByteArray.size_append]; show 1 + s.size = i + 1; rw [HSZ.out]; omega, by simpa using HS.out, (HB.out.alloc HB.out.size _)⟩
      case measure => simp [intOf]; omega
    · obtain rfl : i = many := by omega
      have e := Lib.hid (fig_end hat)
      clear hat hb HST
      go_wp2_with fail
      go_ret
      exact ⟨by rw [← e.out]; show Ending.returned (.string s) = _; congr 2, HB.out⟩

theorem fig_is (n many : Nat) (M : Int) (hM : M = (many : Int)) (hn : n ≤ 100000) (hm : many ≤ 10) : Hid (∀ W, Calls Tryz.prog 61 #[.int .i64 (n : Int), .int .i64 M] W (StrPost W (figB n many))) := fun W => by
  subst hM; exact figures_any n many W hn hm

set_option maxHeartbeats 2000000 in
set_option maxRecDepth 100000 in
theorem rdtext_ok (day Y M D : Nat) (w : World) (hd : day ≤ 99999) (h : DateIs day Y M D) : Calls Tryz.prog 28 #[.int .i64 (day : Int)] w (SEPost w (dateB Y M D) 0) := by
  have HP := Lib.hid (fun W => rparts_ok day Y M D W hd h)
  obtain ⟨hY, hD⟩ := h.small hd
  have hM : M ≤ 12 := h.2.2.1
  have H1 := fig_is Y 4 4 rfl (by omega) (by omega)
  have H2 := fig_is M 2 2 rfl (by omega) (by omega)
  have H3 := fig_is D 2 2 rfl (by omega) (by omega)
  have HL : Hid (∀ x1 x2 x3 : List UInt8, x1 = figB Y 4 → x2 = figB M 2 → x3 = figB D 2 → x1 ++ [45] ++ x2 ++ [45] ++ x3 = dateB Y M D) := fun x1 x2 x3 e1 e2 e3 => by rw [e1, e2, e3]; rfl
  clear h
  go_enter Tryz.func28, Tryz.ntmps28
  go_wp2_with fail
  refine (HP.out _).mono ?_
  rintro e w1 ⟨rfl, b1⟩
  have B1 := Lib.hid b1
  clear b1
  go_wp2_with fail
  refine (H1.out _).mono ?_
  rintro e w2 ⟨rfl, b2⟩
  have B2 := Lib.hid (B1.out.trans (b2.mono B1.out.size))
  clear b2 B1
  go_wp2_with fail
  refine (H2.out _).mono ?_
  rintro e w3 ⟨rfl, b3⟩
  have B3 := Lib.hid (B2.out.trans (b3.mono B2.out.size))
  clear b3 B2
  go_wp2_with fail
  refine (H3.out _).mono ?_
  rintro e w4 ⟨rfl, b4⟩
  have B4 := Lib.hid (B3.out.trans (b4.mono B3.out.size))
  clear b4 B3
  go_wp2_with fail
  go_ret2
  have e : ((⟨(figB Y 4).toArray⟩ : ByteArray) ++ ⟨#[45]⟩ ++ ⟨(figB M 2).toArray⟩ ++ ⟨#[45]⟩ ++ ⟨(figB D 2).toArray⟩) = ⟨(dateB Y M D).toArray⟩ := by
    rw [← HL.out _ _ _ rfl rfl rfl]
    apply ByteArray.ext
    simp
  exact ⟨by rw [← e]; rfl, B4.out⟩

theorem rdtext_bad (n : Int) (w : World) (h : inB n 0 99999 = false) : Calls Tryz.prog 28 #[.int .i64 n] w (SEPost w [] 2) := by
  have HP := Lib.hid (fun W => rparts_bad n W h)
  clear h
  go_enter Tryz.func28, Tryz.ntmps28
  go_wp2_with fail
  refine (HP.out _).mono ?_
  rintro e w1 ⟨rfl, b1⟩
  have B1 := Lib.hid b1
  clear b1
  go_wp2_with fail
  go_ret2
  exact ⟨rfl, B1.out⟩

end Go.Proofs.YtcfgpojogomkhaaGreatDoor

namespace Go.Proofs.YtcfgpojogomkhaaGreatDoor
open Go.RowKit

/-- The value of digits. -/
def numV (l : List UInt8) : Nat := l.foldl (fun n c => 10 * n + (c.toNat - 48)) 0
theorem numV_snoc (l : List UInt8) (c : UInt8) : numV (l ++ [c]) = 10 * numV l + (c.toNat - 48) := by unfold numV; rw [List.foldl_append]; rfl
theorem numV_le (l : List UInt8) (h : ∀ c ∈ l, 48 ≤ c.toNat ∧ c.toNat ≤ 57) : numV l < 10 ^ l.length := by
  have key : ∀ m : List UInt8, (∀ c ∈ m.reverse, 48 ≤ c.toNat ∧ c.toNat ≤ 57) → numV m.reverse < 10 ^ m.length := by
    intro m
    induction m with
    | nil => intro _; decide
    | cons a m ih =>
      intro h
      rw [List.reverse_cons] at h ⊢
      rw [numV_snoc, List.length_cons, Nat.pow_succ]
      have a1 := ih (fun c hc => h c (List.mem_append_left _ hc))
      have a2 := h a (by simp)
      omega
  have := key l.reverse (by simpa using h)
  simpa using this

def NuR (s : ByteArray) (nv iv : Value) : Prop := ∃ k : Nat, k ≤ s.size ∧ iv = .int .i64 (k : Int) ∧ nv = .int .i64 (numV (s.data.toList.take k) : Int)

set_option maxHeartbeats 1000000 in
set_option maxRecDepth 100000 in
theorem number_dig (s : ByteArray) (w : World) (hs : s.size ≤ 10) (hd : ∀ c ∈ s.data.toList, 48 ≤ c.toNat ∧ c.toNat ≤ 57) :
    Calls Tryz.prog 64 #[.string s] w fun e w' => e = .returned (.tuple #[.int .i64 (numV s.data.toList : Int), .bool true]) ∧ w = w' := by
  have HD := Lib.hid hd
  have HB : Hid (∀ k, k ≤ s.size → numV (s.data.toList.take k) < 10 ^ 10) := fun k hk => by
    have h1 := numV_le (s.data.toList.take k) (fun c hc => hd c (List.mem_of_mem_take hc))
    have h2 : (s.data.toList.take k).length ≤ 10 := by rw [List.length_take, data_len]; omega
    exact Nat.lt_of_lt_of_le h1 (Nat.pow_le_pow_right (by omega) h2)
  clear hd
  go_enter Tryz.func64, Tryz.ntmps64
  go_wp2_with fail
  go_loop [2, 7] (NuR s) (fun _ i => s.size - (intOf i).toNat)
  case atStart => exact ⟨0, Nat.zero_le _, rfl, rfl⟩
  case round =>
    obtain ⟨k, hk, rfl, rfl⟩ := hrel
    have hb := HB.out k hk
    by_cases hlt : k < s.size
    · obtain ⟨c1, c2⟩ := HD.out s[k] (data_mem s k hlt)
      have HS : Hid (numV (s.data.toList.take (k + 1)) = 10 * numV (s.data.toList.take k) + (s[k].toNat - 48)) := by rw [data_take s k hlt, numV_snoc]; exact rfl
      obtain ⟨V, hV⟩ : ∃ V, V = numV (s.data.toList.take k) := ⟨_, rfl⟩
      rw [← hV] at hb HS ⊢
      clear hV
      have hb' : V < 10000000000 := hb
      clear hb
      go_wp2_with fail
      go_round
      case rel => exact ⟨k + 1, by omega, by go_num, by rw [HS.out]; congr 1; omega⟩
      case measure => simp [intOf]; omega
    · have HT : Hid (s.data.toList.take k = s.data.toList) := List.take_of_length_le (by rw [data_len]; omega)
      rw [HT.out]
      go_wp2_with fail
      go_ret2
      exact ⟨rfl, rfl⟩

set_option maxHeartbeats 1000000 in
set_option maxRecDepth 100000 in
theorem known_yes (y : Nat) (w : World) (h1 : 1900 ≤ y) (h2 : y ≤ 2173) : Calls Tryz.prog 134 #[.int .i64 (y : Int)] w (RetB w true) := by
  have t1 : decide ((1900 : Int) ≤ (y : Int)) = true := by simp; omega
  have t2 : decide ((y : Int) ≤ 2173) = true := by simp; omega
  go_enter Tryz.func134, Tryz.ntmps134
  go_wp2
  go_ret
  exact ⟨rfl, rfl⟩

set_option maxRecDepth 100000 in
theorem idx_len (y m : Nat) (m1 : 1 ≤ m) (m2 : m ≤ 12) (W : World) : (Instr.index 115 (.agg (lensV y)) (.int .i64 (m : Int))).run Tryz.prog W = .ok (.int .i64 (longN y m : Int)) W := by
  have hm : m = 1 ∨ m = 2 ∨ m = 3 ∨ m = 4 ∨ m = 5 ∨ m = 6 ∨ m = 7 ∨ m = 8 ∨ m = 9 ∨ m = 10 ∨ m = 11 ∨ m = 12 := by omega
  rcases hm with rfl | rfl | rfl | rfl | rfl | rfl | rfl | rfl | rfl | rfl | rfl | rfl <;> rfl

set_option maxHeartbeats 2000000 in
set_option maxRecDepth 100000 in
theorem length_yes (y m : Nat) (w : World) (h1 : 1900 ≤ y) (h2 : y ≤ 2173) (m1 : 1 ≤ m) (m2 : m ≤ 12) :
    Calls Tryz.prog 96 #[.int .i64 (y : Int), .int .i64 (m : Int)] w fun e w' => e = .returned (.tuple #[.int .i64 (longN y m : Int), .int .i64 0]) ∧ Below w.heap.size w w' := by
  have HK := Lib.hid (fun W => known_yes y W h1 h2)
  have HL := Lib.hid (fun W => lengths_any y W (by omega))
  have hidx := fun W => idx_len y m m1 m2 W
  obtain ⟨V, hV⟩ : ∃ V, V = lensV y := ⟨_, rfl⟩
  rw [← hV] at HL
  simp only [← hV] at hidx
  obtain ⟨L, hL⟩ : ∃ L, L = longN y m := ⟨_, rfl⟩
  rw [← hL] at hidx ⊢
  clear hV hL
  go_enter Tryz.func96, Tryz.ntmps96
  go_wp2_with fail
  refine (HK.out _).mono ?_
  rintro e w' ⟨rfl, rfl⟩
  go_wp2_with fail
  refine (HL.out _).mono ?_
  rintro e w2 ⟨rfl, b2⟩
  have B2 := Lib.hid b2
  clear b2
  go_wp2_with fail
  go_ret2
  exact ⟨rfl, B2.out⟩

/-- The loop of Of. -/
def OfR (y base m : Nat) (dv iv : Value) : Prop := ∃ k : Nat, k ≤ m ∧ iv = .int .i64 (k : Int) ∧ dv = .int .i64 ((base + mdR y (k - 1) : Nat) : Int)

set_option maxHeartbeats 4000000 in
set_option maxRecDepth 100000 in
theorem of_yes (day y m d : Nat) (w : World) (hd : day ≤ 99999) (h : DateIs day y m d) :
    Calls Tryz.prog 65 #[.int .i64 (y : Int), .int .i64 (m : Int), .int .i64 (d : Int)] w fun e w' => e = .returned (.tuple #[.int .i64 (day : Int), .int .i64 0]) ∧ Below w.heap.size w w' := by
  obtain ⟨h1, h2, h3, h4, h5, h6⟩ := h
  have hlt := DateIs.lt ⟨h1, h2, h3, h4, h5, h6⟩
  have hy : y ≤ 2173 := by
    rcases Nat.lt_or_ge 2173 y with e | e
    · have a := yd_mono (a := 2174) (b := y) (by omega) (by omega)
      have b : yd 2174 = 100077 := by decide
      omega
    · exact e
  have HN := Lib.hid (fun W => length_yes y m W h1 hy h2 h3)
  have HF := Lib.hid (fun W => first_any' y W h1 (by omega))
  have hL := fun W => lengths_any y W (by omega)
  unfold lensV at hL
  have HL := Lib.hid hL
  have hc : ∀ W : World, ∀ k : Nat, k ≤ 12 → (W.alloc (.cells (lensV y) 115)).cell? ⟨W.heap.size, k, none⟩ = some (.int .i64 (((if k = 0 then 0 else longN y k) : Nat) : Int)) := fun W k a2 => by
    rw [RowAt.cell (rowAt_alloc (t := 115) (c := lensV y) rfl rfl) (by show k < 13; omega)]
    by_cases e : k = 0
    · subst e; rfl
    · rw [if_neg e]; simpa using lensV_get y k (by omega) a2
  unfold lensV at hc
  have HC := Lib.hid hc
  obtain ⟨n, hn⟩ : ∃ n, n = longN y m := ⟨_, rfl⟩
  rw [← hn] at HN h5
  have hn31 : n ≤ 31 := by rw [hn]; exact longN_le _ _
  obtain ⟨Y0, hY0⟩ : ∃ Y0, Y0 = yd y := ⟨_, rfl⟩
  rw [← hY0] at HF h6 hlt
  have HST : Hid (OfR y (Y0 + d - 1) m (.int .i64 ((Y0 : Int) + (d : Int) - 1)) (.int .i64 0)) := ⟨0, Nat.zero_le _, rfl, by congr 1; show _ = ((Y0 + d - 1 + 0 : Nat) : Int); omega⟩
  have H6 : Hid (Y0 + d - 1 + mdR y (m - 1) = day) := by show _ = _; omega
  have hYb : Y0 ≤ 99999 := by omega
  have hmd : ∀ k, k ≤ m → mdR y (k - 1) ≤ 372 := fun k hk => by
    have a := mdR_mono y (a := k - 1) (b := 12) (by omega)
    rw [mdR_12] at a
    split at a <;> omega
  have HMD := Lib.hid hmd
  have hal : Tryz.prog.arrayLen 115 = 13 := by kernel_rfl
  have hel : Tryz.prog.elem 115 = 3 := by kernel_rfl
  have hsl : ∀ (W : World) (g : Nat), (Instr.sliceAt 115 (.pointer (some ⟨g, 0, none⟩)) none (some (.int .i64 (m : Int))) none).run Tryz.prog W = .ok (.slice (some ⟨g, 0, none⟩) m 13) W := fun W g => by
    rw [run_sliceAt_array_h W 115 ⟨g, 0, none⟩ (by kernel_rfl) .i64 (m : Int) (by omega) (by rw [hal]; omega), hal, hel, Tryz.sizeOf3]
    simp [slicedAt, Addr.add, Result.andThen]
  clear hL hc hn hY0 h6 hlt hmd
  go_enter Tryz.func65, Tryz.ntmps65
  go_wp2_with fail
  refine (HN.out _).mono ?_
  rintro e w1 ⟨rfl, b1⟩
  have B1 := Lib.hid b1
  clear b1
  go_wp2_with fail
  refine (HF.out _).mono ?_
  rintro e w' ⟨rfl, rfl⟩
  go_wp2_with fail
  refine (HL.out _).mono ?_
  rintro e w2 ⟨rfl, b2⟩
  have B2 := Lib.hid (B1.out.trans (b2.mono B1.out.size))
  clear b2
  go_wp2_with fail
  go_loop [10, 41] (OfR y (Y0 + d - 1) m) (fun _ i => m - (intOf i).toNat)
  case atStart => exact HST.out
  case round =>
    obtain ⟨k, hk, rfl, rfl⟩ := hrel
    have hb := HMD.out k hk
    by_cases hlt : k < m
    · have hc := HC.out w2 k (by omega)
      obtain ⟨L, hL⟩ : ∃ L, L = (if k = 0 then 0 else longN y k) := ⟨_, rfl⟩
      rw [← hL] at hc
      have hL31 : L ≤ 31 := by
        rw [hL]; split
        · omega
        · exact longN_le _ _
      have hs : mdR y (k + 1 - 1) = mdR y (k - 1) + L := by
        rw [hL]
        cases k with
        | zero => rfl
        | succ k => rfl
      obtain ⟨M, hM⟩ : ∃ M, M = mdR y (k - 1) := ⟨_, rfl⟩
      rw [← hM] at hb hs ⊢
      have HS : Hid (OfR y (Y0 + d - 1) m (.int .i64 (((Y0 + d - 1 + M : Nat) : Int) + (L : Int))) (.int .i64 ((k : Int) + 1))) := ⟨k + 1, by omega, by congr 1, by rw [hs]; congr 1; omega⟩
      clear hL hs hM HST H6 HC
      go_wp2_with fail
      go_round
      case rel => exact HS.out
      case measure => simp [intOf]; omega
    · have hkm : k = m := by omega
      subst hkm
      rw [H6.out]
      clear hb HST HC
      go_wp2_with fail
      go_ret2
      exact ⟨rfl, B2.out.alloc (Nat.le_trans (by simp) B2.out.size) _⟩

end Go.Proofs.YtcfgpojogomkhaaGreatDoor

namespace Go.Proofs.YtcfgpojogomkhaaGreatDoor
open Go.RowKit

theorem figB_dig (n k : Nat) : ∀ c ∈ figB n k, 48 ≤ c.toNat ∧ c.toNat ≤ 57 := by
  induction k generalizing n with
  | zero => intro c hc; cases hc
  | succ k ih =>
    intro c hc
    rcases List.mem_append.1 hc with hc | hc
    · exact ih _ c hc
    · rw [List.mem_singleton.1 hc, UInt8.toNat_ofNat']; omega
theorem numV_figB (n k : Nat) : numV (figB n k) = n % 10 ^ k := by
  induction k generalizing n with
  | zero => show 0 = _; simp [Nat.mod_one]
  | succ k ih =>
    show numV (figB (n / 10) k ++ [_]) = _
    have hp : n % (10 * 10 ^ k) = n % 10 + 10 * (n / 10 % 10 ^ k) := Nat.mod_mul
    rw [numV_snoc, ih, UInt8.toNat_ofNat', show 10 ^ (k + 1) = 10 * 10 ^ k by rw [Nat.pow_succ, Nat.mul_comm], hp]
    omega

set_option maxHeartbeats 2000000 in
set_option maxRecDepth 100000 in
theorem dparse_parts (s : ByteArray) (y m d day : Nat) (w : World) (hs : s.size = 10) (e4 : (((s[4]'(by omega)).toNat : Int) != 45) = false) (e7 : (((s[7]'(by omega)).toNat : Int) != 45) = false)
    (H1 : Hid (∀ W, Calls Tryz.prog 64 #[.string (s.extract 0 4)] W fun e w' => e = .returned (.tuple #[.int .i64 (y : Int), .bool true]) ∧ W = w'))
    (H2 : Hid (∀ W, Calls Tryz.prog 64 #[.string (s.extract 5 7)] W fun e w' => e = .returned (.tuple #[.int .i64 (m : Int), .bool true]) ∧ W = w'))
    (H3 : Hid (∀ W, Calls Tryz.prog 64 #[.string (s.extract 8 10)] W fun e w' => e = .returned (.tuple #[.int .i64 (d : Int), .bool true]) ∧ W = w'))
    (HO : Hid (∀ W, Calls Tryz.prog 65 #[.int .i64 (y : Int), .int .i64 (m : Int), .int .i64 (d : Int)] W fun e w' => e = .returned (.tuple #[.int .i64 (day : Int), .int .i64 0]) ∧ Below W.heap.size W w')) :
    Calls Tryz.prog 33 #[.string s] w fun e w' => e = .returned (.tuple #[.int .i64 (day : Int), .int .i64 0]) ∧ Below w.heap.size w w' := by
  have t10 : ((s.size : Int) != 10) = false := by rw [hs]; rfl
  go_enter Tryz.func33, Tryz.ntmps33
  go_wp2_with fail
  refine (H1.out _).mono ?_
  rintro e w' ⟨rfl, rfl⟩
  go_wp2_with fail
  refine (H2.out _).mono ?_
  rintro e w' ⟨rfl, rfl⟩
  go_wp2_with fail
  refine (H3.out _).mono ?_
  rintro e w' ⟨rfl, rfl⟩
  go_wp2_with fail
  refine (HO.out _).mono ?_
  rintro e w2 ⟨rfl, b2⟩
  have B2 := Lib.hid b2
  clear b2
  go_wp2_with fail
  go_ret2
  exact ⟨rfl, B2.out⟩

theorem number_fig (s : ByteArray) (n k : Nat) (h : s.data.toList = figB n k) (hk : k ≤ 10) (hn : n < 10 ^ k) : Hid (∀ W, Calls Tryz.prog 64 #[.string s] W fun e w' => e = .returned (.tuple #[.int .i64 (n : Int), .bool true]) ∧ W = w') := fun W => by
  have hs : s.size = k := by rw [← data_len, h, figB_len]
  have := number_dig s W (by omega) (by rw [h]; exact figB_dig n k)
  rwa [h, numV_figB, Nat.mod_eq_of_lt hn] at this

theorem dparse_yes (s : ByteArray) (day y m d : Nat) (w : World) (hd : day ≤ 99999) (h : DateIs day y m d) (hs : s.data.toList = dateB y m d) :
    Calls Tryz.prog 33 #[.string s] w fun e w' => e = .returned (.tuple #[.int .i64 (day : Int), .int .i64 0]) ∧ Below w.heap.size w w' := by
  have h10 : s.size = 10 := by rw [← data_len, hs, dateB_len]
  obtain ⟨hy, hdd⟩ := h.small hd
  have hm : m ≤ 12 := h.2.2.1
  have hx : ∀ a b : Nat, (s.extract a b).data.toList = ((dateB y m d).drop a).take (b - a) := fun a b => by rw [Lib.extract_data, hs]
  have l4 : figB y 4 = [UInt8.ofNat (48 + y / 10 / 10 / 10 % 10), UInt8.ofNat (48 + y / 10 / 10 % 10), UInt8.ofNat (48 + y / 10 % 10), UInt8.ofNat (48 + y % 10)] := rfl
  have l2 : figB m 2 = [UInt8.ofNat (48 + m / 10 % 10), UInt8.ofNat (48 + m % 10)] := rfl
  have l3 : figB d 2 = [UInt8.ofNat (48 + d / 10 % 10), UInt8.ofNat (48 + d % 10)] := rfl
  have g : ∀ (i : Nat) (hi : i < s.size), (dateB y m d)[i]? = some s[i] := fun i hi => by rw [← hs]; exact Lib.data_getElem? s i hi
  have c4 := g 4 (by omega)
  have c7 := g 7 (by omega)
  have e4 : (45 : UInt8) = s[4] := by unfold dateB at c4; rw [l4, l2, l3] at c4; simpa using c4
  have e7 : (45 : UInt8) = s[7] := by unfold dateB at c7; rw [l4, l2, l3] at c7; simpa using c7
  refine dparse_parts s y m d day w h10 (by rw [← e4]; rfl) (by rw [← e7]; rfl) (number_fig _ y 4 (by rw [hx]; unfold dateB; rw [l4, l2, l3]; rfl) (by omega) (by omega))
    (number_fig _ m 2 (by rw [hx]; unfold dateB; rw [l4, l2, l3]; rfl) (by omega) (by omega)) (number_fig _ d 2 (by rw [hx]; unfold dateB; rw [l4, l2, l3]; rfl) (by omega) (by omega)) (fun W => of_yes day y m d W hd h)

end Go.Proofs.YtcfgpojogomkhaaGreatDoor
