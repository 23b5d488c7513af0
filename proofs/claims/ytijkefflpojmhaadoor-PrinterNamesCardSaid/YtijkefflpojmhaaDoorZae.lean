/-
  The parts of a date walked: the program's and the reference's. No condition. The text of a date walked: the program's and the reference's. No condition. The text of a day: the program's day and the reference's, of a day from 0 to 99999. No condition. The signs of the operators. No condition. The reference's sum: is an expression a sum or a difference. No condition. The text of an expression, as the program writes it and as the reference does: one and the same. No condition, no program. The reference's part, of a text that Expr gives. No condition but the text's length. The collector of a text (printer.out): its block, its buffer; copyCheck, WriteString, Len and String of a Builder that lies at its head. No condition but lengths. (*out).put and (*out).text walked. No condition but lengths. The words of the kinds: the map that the program makes, its look-ups. No condition. (*out).expr walked: of an operator. No condition but lengths. (*out).expr walked: of an operator that binds too weakly: in parentheses (the second one is put by a deferred call). No condition but lengths. (*out).expr walked: of a number, of a name with a day, of a name. No condition but lengths. (*out).expr walked: of a kind with a word. No condition but lengths. (*out).expr: whole. The reference's list. No condition but lengths. A region that draws its order, whose operations only read and whose callees may make blocks of their own: walked once, in the order of the text. No condition. The reference's Expr walked. No condition but lengths. A valid expression: its kinds, its text's length. No program. The text of a contract, as the program writes it and as the reference does: one and the same. No program.
-/
import Derived.Test.YtijkefflpojmhaaDoorZad
import Derived.Test.YtijkefflpojmhaaDoorZaa
import Derived.Laws.Rows
import Derived.Test.YtijkefflpojmhaaDoorZab
import Derived.Lib.FrozenHead2
import Derived.Lib.OthersKept
import Derived.Lib.UnsafeStr
import Derived.Lib.MakeNoZero
import Derived.Laws.Externs
import Derived.Maps.Own
import Derived.Defers
import Derived.Deep.RegionHeld3
import Derived.BigQuiet
namespace Go.Proofs.YtijkefflpojmhaaDoor
open Go.RowKit

def inB (n a b : Int) : Bool := decide (a ≤ n) && decide (n ≤ b)
/-- The parts of a date, and an error. -/
def PartsPost (w : World) (y m d e0 : Int) (e : Ending) (w' : World) : Prop := e = .returned (.tuple #[.int .i64 y, .int .i64 m, .int .i64 d, .int .i64 e0]) ∧ Below w.heap.size w w'

def lensV (y : Nat) : Array Value := #[.int .i64 0, .int .i64 31, .int .i64 (longN y 2 : Int), .int .i64 31, .int .i64 30, .int .i64 31, .int .i64 30, .int .i64 31, .int .i64 31, .int .i64 30, .int .i64 31, .int .i64 30, .int .i64 31]
theorem lensV_get (y m : Nat) (h1 : 1 ≤ m) (h2 : m ≤ 12) : (lensV y)[m]? = some (.int .i64 (longN y m : Int)) := by
  have hm : m = 1 ∨ m = 2 ∨ m = 3 ∨ m = 4 ∨ m = 5 ∨ m = 6 ∨ m = 7 ∨ m = 8 ∨ m = 9 ∨ m = 10 ∨ m = 11 ∨ m = 12 := by omega
  rcases hm with rfl | rfl | rfl | rfl | rfl | rfl | rfl | rfl | rfl | rfl | rfl | rfl <;> rfl

set_option maxHeartbeats 1000000 in
set_option maxRecDepth 100000 in
theorem lengths_any (y : Nat) (w : World) (hy : y ≤ 10000) : Calls Tryd.prog 69 #[.int .i64 (y : Int)] w fun e w' => e = .returned (.agg (lensV y)) ∧ Below w.heap.size w w' := by
  have HL := Lib.hid (fun W => leap_any y W hy)
  unfold lensV
  rw [longN_2]
  obtain ⟨b, hb⟩ : ∃ b, b = leapB y := ⟨_, rfl⟩
  rw [← hb] at HL ⊢
  clear hb
  cases b
  · go_enter Tryd.func69, Tryd.ntmps69
    go_wp2_with fail
    refine (HL.out _).mono ?_
    rintro e w' ⟨rfl, rfl⟩
    go_wp2
    refine bodyPost_ret (results_cell_row rfl _ _ w.heap.size 110 _ (0, 0) _ rfl (heap_two _ _ _) Tryd.underlying110 rfl rfl) rfl ?_
    exact ⟨rfl, (own_below _ _).trans ((own_below _ _).mono (by simp))⟩
  · go_enter Tryd.func69, Tryd.ntmps69
    go_wp2_with fail
    refine (HL.out _).mono ?_
    rintro e w' ⟨rfl, rfl⟩
    go_wp2
    refine bodyPost_ret (results_cell_row rfl _ _ w.heap.size 110 _ (0, 0) _ rfl (heap_two _ _ _) Tryd.underlying110 rfl rfl) rfl ?_
    exact ⟨rfl, (own_below _ _).trans ((own_below _ _).mono (by simp))⟩

theorem first_is (y : Nat) (h1 : 1900 ≤ y) (hy : y ≤ 9999) : Hid (∀ W, Calls Tryd.prog 68 #[.int .i64 ((y : Int) + 1)] W (RetI W (yd (y + 1) : Int))) := fun W => by
  have := first_any' (y + 1) W (by omega) (by omega)
  rwa [show ((y + 1 : Nat) : Int) = (y : Int) + 1 by omega] at this

/-- The year so far. -/
def YrR (day : Nat) (v : Value) : Prop := ∃ y : Nat, v = .int .i64 (y : Int) ∧ 1900 ≤ y ∧ yd y ≤ day
/-- The month and the days so far. -/
def MoR (day y : Nat) (mv dv : Value) : Prop := ∃ m d : Nat, mv = .int .i64 (m : Int) ∧ dv = .int .i64 (d : Int) ∧ MonAt day y m d

set_option maxHeartbeats 2000000 in
set_option maxRecDepth 100000 in
theorem parts_ok (day Y M D : Nat) (w : World) (hd : day ≤ 99999) (h : DateIs day Y M D) : Calls Tryd.prog 60 #[.int .i64 (day : Int)] w (PartsPost w Y M D 0) := by
  have HU := Lib.hid h
  obtain ⟨k, hk⟩ : ∃ k, k = day / 366 := ⟨_, rfl⟩
  have hkI : (day : Int) / 366 = (k : Int) := by omega
  have hst : YrR day (.int .i64 (1900 + (k : Int))) := ⟨1900 + k, by congr 1, by omega, by rw [hk]; exact prog_year_start day⟩
  have HST := Lib.hid hst
  have hk2 : k ≤ 1000 := by omega
  clear h hk hst
  go_enter Tryd.func60, Tryd.ntmps60
  go_wp2_with fail
  go_loop [2] (YrR day) (fun v => 3000 - (intOf v).toNat)
  case atStart => exact HST.out
  case round =>
    obtain ⟨y, rfl, hy, hyd⟩ := hrel
    have hy2 : y ≤ 2174 := by have := yd_ge hy; omega
    have HF := first_is y hy (by omega)
    obtain ⟨Y1, hY1⟩ : ∃ Y1, Y1 = yd (y + 1) := ⟨_, rfl⟩
    rw [← hY1] at HF
    by_cases hlt : Y1 ≤ day
    · have HN : Hid (YrR day (.int .i64 ((y : Int) + 1))) := ⟨y + 1, by congr 1, by omega, by rw [← hY1]; exact hlt⟩
      clear hY1 hyd HST
      go_wp2_with fail
      refine (HF.out _).mono ?_
      rintro e w' ⟨rfl, rfl⟩
      go_wp2_with fail
      go_round
      case rel => exact HN.out
      case measure => simp [intOf]; omega
    · have hm0 := mon_start hy hyd (by rw [← hY1]; omega)
      have HF2 := Lib.hid (fun W => first_any' y W hy (by omega))
      have hL := fun W => lengths_any y W (by omega)
      unfold lensV at hL
      have HL := Lib.hid hL
      clear hL
      obtain ⟨Y0, hY0⟩ : ∃ Y0, Y0 = yd y := ⟨_, rfl⟩
      rw [← hY0] at HF2 hm0 hyd
      have hM0 : Hid (MoR day y (.int .i64 1) (.int .i64 ((day : Int) - (Y0 : Int) + 1))) := ⟨1, day - Y0 + 1, rfl, by congr 1; omega, hm0⟩
      have hc : ∀ W : World, ∀ m : Nat, 1 ≤ m → m ≤ 12 → (W.alloc (.cells (lensV y) 110)).cell? ⟨W.heap.size, m, none⟩ = some (.int .i64 (longN y m : Int)) := fun W m a1 a2 => by
        rw [RowAt.cell (rowAt_alloc (t := 110) (c := lensV y) rfl rfl) (by show m < 13; omega)]
        simpa using lensV_get y m a1 a2
      have HC := Lib.hid hc
      clear hY1 hY0 hm0 HST hc
      go_wp2_with fail
      refine (HF.out _).mono ?_
      rintro e w' ⟨rfl, rfl⟩
      go_wp2_with fail
      refine (HF2.out _).mono ?_
      rintro e w' ⟨rfl, rfl⟩
      go_wp2_with fail
      refine (HL.out _).mono ?_
      rintro e w2 ⟨rfl, b2⟩
      have B2 := Lib.hid b2
      clear b2
      go_wp2_with fail
      go_loop [3, 4] (MoR day y) (fun _ v => (intOf v).toNat)
      case atStart => exact hM0.out
      case round =>
        obtain ⟨m, d, rfl, rfl, hm⟩ := hrel
        obtain ⟨n, hn⟩ : ∃ n, n = longN y m := ⟨_, rfl⟩
        have hc := HC.out w2 m hm.2.1 hm.2.2.1
        unfold lensV at hc
        rw [← hn] at hc
        have hm12 := hm.2.2.1
        by_cases hlt : n < d
        · obtain ⟨hs, hlt12⟩ := mon_step hm (by rw [← hn]; exact hlt)
          rw [← hn] at hs
          have hn28 : 28 ≤ n := by rw [hn]; exact longN_ge _ _
          have hd99 : d ≤ 100000 := by have := hm.2.2.2.2.1; omega
          have HS : Hid (MoR day y (.int .i64 ((m : Int) + 1)) (.int .i64 ((d : Int) - (n : Int)))) := ⟨m + 1, d - n, by congr 1, by congr 1; omega, hs⟩
          clear hn hm hs HC hM0
          go_wp2_with fail
          go_round
          case rel => exact HS.out
          case measure => simp [intOf]; omega
        · obtain ⟨e1, e2, e3⟩ := HU.out.unique (mon_end hm (by rw [← hn]; omega))
          have E1 := Lib.hid e1
          have E2 := Lib.hid e2
          have E3 := Lib.hid e3
          clear hn hm HC hM0 e1 e2 e3
          go_wp2_with fail
          refine bodyPost_ret (results_tmp4 rfl _ _ _) rfl ?_
          refine ⟨?_, (B2.out.alloc (Nat.le_trans (by simp) B2.out.size) _)⟩
          rw [E1.out, E2.out, E3.out]
          rfl

set_option maxHeartbeats 2000000 in
set_option maxRecDepth 100000 in
theorem parts_bad (n : Int) (w : World) (h : inB n 0 99999 = false) : Calls Tryd.prog 60 #[.int .i64 n] w (PartsPost w 0 0 0 2) := by
  have hn : n < 0 ∨ 99999 < n := by unfold inB at h; simp at h; omega
  clear h
  rcases hn with hn | hn
  all_goals
    go_enter Tryd.func60, Tryd.ntmps60
    go_wp2
    refine bodyPost_ret (results_tmp4 rfl _ _ _) rfl ?_
    exact ⟨rfl, Below.refl _ _⟩

/-- The reference's loop: year, month, days left. -/
def RpR (day : Nat) (rv yv mv : Value) : Prop := ∃ y m r : Nat, yv = .int .i64 (y : Int) ∧ mv = .int .i64 (m : Int) ∧ rv = .int .i64 (r : Int) ∧ RefAt day y m r

end Go.Proofs.YtijkefflpojmhaaDoor

namespace Go.Proofs.YtijkefflpojmhaaDoor
open Go.RowKit

theorem dig_val {d : Nat} (h : d < 10) : Value.int .u8 ((48 : Int) + (d : Int)) = .int .u8 ((UInt8.ofNat (48 + d)).toNat : Int) := by
  congr 1
  rw [UInt8.toNat_ofNat']; omega

/-- What digits hands back. -/
def DigsPost (B : Nat) (w : World) (l : List UInt8) (e : Ending) (w' : World) : Prop := ∃ v', e = .returned v' ∧ w'.ownsRow B 5 1 v' l.length (bytesV l) ∧ Below B w w'

set_option maxHeartbeats 2000000 in
set_option maxRecDepth 100000 in
theorem digits_many (k : Nat) : ∀ (B : Nat) (v : Value) (l : List UInt8) (n : Nat) (many : Int) (w : World), n ≤ 100000 → k ≤ 10 → l.length ≤ 1000 → B ≤ w.heap.size → many = (k : Int) + 1 → w.ownsRow B 5 1 v l.length (bytesV l) →
    Calls Tryd.prog 61 #[v, .int .i64 (n : Int), .int .i64 many] w (DigsPost B w (l ++ figB n (k + 1))) := by
  obtain ⟨i0, hi, hz0, hz1, hz2⟩ := info_parts infoU8
  induction k with
  | zero =>
    intro B v l n many w hn hk hl hB hm ho
    obtain ⟨d, hd⟩ : ∃ d, d = n % 10 := ⟨_, rfl⟩
    have hdI : (n : Int) % 10 = (d : Int) := by omega
    have hdb : d < 10 := by omega
    have HF : Hid (l ++ figB n (0 + 1) = l ++ [UInt8.ofNat (48 + d)]) := by rw [hd]; rfl
    have HO := Lib.hid ho
    obtain ⟨m, hm'⟩ : ∃ m, m = l.length := ⟨_, rfl⟩
    have HO' := HO.out
    rw [← hm'] at HO' hl
    have HO2 := Lib.hid HO'
    have HM := Lib.hid hm'
    subst hm
    clear ho HO HO' hd hm'
    rw [HF.out]
    go_enter Tryd.func61, Tryd.ntmps61
    go_wp2_with (at_builtin; refine wpList_append1 _ rfl (.tmp 15) (.tmp 20) 43 rfl B 5 i0 (.int .u8 0) 1 Tryd.underlying43 hi hz0 hz1 hz2 rfl _ _ _ rfl (HO2.out.alloc _) ⟨w.heap.size, 0, none⟩ 1 (.int .u8 ((48 : Int) + (d : Int))) rfl ?c1 rfl ?c3 ?c4 ?c5 ?_)
    case c1 => simp
    case c3 => unfold maxLen; omega
    case c4 => omega
    case c5 => simp; omega
    intro v3 w3 ho3 hg3 hne3 hpl3
    have n3 : Below B w w3 := ((Below.refl B w).alloc hB _).grown hg3 (by simp; omega) (fun k hk => (HO2.out.lt k hk).1)
    rw [dig_val hdb, bytesV_snoc] at ho3
    have HO3 := Lib.hid ho3
    have N3 := Lib.hid n3
    clear ho3 hg3 hne3 hpl3 n3
    go_wp2_with fail
    go_ret
    exact ⟨_, rfl, by rw [List.length_append, ← HM.out]; exact HO3.out, N3.out⟩
  | succ k ih =>
    intro B v l n many w hn hk hl hB hm ho
    obtain ⟨d, hd⟩ : ∃ d, d = n % 10 := ⟨_, rfl⟩
    obtain ⟨q, hq⟩ : ∃ q, q = n / 10 := ⟨_, rfl⟩
    have hdI : (n : Int) % 10 = (d : Int) := by omega
    have hqI : (n : Int) / 10 = (q : Int) := by omega
    have hdb : d < 10 := by omega
    have HF : Hid (l ++ figB n (k + 1 + 1) = (l ++ figB q (k + 1)) ++ [UInt8.ofNat (48 + d)]) := by rw [hd, hq]; show l ++ (figB (n / 10) (k + 1) ++ _) = _; rw [List.append_assoc]
    have HI := Lib.hid (ih B v l q (many - 1) w (by omega) (by omega) hl hB (by omega) ho)
    obtain ⟨m, hm'⟩ : ∃ m, m = (l ++ figB q (k + 1)).length := ⟨_, rfl⟩
    have hml : m = l.length + (k + 1) := by rw [hm', List.length_append, figB_len]
    have t1 : decide ((1 : Int) < many) = true := by simp; omega
    have hmb : 1 ≤ many ∧ many ≤ 100 := by omega
    have HM := Lib.hid hm'
    clear ho hd hq hm hm' ih
    rw [HF.out]
    go_enter Tryd.func61, Tryd.ntmps61
    go_wp2_with fail
    refine HI.out.mono ?_
    rintro e w1 ⟨v1, rfl, ho1, b1⟩
    rw [← HM.out] at ho1
    have HO1 := Lib.hid ho1
    have B1 := Lib.hid b1
    clear ho1 b1 HI
    go_wp2_with (at_builtin; refine wpList_append1 _ rfl (.tmp 15) (.tmp 20) 43 rfl B 5 i0 (.int .u8 0) 1 Tryd.underlying43 hi hz0 hz1 hz2 rfl _ _ _ rfl (HO1.out.alloc _) ⟨w1.heap.size, 0, none⟩ 1 (.int .u8 ((48 : Int) + (d : Int))) rfl ?c1 rfl ?c3 ?c4 ?c5 ?_)
    case c1 => simp
    case c3 => unfold maxLen; omega
    case c4 => omega
    case c5 => have := B1.out.size; simp; omega
    intro v3 w3 ho3 hg3 hne3 hpl3
    have n3 : Below B w w3 := (B1.out.alloc (Nat.le_trans hB B1.out.size) _).grown hg3 (by have := B1.out.size; simp; omega) (fun k hk => (HO1.out.lt k hk).1)
    rw [dig_val hdb, bytesV_snoc] at ho3
    have HO3 := Lib.hid ho3
    have N3 := Lib.hid n3
    clear ho3 hg3 hne3 hpl3 n3
    go_wp2_with fail
    go_ret
    exact ⟨_, rfl, by rw [List.length_append, ← HM.out, hml]; exact HO3.out, N3.out⟩

/-- A text and an error. -/
theorem dtext_len (Y M D : Nat) : ([] ++ figB Y 4 ++ [45] ++ figB M 2 ++ [45] ++ figB D 2 : List UInt8) = dateB Y M D := by simp [dateB]

set_option maxHeartbeats 2000000 in
set_option maxRecDepth 100000 in
theorem dtext_ok (day Y M D : Nat) (w : World) (hd : day ≤ 99999) (h : DateIs day Y M D) : Calls Tryd.prog 54 #[.int .i64 (day : Int)] w (SEPost w (dateB Y M D) 0) := by
  obtain ⟨i0, hi, hz0, hz1, hz2⟩ := info_parts infoU8
  have HP := Lib.hid (fun W => parts_ok day Y M D W hd h)
  obtain ⟨hY, hD⟩ := h.small hd
  have hM : M ≤ 12 := h.2.2.1
  obtain ⟨L1, hL1⟩ : ∃ L1, L1 = [] ++ figB Y 4 := ⟨_, rfl⟩
  obtain ⟨L2, hL2⟩ : ∃ L2, L2 = L1 ++ [45] := ⟨_, rfl⟩
  obtain ⟨L3, hL3⟩ : ∃ L3, L3 = L2 ++ figB M 2 := ⟨_, rfl⟩
  obtain ⟨L4, hL4⟩ : ∃ L4, L4 = L3 ++ [45] := ⟨_, rfl⟩
  obtain ⟨L5, hL5⟩ : ∃ L5, L5 = L4 ++ figB D 2 := ⟨_, rfl⟩
  have l1 : L1.length = 4 := by rw [hL1, List.nil_append, figB_len]
  have l2 : L2.length = 5 := by rw [hL2, List.length_append, l1]; rfl
  have l3 : L3.length = 7 := by rw [hL3, List.length_append, l2, figB_len]
  have l4 : L4.length = 8 := by rw [hL4, List.length_append, l3]; rfl
  have HL : Hid (dateB Y M D = L5) := by show _ = _; rw [hL5, hL4, hL3, hL2, hL1]; exact (dtext_len Y M D).symm
  have HB1 : Hid (bytesV L1 ++ [.int .u8 45] = bytesV L2) := by rw [hL2, ← bytesV_snoc]; rfl
  have HB2 : Hid (bytesV L3 ++ [.int .u8 45] = bytesV L4) := by rw [hL4, ← bytesV_snoc]; rfl
  have H1 : Hid (∀ W : World, w.heap.size ≤ W.heap.size → Calls Tryd.prog 61 #[.slice none 0 0, .int .i64 (Y : Int), .int .i64 4] W (DigsPost w.heap.size W L1)) := fun W hW => by
    rw [hL1]; exact digits_many 3 w.heap.size (.slice none 0 0) [] Y 4 W (by omega) (by omega) (by simp) hW rfl (World.ownsRow_nil _ _ _ _)
  have H2 : Hid (∀ (W : World) (v : Value), w.heap.size ≤ W.heap.size → W.ownsRow w.heap.size 5 1 v 5 (bytesV L2) → Calls Tryd.prog 61 #[v, .int .i64 (M : Int), .int .i64 2] W (DigsPost w.heap.size W L3)) := fun W v hW ho => by
    rw [hL3]; exact digits_many 1 w.heap.size v L2 M 2 W (by omega) (by omega) (by omega) hW rfl (by rw [l2]; exact ho)
  have H3 : Hid (∀ (W : World) (v : Value), w.heap.size ≤ W.heap.size → W.ownsRow w.heap.size 5 1 v 8 (bytesV L4) → Calls Tryd.prog 61 #[v, .int .i64 (D : Int), .int .i64 2] W (DigsPost w.heap.size W L5)) := fun W v hW ho => by
    rw [hL5]; exact digits_many 1 w.heap.size v L4 D 2 W (by omega) (by omega) (by omega) hW rfl (by rw [l4]; exact ho)
  rw [HL.out]
  clear h hL1 hL2 hL3 hL4 hL5
  go_enter Tryd.func54, Tryd.ntmps54
  go_wp2_with fail
  refine (HP.out _).mono ?_
  rintro e w1 ⟨rfl, b1⟩
  have B1 := Lib.hid b1
  clear b1
  go_wp2_with fail
  refine (H1.out _ B1.out.size).mono ?_
  rintro e w2 ⟨v2, rfl, ho2, b2⟩
  rw [l1] at ho2
  have O2 := Lib.hid ho2
  have B2 := Lib.hid (B1.out.trans b2)
  clear ho2 b2 B1
  go_wp2_with (at_builtin; refine wpList_append1 _ rfl (.tmp 20) (.tmp 21) 43 rfl w.heap.size 5 i0 (.int .u8 0) 1 Tryd.underlying43 hi hz0 hz1 hz2 rfl _ _ _ rfl (O2.out.alloc _) ⟨w2.heap.size, 0, none⟩ 1 (.int .u8 45) rfl ?c1 rfl ?c3 ?c4 ?c5 ?_)
  case c1 => simp
  case c3 => unfold maxLen; omega
  case c4 => omega
  case c5 => have := B2.out.size; simp; omega
  intro v3 w3 ho3 hg3 hne3 hpl3
  have n3 : Below w.heap.size w w3 := (B2.out.alloc B2.out.size _).grown hg3 (by have := B2.out.size; simp; omega) (fun k hk => (O2.out.lt k hk).1)
  rw [HB1.out] at ho3
  have O3 := Lib.hid ho3
  have B3 := Lib.hid n3
  clear ho3 hg3 hne3 hpl3 n3 O2 B2
  go_wp2_with fail
  refine (H2.out _ _ B3.out.size O3.out).mono ?_
  rintro e w4 ⟨v4, rfl, ho4, b4⟩
  rw [l3] at ho4
  have O4 := Lib.hid ho4
  have B4 := Lib.hid (B3.out.trans b4)
  clear ho4 b4 B3 O3
  go_wp2_with (at_builtin; refine wpList_append1 _ rfl (.tmp 25) (.tmp 26) 43 rfl w.heap.size 5 i0 (.int .u8 0) 1 Tryd.underlying43 hi hz0 hz1 hz2 rfl _ _ _ rfl (O4.out.alloc _) ⟨w4.heap.size, 0, none⟩ 1 (.int .u8 45) rfl ?c1 rfl ?c3 ?c4 ?c5 ?_)
  case c1 => simp
  case c3 => unfold maxLen; omega
  case c4 => omega
  case c5 => have := B4.out.size; simp; omega
  intro v5 w5 ho5 hg5 hne5 hpl5
  have n5 : Below w.heap.size w w5 := (B4.out.alloc B4.out.size _).grown hg5 (by have := B4.out.size; simp; omega) (fun k hk => (O4.out.lt k hk).1)
  rw [HB2.out] at ho5
  have O5 := Lib.hid ho5
  have B5 := Lib.hid n5
  clear ho5 hg5 hne5 hpl5 n5 O4 B4
  go_wp2_with fail
  refine (H3.out _ _ B5.out.size O5.out).mono ?_
  rintro e w6 ⟨v6, rfl, ho6, b6⟩
  have hcv := conv_own ho6 9 Tryd.underlying9
  have B6 := Lib.hid (B5.out.trans b6)
  clear ho6 b6 B5 O5
  go_wp2_with fail
  go_ret2
  exact ⟨rfl, B6.out⟩

theorem dtext_bad (n : Int) (w : World) (h : inB n 0 99999 = false) : Calls Tryd.prog 54 #[.int .i64 n] w (SEPost w [] 2) := by
  have HP := Lib.hid (fun W => parts_bad n W h)
  clear h
  go_enter Tryd.func54, Tryd.ntmps54
  go_wp2_with fail
  refine (HP.out _).mono ?_
  rintro e w1 ⟨rfl, b1⟩
  have B1 := Lib.hid b1
  clear b1
  go_wp2_with fail
  go_ret2
  exact ⟨rfl, B1.out⟩

/-- The reference's loop over the digits. -/
def FigR (w : World) (n many : Nat) (nv sv iv : Value) (wr : World) : Prop :=
  ∃ (i m : Nat) (s : ByteArray), nv = .int .i64 (m : Int) ∧ sv = .string s ∧ iv = .int .i64 (i : Int) ∧ m ≤ n ∧ s.size = i ∧ FigAt n many s.data.toList i m ∧ Below w.heap.size w wr

end Go.Proofs.YtijkefflpojmhaaDoor

namespace Go.Proofs.YtijkefflpojmhaaDoor
open Go.RowKit

/-- The text of a day. -/
noncomputable def dtxt (n : Int) : List UInt8 := dateB (date_exists n.toNat).choose (date_exists n.toNat).choose_spec.choose (date_exists n.toNat).choose_spec.choose_spec.choose
def TPost (w : World) (s : ByteArray) (n : Int) (e : Ending) (w' : World) : Prop := e = .returned (.tuple #[.string s, .int .i64 n]) ∧ Below w.heap.size w w'
theorem dtext_is {n : Int} (h0 : 0 ≤ n) (h1 : n ≤ 99999) (W : World) : Calls Tryd.prog 54 #[.int .i64 n] W (TPost W ⟨(dtxt n).toArray⟩ 0) := by
  have hd := (date_exists n.toNat).choose_spec.choose_spec.choose_spec
  have := dtext_ok n.toNat _ _ _ W (by omega) hd
  rwa [show ((n.toNat : Nat) : Int) = n by omega] at this
/-- The text of a day as a string. -/
noncomputable def dS (n : Int) : ByteArray := ⟨(dtxt n).toArray⟩

set_option maxHeartbeats 1000000 in
theorem pdayT_is {n : Int} (h0 : 0 ≤ n) (h1 : n ≤ 99999) (w : World) : Calls Tryd.prog 33 #[.int .i64 n] w (fun e w' => e = .returned (.string (dS n)) ∧ Below w.heap.size w w') := by
  have HD : Hid (∀ W, Calls Tryd.prog 54 #[.int .i64 n] W (TPost W (dS n) 0)) := Lib.hid (fun W => dtext_is h0 h1 W)
  obtain ⟨d, hd⟩ : ∃ d, d = dS n := ⟨_, rfl⟩
  rw [← hd] at HD ⊢
  clear hd h0 h1
  go_enter Tryd.func33, Tryd.ntmps33
  go_wp2_with fail
  refine (HD.out _).mono ?_
  rintro e w' ⟨rfl, hb⟩
  have HB := Lib.hid hb
  clear hb
  go_wp2_with fail
  go_ret
  exact ⟨rfl, HB.out⟩

end Go.Proofs.YtijkefflpojmhaaDoor

namespace Go.Proofs.YtijkefflpojmhaaDoor
open Go.RowKit

def opS (k : Int) : ByteArray := if k = 4 then ByteArray.mk #[32, 43, 32] else if k = 5 then ByteArray.mk #[32, 45, 32] else if k = 6 then ByteArray.mk #[32, 42, 32] else ByteArray.mk #[]
def opO (k : Int) : Int := if k = 4 then 0 else if k = 5 then 0 else if k = 6 then 1 else 2
def opN (k : Int) : Int := if k = 4 then 1 else if k = 5 then 1 else 2
theorem op_beq_no {a b : Int} (h : a ≠ b) : (a == b) = false := by simpa using h

set_option maxHeartbeats 1000000 in
theorem oper_any (k : Int) (w : World) : Calls Tryd.prog 40 #[.int .u8 k] w (fun e w' => e = .returned (.tuple #[.string (opS k), .int .i64 (opO k), .int .i64 (opN k)]) ∧ w = w') := by
  by_cases h4 : k = 4
  · subst h4
    go_enter Tryd.func40, Tryd.ntmps40
    go_wp2_with fail
    go_ret3
    exact ⟨rfl, rfl⟩
  by_cases h5 : k = 5
  · subst h5
    go_enter Tryd.func40, Tryd.ntmps40
    go_wp2_with fail
    go_ret3
    exact ⟨rfl, rfl⟩
  by_cases h6 : k = 6
  · subst h6
    go_enter Tryd.func40, Tryd.ntmps40
    go_wp2_with fail
    go_ret3
    exact ⟨rfl, rfl⟩
  have e4 := op_beq_no h4
  have e5 := op_beq_no h5
  have e6 := op_beq_no h6
  have eS : opS k = ByteArray.mk #[] := by unfold opS; rw [if_neg h4, if_neg h5, if_neg h6]
  have eO : opO k = 2 := by unfold opO; rw [if_neg h4, if_neg h5, if_neg h6]
  have eN : opN k = 2 := by unfold opN; rw [if_neg h4, if_neg h5]
  rw [eS, eO, eN]
  clear eS eO eN h4 h5 h6
  go_enter Tryd.func40, Tryd.ntmps40
  go_wp2_with fail
  go_ret3
  exact ⟨rfl, rfl⟩

end Go.Proofs.YtijkefflpojmhaaDoor

namespace Go.Proofs.YtijkefflpojmhaaDoor
open Go.RowKit

end Go.Proofs.YtijkefflpojmhaaDoor

namespace Go.Proofs.YtijkefflpojmhaaDoor
open Go.RowKit

/-- The words of the kinds. -/
def wdL (k : Int) : List UInt8 := if k = 7 then [109, 97, 120] else if k = 8 then [109, 105, 110] else if k = 9 then [99, 97, 115, 101] else if k = 11 then [108, 101, 115, 115] else if k = 12 then [101, 113, 117, 97, 108] else if k = 13 then [97, 110, 100] else if k = 14 then [111, 114] else [110, 111, 116]
/-- Texts with ", " between. -/
def commas : List (List UInt8) → List UInt8
  | [] => []
  | [a] => a
  | a :: b :: l => a ++ [44, 32] ++ commas (b :: l)
def parT (b : Bool) (t : List UInt8) : List UInt8 := if b = true then [40] ++ t ++ [41] else t
def sumB (x : Ex) : Bool := x.kind == 4 || x.kind == 5
/-- The i-th part. -/
def prt (x : Ex) (i : Nat) : Ex := x.sub[i]?.getD (Ex.mk 0 ByteArray.empty ByteArray.empty 0 [])
/-- A leaf's text; that of a kind with a word. -/
noncomputable def leafT (x : Ex) : List UInt8 := if x.kind = 1 then x.rat.data.toList else if x.kind = 2 then (qn x.name).data.toList ++ [64] ++ dtxt x.date else (qn x.name).data.toList ++ [64, 110, 111, 119]
/-- What the reference writes. -/
noncomputable def rexT : Nat → Ex → List UInt8
  | 0, _ => []
  | n + 1, x =>
    if x.kind = 1 ∨ x.kind = 2 ∨ x.kind = 3 then leafT x
    else if x.kind = 4 ∨ x.kind = 5 then rexT n (prt x 0) ++ (opS x.kind).data.toList ++ parT (sumB (prt x 1)) (rexT n (prt x 1))
    else if x.kind = 6 then parT (sumB (prt x 0)) (rexT n (prt x 0)) ++ (opS x.kind).data.toList ++ parT (sumB (prt x 1) || (prt x 1).kind == 6) (rexT n (prt x 1))
    else wdL x.kind ++ ([40] ++ commas (x.sub.map (rexT n)) ++ [41])
/-- What the program writes where at least 'least' has to bind. -/
noncomputable def pexT : Nat → Ex → Int → List UInt8
  | 0, x, least => parT (decide (opO x.kind < least)) []
  | n + 1, x, least => parT (decide (opO x.kind < least))
    (if x.kind = 4 ∨ x.kind = 5 ∨ x.kind = 6 then pexT n (prt x 0) (opO x.kind) ++ (opS x.kind).data.toList ++ pexT n (prt x 1) (opN x.kind)
    else if x.kind = 1 ∨ x.kind = 2 ∨ x.kind = 3 then leafT x
    else wdL x.kind ++ ([40] ++ commas (x.sub.map fun y => pexT n y 0) ++ [41]))

theorem opO_0 (k : Int) : decide (opO k < 0) = false := by
  unfold opO; split <;> (try split) <;> (try split) <;> rfl
theorem opO_1 (x : Ex) : decide (opO x.kind < 1) = sumB x := by
  unfold opO sumB
  by_cases h4 : x.kind = 4
  · rw [if_pos h4, h4]; rfl
  by_cases h5 : x.kind = 5
  · rw [if_neg h4, if_pos h5, h5]; rfl
  rw [if_neg h4, if_neg h5, op_beq_no h4, op_beq_no h5]
  split <;> rfl
theorem opO_2 (x : Ex) : decide (opO x.kind < 2) = (sumB x || x.kind == 6) := by
  unfold opO sumB
  by_cases h4 : x.kind = 4
  · rw [if_pos h4, h4]; rfl
  by_cases h5 : x.kind = 5
  · rw [if_neg h4, if_pos h5, h5]; rfl
  by_cases h6 : x.kind = 6
  · rw [if_neg h4, if_neg h5, if_pos h6, h6]; rfl
  rw [if_neg h4, if_neg h5, if_neg h6, op_beq_no h4, op_beq_no h5, op_beq_no h6]; rfl

/-- The program writes what the reference writes, in parentheses where it binds too weakly. -/
theorem pex_rex : ∀ (n : Nat) (x : Ex) (least : Int), pexT n x least = parT (decide (opO x.kind < least)) (rexT n x) := by
  intro n
  induction n with
  | zero => intro x least; rfl
  | succ n ih =>
    intro x least
    rw [pexT, rexT]
    congr 1
    have hm : (x.sub.map fun y => pexT n y 0) = x.sub.map (rexT n) := List.map_congr_left fun y _ => by
      rw [ih, opO_0]; rfl
    by_cases h1 : x.kind = 1 ∨ x.kind = 2 ∨ x.kind = 3
    · rw [if_neg (by omega), if_pos h1, if_pos h1]
    by_cases h4 : x.kind = 4 ∨ x.kind = 5
    · have e0 : opO x.kind = 0 := by rcases h4 with h | h <;> rw [h] <;> rfl
      have e1 : opN x.kind = 1 := by rcases h4 with h | h <;> rw [h] <;> rfl
      rw [if_pos (by omega), if_neg h1, if_pos h4, ih, ih, e0, e1, opO_0, opO_1]
      rfl
    by_cases h6 : x.kind = 6
    · have e0 : opO x.kind = 1 := by rw [h6]; rfl
      have e1 : opN x.kind = 2 := by rw [h6]; rfl
      rw [if_pos (by omega), if_neg h1, if_neg h4, if_pos h6, ih, ih, e0, e1, opO_1, opO_2]
    · rw [if_neg (by omega), if_neg h1, if_neg h1, if_neg h4, if_neg h6, hm]

end Go.Proofs.YtijkefflpojmhaaDoor

namespace Go.Proofs.YtijkefflpojmhaaDoor
open Go.RowKit

def parS (b : Bool) (t : ByteArray) : ByteArray := if b = true then ByteArray.mk #[40] ++ t ++ ByteArray.mk #[41] else t

end Go.Proofs.YtijkefflpojmhaaDoor

namespace Go.Proofs.YtijkefflpojmhaaDoor
open Go.RowKit

/-- Block b is a collector: its Builder (address p, a buffer), its words m; it holds the bytes l. -/
def OutAt (B b : Nat) (p m : Value) (l : List UInt8) (w : World) : Prop :=
  B ≤ b ∧ ∃ v, w.heap[b]? = some (.cells #[p, v, m] 54 (0, 0)) ∧ w.ownsRowF B 5 1 v l.length (Lib.byteCells l) ∧ v.ownBlock ≠ some b
/-- Fresh or used. -/
def IsOut (B b : Nat) (m : Value) (l : List UInt8) (w : World) : Prop := OutAt B b (.pointer none) m l w ∨ OutAt B b (.pointer (some ⟨b, 0, none⟩)) m l w
/-- What a writer leaves of all else. -/
def OutK (B b : Nat) (w w' : World) : Prop := Below B w w' ∧ Lib.OthersKept 5 (some b) w w'
theorem OutK.refl (B b : Nat) (w : World) : OutK B b w w := ⟨Below.refl _ _, Lib.OthersKept.refl _ _ _⟩
theorem OutK.trans {B b : Nat} {w w' w'' : World} (h : OutK B b w w') (k : OutK B b w' w'') : OutK B b w w'' := ⟨h.1.trans k.1, h.2.trans k.2⟩
theorem OutK.alloc {B b : Nat} {w w' : World} (h : OutK B b w w') (hB : B ≤ w'.heap.size) (o : Obj) : OutK B b w (w'.alloc o) := ⟨h.1.alloc hB o, h.2.alloc o⟩
theorem OutK.drew {B b : Nat} {w w' : World} (h : OutK B b w w') : OutK B b w w'.drew := ⟨h.1.drew, h.2.drew⟩
/-- A call that leaves all that there was. -/
theorem OutK.below {B b : Nat} {w w' : World} (h : Below w.heap.size w w') (hB : B ≤ w.heap.size) : OutK B b w w' :=
  ⟨h.mono hB, fun k _ hk _ _ => (h.block k (Array.getElem?_eq_some_iff.1 hk).1).trans hk⟩
theorem OutAt.lt {B b : Nat} {p m : Value} {l : List UInt8} {w : World} (h : OutAt B b p m l w) : b < w.heap.size := by
  obtain ⟨_, v, hb, _⟩ := h
  exact (Array.getElem?_eq_some_iff.1 hb).1
theorem OutAt.below {B b : Nat} {p m : Value} {l : List UInt8} {w w' : World} (h : OutAt B b p m l w) (hb : Below w.heap.size w w') : OutAt B b p m l w' := by
  have hlt := h.lt
  obtain ⟨hB, v, h1, h2, h3⟩ := h
  exact ⟨hB, v, (hb.block _ hlt).trans h1, h2.kept (row := none) ⟨hb.os, hb.tape, hb.output, hb.size, fun i hi _ => hb.block i hi⟩ (by cases hv : v.ownBlock <;> simp), h3⟩
theorem IsOut.below {B b : Nat} {m : Value} {l : List UInt8} {w w' : World} (h : IsOut B b m l w) (hb : Below w.heap.size w w') : IsOut B b m l w' := h.imp (·.below hb) (·.below hb)
theorem IsOut.at {B b : Nat} {m : Value} {l : List UInt8} {w : World} (h : IsOut B b m l w) : ∃ p, OutAt B b p m l w := h.elim (fun x => ⟨_, x⟩) (fun x => ⟨_, x⟩)

theorem infoBuilder : (Tryd.prog.info? 52).map (·.size) = some 2 := by kernel_rfl
theorem infoOut : (Tryd.prog.info? 54).map (·.size) = some 3 := by kernel_rfl
theorem infoB8 : (Tryd.prog.info? 5).map (fun i => (i.zero, i.size, i.bytes)) = some (some (.int .u8 0), 1, 1) := by kernel_rfl
theorem liesOut : liesAt Tryd.prog Tryd.prog.depth 54 (3 / Tryd.prog.cellsOf 54) 0 52 1 = true := by kernel_rfl

set_option maxHeartbeats 1000000 in
set_option maxRecDepth 100000 in
theorem bcopy_used (b : Nat) (w : World) (h0 : w.cell? ⟨b, 0, none⟩ = some (.pointer (some ⟨b, 0, none⟩))) :
    Calls Tryd.prog 59 #[.pointer (some ⟨b, 0, none⟩)] w fun e w' => e = .returned (.tuple #[]) ∧ w' = w := by
  obtain ⟨j, hj, _⟩ := Option.map_eq_some_iff.1 infoBuilder
  go_enter Tryd.func59, Tryd.ntmps59
  go_wp2
  rw [Lib.run_neq_ptr_same w _ Tryd.underlying50 hj]
  go_wp2
  go_end0
  exact ⟨rfl, rfl⟩

set_option maxHeartbeats 1000000 in
set_option maxRecDepth 100000 in
theorem bcopy_fresh (b : Nat) (w : World) (h0 : w.cell? ⟨b, 0, none⟩ = some (.pointer none)) (hsh : w.shape? b = some (54, 3)) (hfz : w.frozen? ⟨b, 0, none⟩ = false) :
    Calls Tryd.prog 59 #[.pointer (some ⟨b, 0, none⟩)] w fun e w' => e = .returned (.tuple #[]) ∧ w' = w.setCell ⟨b, 0, none⟩ (.pointer (some ⟨b, 0, none⟩)) := by
  obtain ⟨j, hj, hjs⟩ := Option.map_eq_some_iff.1 infoBuilder
  go_enter Tryd.func59, Tryd.ntmps59
  go_wp2
  rw [Lib.run_to_unsafe w ⟨b, 0, none⟩ Tryd.underlying50 Tryd.underlying107 hj (by rw [hjs]; decide) hsh (Nat.zero_lt_succ 2)]
  simp only [Result.andThen]
  rw [Oper.upon_value]
  go_wp2
  rw [run_callFunc_extern Tryd.func67 (by kernel_rfl) (by kernel_rfl) (by kernel_rfl) (e := Extern.AbiNoEscape.same) (by kernel_rfl)]
  rw [Lib.run_noEscape]
  simp only [Result.andThen]
  rw [Oper.upon_value]
  go_wp2
  rw [Lib.run_from_unsafe w ⟨b, 0, none⟩ Tryd.underlying107 Tryd.underlying50 hj hsh liesOut]
  simp only [Result.andThen]
  rw [Oper.upon_value]
  go_wp2
  go_end0
  exact ⟨rfl, rfl⟩

theorem OutAt.used {B b : Nat} {p m : Value} {l : List UInt8} {w : World} (h : OutAt B b p m l w) (q : Value) : OutAt B b q m l (w.setCell ⟨b, 0, none⟩ q) := by
  obtain ⟨hB, v, hb, hown, hne⟩ := h
  refine ⟨hB, v, ?_, ?_, hne⟩
  · simp [World.setCell, Array.getElem?_modify, hb]
  · exact hown.kept (row := some b) ⟨rfl, rfl, rfl, by simp [World.setCell], fun k _ hk => Below.heap_setCell _ _ _ _ (fun e => hk (by simp [e]))⟩ (Or.inr hne)
theorem OutAt.put {B b : Nat} {p v v' m : Value} {l' : List UInt8} {w : World} (hB : B ≤ b) (hb : w.heap[b]? = some (.cells #[p, v, m] 54 (0, 0))) (hown : w.ownsRowF B 5 1 v' l'.length (Lib.byteCells l')) :
    OutAt B b p m l' (w.setCell ⟨b, 1, none⟩ v') := by
  have hne := Lib.ownBlock_neF hown hb (by decide)
  refine ⟨hB, v', ?_, ?_, hne⟩
  · simp [World.setCell, Array.getElem?_modify, hb]
  · exact hown.kept (row := some b) ⟨rfl, rfl, rfl, by simp [World.setCell], fun k _ hk => Below.heap_setCell _ _ _ _ (fun e => hk (by simp [e]))⟩ (Or.inr hne)

theorem bcopy_any (B b : Nat) (m : Value) (l : List UInt8) (w : World) (h : IsOut B b m l w) :
    Calls Tryd.prog 59 #[.pointer (some ⟨b, 0, none⟩)] w fun e w' => e = .returned (.tuple #[]) ∧ OutAt B b (.pointer (some ⟨b, 0, none⟩)) m l w' ∧ OutK B b w w' := by
  rcases h with h | h
  · have hA := h
    obtain ⟨hB, v, hb, hown, hne⟩ := h
    refine (bcopy_fresh b w (by simp [World.cell?, hb]) (by simp [World.shape?, hb]) (by simp [World.frozen?, hb])).mono ?_
    rintro e w' ⟨rfl, rfl⟩
    exact ⟨rfl, hA.used _, (Below.refl B w).setCell (p := ⟨b, 0, none⟩) hB _, (Lib.OthersKept.refl _ _ w).setCell ⟨b, 0, none⟩ rfl _⟩
  · have hA := h
    obtain ⟨hB, v, hb, hown, hne⟩ := h
    refine (bcopy_used b w (by simp [World.cell?, hb])).mono ?_
    rintro e w' ⟨rfl, rfl⟩
    exact ⟨rfl, hA, OutK.refl _ _ _⟩

set_option maxHeartbeats 2000000 in
set_option maxRecDepth 100000 in
theorem bwrite_any (B b : Nat) (m : Value) (l : List UInt8) (s : ByteArray) (w : World) (h : IsOut B b m l w) (hlen : l.length + s.size ≤ 140737488355328) (hBw : B ≤ w.heap.size) :
    Calls Tryd.prog 53 #[.pointer (some ⟨b, 0, none⟩), .string s] w fun e w' => e = .returned (.tuple #[.int .i64 s.size, .nilIface]) ∧ IsOut B b m (l ++ s.data.toList) w' ∧ OutK B b w w' := by
  obtain ⟨i0, hi, hz0, hz1, hz2⟩ := info_parts infoB8
  have HC := Lib.hid (bcopy_any B b m l w h)
  clear h
  go_enter Tryd.func53, Tryd.ntmps53
  go_wp2_with fail
  refine HC.out.mono ?_
  rintro e w1 ⟨rfl, h1, hb1, hk1⟩
  obtain ⟨hB, v, hbk, hown, hne⟩ := h1
  have c0 : w1.cell? ⟨b, 0, none⟩ = some (.pointer (some ⟨b, 0, none⟩)) := by rw [Lib.cell_of_heap hbk]; rfl
  have c1 : w1.cell? ⟨b, 1, none⟩ = some v := by rw [Lib.cell_of_heap hbk]; rfl
  have hsz1 := hb1.size
  have HBK := Lib.hid hbk
  have HOWN := Lib.hid hown
  clear hbk hown
  go_wp2_with (at_builtin; refine Lib.wpList_append_own_stringF _ rfl _ _ 43 9 rfl B 5 i0 Tryd.underlying43 Tryd.underlying9 hi hz0 hz1 hz2 _ _ _ rfl HOWN.out s rfl ?c3 ?c4 ?c5 ?_)
  case c3 => unfold maxLen; omega
  case c4 => omega
  case c5 => omega
  intro v' w2 hown' hgrow _
  have hbk := HBK.out
  have hown := HOWN.out
  have hlt : b < w1.heap.size := (Array.getElem?_eq_some_iff.1 hbk).1
  have hb2 : w2.heap[b]? = some (.cells #[.pointer (some ⟨b, 0, none⟩), v, m] 54 (0, 0)) := by
    rw [hgrow.block b hlt (fun e => hne e.symm)]
    exact hbk
  have d0 : w2.cell? ⟨b, 0, none⟩ = some (.pointer (some ⟨b, 0, none⟩)) := by rw [Lib.cell_of_heap hb2]; rfl
  have d1 : w2.cell? ⟨b, 1, none⟩ = some v := by rw [Lib.cell_of_heap hb2]; rfl
  have f1 : w2.frozen? ⟨b, 1, none⟩ = false := Lib.frozen_of_heap hb2 1
  have HP : Hid (OutAt B b (.pointer (some ⟨b, 0, none⟩)) m (l ++ s.data.toList) (w2.setCell ⟨b, 1, none⟩ v')) := OutAt.put hB hb2 (by
    have e : Lib.byteCells (l ++ s.data.toList) = Lib.byteCells l ++ Lib.strCells s := by simp [Lib.byteCells, Lib.strCells]
    rw [e]
    simpa using hown')
  have HK : Hid (OutK B b w (w2.setCell ⟨b, 1, none⟩ v')) := ⟨(hb1.grown hgrow (by omega) (fun k hk => (hown.lt k hk).1)).setCell (p := ⟨b, 1, none⟩) hB _, (hk1.grown hgrow (Lib.ownsRowF_kind hown)).setCell ⟨b, 1, none⟩ rfl _⟩
  obtain ⟨ao, n', cap, rfl⟩ : ∃ ao n' cap, v' = .slice ao n' cap := by
    rcases hown'.2 with ⟨hv, _⟩ | ⟨g, cap, cur, fz, hv, _⟩
    · exact ⟨_, _, _, hv⟩
    · exact ⟨_, _, _, hv⟩
  clear hbk hown hb2 hown'
  go_wp2
  go_ret2
  exact ⟨rfl, .inr HP.out, HK.out⟩

set_option maxHeartbeats 1000000 in
set_option maxRecDepth 100000 in
theorem blen_any (B b : Nat) (m : Value) (l : List UInt8) (w : World) (h : IsOut B b m l w) :
    Calls Tryd.prog 35 #[.pointer (some ⟨b, 0, none⟩)] w fun e w' => e = .returned (.int .i64 l.length) ∧ w = w' := by
  obtain ⟨p, hB, v, hbk, hown, hne⟩ := h.at
  obtain ⟨ao, cap, rfl⟩ : ∃ ao cap, v = .slice ao l.length cap := by
    rcases hown.2 with ⟨hv, h0⟩ | ⟨g, cap, cur, fz, hv, _⟩
    · exact ⟨none, 0, by rw [hv, h0]⟩
    · exact ⟨_, _, hv⟩
  have c1 : w.cell? ⟨b, 1, none⟩ = some (.slice ao l.length cap) := by rw [Lib.cell_of_heap hbk]; rfl
  clear hbk hown h
  go_enter Tryd.func35, Tryd.ntmps35
  go_wp2
  go_ret
  exact ⟨rfl, rfl⟩

set_option maxHeartbeats 1000000 in
set_option maxRecDepth 100000 in
theorem bstring_any (B b : Nat) (m : Value) (l : List UInt8) (w : World) (h : IsOut B b m l w) (h0 : l ≠ []) :
    Calls Tryd.prog 36 #[.pointer (some ⟨b, 0, none⟩)] w fun e w' => e = .returned (.string ⟨l.toArray⟩) ∧ Below B w w' := by
  obtain ⟨p, hB, v, hbk, hown, hne⟩ := h.at
  have hl0 : l.length ≠ 0 := by simpa using h0
  obtain ⟨g, cap, cur, fz, rfl, hbg, hg, hfz, hnc, hcm, hcs, htake⟩ : ∃ g cap cur fz, v = .slice (some ⟨g, 0, none⟩) l.length cap ∧ B ≤ g ∧ w.heap[g]? = some (.cells cur 5 fz) ∧ fz.2 ≤ l.length * 1 ∧ l.length ≤ cap ∧ cap ≤ maxLen ∧ cur.size = cap * 1 ∧ cur.toList.take (l.length * 1) = Lib.byteCells l := by
    rcases hown.2 with ⟨_, hz⟩ | ⟨g, cap, cur, fz, hv, r⟩
    · exact absurd hz hl0
    · exact ⟨g, cap, cur, fz, hv, r⟩
  have c1 : w.drew.cell? ⟨b, 1, none⟩ = some (.slice (some ⟨g, 0, none⟩) l.length cap) := by
    have : w.drew.heap[b]? = some (.cells #[p, .slice (some ⟨g, 0, none⟩) l.length cap, m] 54 (0, 0)) := hbk
    rw [Lib.cell_of_heap this]; rfl
  have hSD : (Builtin.unsafeSliceData_ #[43] 92 #[.slice (some ⟨g, 0, none⟩) l.length cap]).run Tryd.prog w.drew = .ok (.pointer (some ⟨g, 0, none⟩)) w.drew :=
    Lib.run_unsafeSliceData_row _ _ _ _ _ _ (by omega)
  have hUS : (Builtin.unsafeString_ #[92, 3] 9 #[.pointer (some ⟨g, 0, none⟩), .int .i64 l.length]).run Tryd.prog w.drew = .ok (.string ⟨l.toArray⟩) (w.drew.freeze ⟨g, 0, none⟩ l.length) := by
    refine Lib.run_unsafeString_row w.drew 92 3 9 5 Tryd.underlying92 (by kernel_rfl) g cur.size (by have hg' : w.drew.heap[g]? = some (.cells cur 5 fz) := hg; simp [World.shape?, hg']) l h0 (by omega) (by unfold maxLen at hcm; omega) ?_
    intro j x hx
    have := hown.cells (g := g) rfl j (.int .u8 x.toNat) (by simp [Lib.byteCells, hx])
    exact this
  have HB : Hid (Below B w (w.drew.freeze ⟨g, 0, none⟩ l.length)) := Lib.below_freeze (Below.drew (Below.refl B w)) (p := ⟨g, 0, none⟩) hbg _
  clear hbk hown h hg htake hcs hl0 hfz
  go_enter Tryd.func36, Tryd.ntmps36
  go_wp2
  go_region
  all_goals (go_wp2; go_ret; exact ⟨rfl, HB.out⟩)

end Go.Proofs.YtijkefflpojmhaaDoor

namespace Go.Proofs.YtijkefflpojmhaaDoor
open Go.RowKit

/-- The bytes of strings, one after the other. -/
def catB (ss : List ByteArray) : List UInt8 := ss.flatMap fun s => s.data.toList
theorem catB_take (ss : List ByteArray) (k : Nat) (h : k < ss.length) : catB (ss.take (k + 1)) = catB (ss.take k) ++ ss[k].data.toList := by
  unfold catB
  rw [List.take_succ_eq_append_getElem h, List.flatMap_append]; simp
theorem catB_le (ss : List ByteArray) (k : Nat) : (catB (ss.take k)).length ≤ (catB ss).length := by
  have : catB ss = catB (ss.take k) ++ catB (ss.drop k) := by
    unfold catB
    rw [← List.flatMap_append, List.take_append_drop]
  rw [this, List.length_append]; omega
/-- A writer's end. -/
def WrP (B b : Nat) (m : Value) (l : List UInt8) (w : World) (e : Ending) (w' : World) : Prop := e = .returned (.tuple #[]) ∧ IsOut B b m l w' ∧ OutK B b w w'

set_option maxHeartbeats 2000000 in
set_option maxRecDepth 100000 in
theorem put_any (B b g : Nat) (m : Value) (l : List UInt8) (ss : List ByteArray) (w : World) (n : Nat) (h : IsOut B b m l w) (hg : w.heap[g]? = some (.cells (ss.map Value.string).toArray 9 (0, 0))) (hn : ss.length = n) (hn1 : n ≤ 1000) (hlen : l.length + (catB ss).length ≤ 140737488355328) (hBw : B ≤ w.heap.size) :
    Calls Tryd.prog 32 #[.pointer (some ⟨b, 0, none⟩), .slice (some ⟨g, 0, none⟩) n n] w (WrP B b m (l ++ catB ss) w) := by
  have hgb : g ≠ b := by
    rintro rfl
    obtain ⟨p, _, v, hb, _⟩ := h.at
    rw [hg] at hb
    simp at hb
  have HG := Lib.hid hg
  have HO := Lib.hid h
  have HN := Lib.hid hn
  clear hg h hn
  go_enter Tryd.func32, Tryd.ntmps32
  go_wp2_with fail
  go_loopw [5, 8] (fun _ iv wr => ∃ k : Nat, k ≤ n ∧ iv = .int .i64 (k : Int) ∧ IsOut B b m (l ++ catB (ss.take k)) wr ∧ OutK B b w wr) (fun _ iv _ => n - (intOf iv).toNat)
  case atStart => exact ⟨0, Nat.zero_le _, rfl, by simpa [catB] using HO.out, OutK.refl _ _ _⟩
  case round =>
    obtain ⟨w1, rfl⟩ : ∃ w1 : World, w1 = wr := ⟨_, rfl⟩
    obtain ⟨k, hk, rfl, hio, hok⟩ := hrel
    have hB1 : B ≤ w1.heap.size := Nat.le_trans hBw hok.1.size
    have HIO := Lib.hid hio
    have HOK := Lib.hid hok
    have hg1 : w1.heap[g]? = some (.cells (ss.map Value.string).toArray 9 (0, 0)) := hok.2 g _ HG.out (by simpa using hgb) (by intro c fz e; simp at e)
    have hlt1 : b < w1.heap.size := by obtain ⟨p, hp⟩ := hio.at; exact hp.lt
    clear hio hok
    by_cases hlt : k < n
    · have hlt2 : k < ss.length := by rw [HN.out]; exact hlt
      obtain ⟨s, hs⟩ : ∃ s, s = ss[k] := ⟨_, rfl⟩
      have c0 : w1.cell? ⟨g, k, none⟩ = some (.string s) := by rw [Lib.cell_of_heap hg1, hs]; simp [hlt2]
      have HT : Hid (catB (ss.take (k + 1)) = catB (ss.take k) ++ s.data.toList) := by rw [hs]; exact catB_take ss k hlt2
      have HC := Lib.hid (bwrite_any B b m (l ++ catB (ss.take k)) s w1 HIO.out (by
        have q1 := catB_le ss (k + 1)
        have q2 := HT.out
        have q3 : s.data.toList.length = s.size := by simp
        rw [q2, List.length_append, q3] at q1
        rw [List.length_append]; omega) hB1)
      clear hg1 hs
      go_wp2_with fail
      refine HC.out.mono ?_
      rintro e w2 ⟨rfl, hio2, hok2⟩
      have HIO2 := Lib.hid hio2
      have HOK2 := Lib.hid (HOK.out.trans hok2)
      clear hio2 hok2
      go_wp2_with fail
      go_roundw
      case rel => exact ⟨k + 1, by omega, by go_num, by rw [HT.out, ← List.append_assoc]; exact HIO2.out, HOK2.out⟩
      case measure => simp [intOf] <;> omega
    · have HE : Hid (ss.take k = ss) := Lib.hid (List.take_of_length_le (by rw [HN.out]; omega))
      clear hg1
      go_wp2_with fail
      go_end0
      exact ⟨rfl, by rw [← HE.out]; exact HIO.out, HOK.out⟩

theorem alloc_at (w : World) (o : Obj) : (w.alloc o).heap[w.heap.size]? = some o := by show (w.heap.push o)[w.heap.size]? = _; simp
theorem put1 (B b : Nat) (m : Value) (l : List UInt8) (s : ByteArray) (w : World) (h : IsOut B b m l w) (hlen : l.length + s.size ≤ 140737488355328) (hBw : B ≤ w.heap.size) :
    Calls Tryd.prog 32 #[.pointer (some ⟨b, 0, none⟩), .slice (some ⟨w.heap.size, 0, none⟩) 1 1] (w.alloc (.cells #[.string s] 9)) (WrP B b m (l ++ s.data.toList) w) := by
  have hK := OutK.below (b := b) (own_below w (.cells #[.string s] 9)) hBw
  refine (put_any B b w.heap.size m l [s] _ 1 (h.below (own_below w _)) (alloc_at _ _) rfl (by omega) (by simpa [catB] using hlen) (by simp; omega)).mono ?_
  rintro e w' ⟨rfl, h1, h2⟩
  exact ⟨rfl, by simpa [catB] using h1, hK.trans h2⟩
theorem put2 (B b : Nat) (m : Value) (l : List UInt8) (s t : ByteArray) (w : World) (h : IsOut B b m l w) (hlen : l.length + (s.size + t.size) ≤ 140737488355328) (hBw : B ≤ w.heap.size) :
    Calls Tryd.prog 32 #[.pointer (some ⟨b, 0, none⟩), .slice (some ⟨w.heap.size, 0, none⟩) 2 2] (w.alloc (.cells #[.string s, .string t] 9)) (WrP B b m (l ++ (s.data.toList ++ t.data.toList)) w) := by
  have hK := OutK.below (b := b) (own_below w (.cells #[.string s, .string t] 9)) hBw
  refine (put_any B b w.heap.size m l [s, t] _ 2 (h.below (own_below w _)) (alloc_at _ _) rfl (by omega) (by simpa [catB] using hlen) (by simp; omega)).mono ?_
  rintro e w' ⟨rfl, h1, h2⟩
  exact ⟨rfl, by simpa [catB] using h1, hK.trans h2⟩
theorem put3 (B b : Nat) (m : Value) (l : List UInt8) (s t u : ByteArray) (w : World) (h : IsOut B b m l w) (hlen : l.length + (s.size + (t.size + u.size)) ≤ 140737488355328) (hBw : B ≤ w.heap.size) :
    Calls Tryd.prog 32 #[.pointer (some ⟨b, 0, none⟩), .slice (some ⟨w.heap.size, 0, none⟩) 3 3] (w.alloc (.cells #[.string s, .string t, .string u] 9)) (WrP B b m (l ++ (s.data.toList ++ (t.data.toList ++ u.data.toList))) w) := by
  have hK := OutK.below (b := b) (own_below w (.cells #[.string s, .string t, .string u] 9)) hBw
  refine (put_any B b w.heap.size m l [s, t, u] _ 3 (h.below (own_below w _)) (alloc_at _ _) rfl (by omega) (by simpa [catB] using hlen) (by simp; omega)).mono ?_
  rintro e w' ⟨rfl, h1, h2⟩
  exact ⟨rfl, by simpa [catB] using h1, hK.trans h2⟩

/-- What text returns. -/
def TxP (B : Nat) (l : List UInt8) (w : World) (e : Ending) (w' : World) : Prop :=
  e = .returned (if 20000 < l.length then .tuple #[.string ⟨#[]⟩, .int .i64 4] else .tuple #[.string ⟨l.toArray⟩, .int .i64 0]) ∧ Below B w w'
set_option maxHeartbeats 1000000 in
theorem otext_any (B b : Nat) (m : Value) (l : List UInt8) (w : World) (h : IsOut B b m l w) (h0 : l ≠ []) (hm : l.length ≤ 1000000000) :
    Calls Tryd.prog 21 #[.pointer (some ⟨b, 0, none⟩)] w (TxP B l w) := by
  have HL := Lib.hid (blen_any B b m l w h)
  have HS := Lib.hid (bstring_any B b m l w h h0)
  have hlt1 : b < w.heap.size := by obtain ⟨p, hp⟩ := h.at; exact hp.lt
  unfold TxP
  obtain ⟨n, hn⟩ : ∃ n, n = l.length := ⟨_, rfl⟩
  rw [← hn] at HL hm ⊢
  clear h h0 hn
  by_cases hc : 20000 < n
  · rw [if_pos hc]
    go_enter Tryd.func21, Tryd.ntmps21
    go_wp2_with fail
    refine HL.out.mono ?_
    rintro e w' ⟨rfl, rfl⟩
    go_wp2_with fail
    go_ret2
    exact ⟨rfl, Below.refl _ _⟩
  · rw [if_neg hc]
    go_enter Tryd.func21, Tryd.ntmps21
    go_wp2_with fail
    refine HL.out.mono ?_
    rintro e w' ⟨rfl, rfl⟩
    go_wp2_with fail
    refine HS.out.mono ?_
    rintro e w' ⟨rfl, hb⟩
    have HB := Lib.hid hb
    clear hb
    go_wp2_with fail
    go_ret2
    exact ⟨rfl, HB.out⟩

end Go.Proofs.YtijkefflpojmhaaDoor

namespace Go.Proofs.YtijkefflpojmhaaDoor
open Go.RowKit

theorem run_upd_new (w : World) (es : Array MapEntry) (c : Nat) (k : Int) (val : Value) (hf : Instr.findNow (.int .u8) (.int .u8 k) es.toList 0 = some none) :
    (Instr.mapUpdate 48 (.map (some w.heap.size)) (.int .u8 k) val).run Tryd.prog (w.alloc (.map es c)) = .ok () (w.alloc (.map (es.push ⟨.int .u8 k, val, c⟩) (c + 1))) := by
  have hb : (w.alloc (.map es c)).heap[w.heap.size]? = some (.map es c) := alloc_at _ _
  have hc : (Instr.checkKey false 10000 5 (.int .u8 k)).run Tryd.prog (w.alloc (.map es c)) = .ok () (w.alloc (.map es c)) := MapKept.run_checkKey Tryd.underlying5 (by simp [MapKept.IsKey]) false 9999
  have e : (w.heap.push (Obj.map es c)).setIfInBounds w.heap.size (Obj.map (es.push ⟨.int .u8 k, val, c⟩) (c + 1)) = w.heap.push (Obj.map (es.push ⟨.int .u8 k, val, c⟩) (c + 1)) := by
    apply Array.ext'
    simp [Array.toList_setIfInBounds]
  have hs : (setObj w.heap.size (.map (es.push ⟨.int .u8 k, val, c⟩) (c + 1))).run Tryd.prog (w.alloc (.map es c)) = .ok () (w.alloc (.map (es.push ⟨.int .u8 k, val, c⟩) (c + 1))) := by
    rw [MapKept.run_setObj_map _ hb]
    show Result.ok () { (w.alloc (.map es c)) with heap := (w.heap.push (Obj.map es c)).setIfInBounds w.heap.size _ } = _
    rw [e]; rfl
  simp [Instr.mapUpdate, run_underlying Tryd.underlying48, MapKept.run_getObj_map hb, hc, MapKept.run_findKey Tryd.underlying5 hf, hs, Result.andThen]
theorem run_look_at {W : World} {bm : Nat} {es : Array MapEntry} {c : Nat} (hb : W.heap[bm]? = some (.map es c)) {k : Int} {v : Value} {i : Nat} (hf : Instr.findNow (.int .u8) (.int .u8 k) es.toList 0 = some (some (i, v))) :
    (Instr.lookup 48 (.map (some bm)) (.int .u8 k) false).run Tryd.prog W = .ok v W := by
  have hc : ∀ q, (Instr.checkKey q 10000 5 (.int .u8 k)).run Tryd.prog W = .ok () W := fun q => MapKept.run_checkKey Tryd.underlying5 (by simp [MapKept.IsKey]) q 9999
  simp [Instr.lookup, run_underlying Tryd.underlying48, MapKept.run_getObj_map hb, hc, MapKept.run_findKey Tryd.underlying5 hf, Result.andThen]

/-- The map of the words. -/
def wdEs : Array MapEntry := #[⟨.int .u8 7, .string ⟨#[109, 97, 120]⟩, 0⟩, ⟨.int .u8 8, .string ⟨#[109, 105, 110]⟩, 1⟩, ⟨.int .u8 9, .string ⟨#[99, 97, 115, 101]⟩, 2⟩, ⟨.int .u8 11, .string ⟨#[108, 101, 115, 115]⟩, 3⟩, ⟨.int .u8 12, .string ⟨#[101, 113, 117, 97, 108]⟩, 4⟩, ⟨.int .u8 13, .string ⟨#[97, 110, 100]⟩, 5⟩, ⟨.int .u8 14, .string ⟨#[111, 114]⟩, 6⟩, ⟨.int .u8 15, .string ⟨#[110, 111, 116]⟩, 7⟩]
def WordsAt (m : Value) (w : World) : Prop := ∃ bm, m = .map (some bm) ∧ w.heap[bm]? = some (.map wdEs 8)
theorem WordsAt.keep {B b : Nat} {m : Value} {w w' : World} (h : WordsAt m w) (hk : OutK B b w w') {p : Value} {l : List UInt8} (ho : OutAt B b p m l w) : WordsAt m w' := by
  obtain ⟨bm, rfl, hb⟩ := h
  refine ⟨bm, rfl, hk.2 bm _ hb ?_ (fun _ _ e => by cases e)⟩
  obtain ⟨_, v, h1, _⟩ := ho
  intro e
  injection e with e
  subst e
  rw [hb] at h1
  cases h1
theorem WordsAt.below {m : Value} {w w' : World} (h : WordsAt m w) (hb : Below w.heap.size w w') : WordsAt m w' := by
  obtain ⟨bm, rfl, h1⟩ := h
  exact ⟨bm, rfl, (hb.block _ (Array.getElem?_eq_some_iff.1 h1).1).trans h1⟩
/-- A kind with a word. -/
def HasWd (k : Int) : Prop := k = 7 ∨ k = 8 ∨ k = 9 ∨ k = 11 ∨ k = 12 ∨ k = 13 ∨ k = 14 ∨ k = 15
theorem WordsAt.look {m : Value} {w : World} (h : WordsAt m w) {k : Int} (hk : HasWd k) : (Instr.lookup 48 m (.int .u8 k) false).run Tryd.prog w = .ok (.string ⟨(wdL k).toArray⟩) w := by
  obtain ⟨bm, rfl, hb⟩ := h
  rcases hk with rfl | rfl | rfl | rfl | rfl | rfl | rfl | rfl
  all_goals exact run_look_at hb rfl

def WdP (w : World) (e : Ending) (w' : World) : Prop := ∃ m, e = .returned m ∧ WordsAt m w' ∧ Below w.heap.size w w' ∧ ∃ bm, m = .map (some bm) ∧ w.heap.size ≤ bm
set_option maxHeartbeats 2000000 in
set_option maxRecDepth 100000 in
theorem words_any (w : World) : Calls Tryd.prog 19 #[] w (WdP w) := by
  have hmm := @run_makeMap Tryd.prog
  have u0 : (Instr.mapUpdate 48 (.map (some w.heap.size)) (.int .u8 7) (.string ⟨#[109, 97, 120]⟩)).run Tryd.prog (w.alloc (.map #[] 0)) = .ok () (w.alloc (.map #[⟨.int .u8 7, .string ⟨#[109, 97, 120]⟩, 0⟩] 1)) := run_upd_new w _ _ _ _ rfl
  have u1 : (Instr.mapUpdate 48 (.map (some w.heap.size)) (.int .u8 8) (.string ⟨#[109, 105, 110]⟩)).run Tryd.prog (w.alloc (.map #[⟨.int .u8 7, .string ⟨#[109, 97, 120]⟩, 0⟩] 1)) = .ok () (w.alloc (.map #[⟨.int .u8 7, .string ⟨#[109, 97, 120]⟩, 0⟩, ⟨.int .u8 8, .string ⟨#[109, 105, 110]⟩, 1⟩] 2)) := run_upd_new w _ _ _ _ rfl
  have u2 : (Instr.mapUpdate 48 (.map (some w.heap.size)) (.int .u8 9) (.string ⟨#[99, 97, 115, 101]⟩)).run Tryd.prog (w.alloc (.map #[⟨.int .u8 7, .string ⟨#[109, 97, 120]⟩, 0⟩, ⟨.int .u8 8, .string ⟨#[109, 105, 110]⟩, 1⟩] 2)) = .ok () (w.alloc (.map #[⟨.int .u8 7, .string ⟨#[109, 97, 120]⟩, 0⟩, ⟨.int .u8 8, .string ⟨#[109, 105, 110]⟩, 1⟩, ⟨.int .u8 9, .string ⟨#[99, 97, 115, 101]⟩, 2⟩] 3)) := run_upd_new w _ _ _ _ rfl
  have u3 : (Instr.mapUpdate 48 (.map (some w.heap.size)) (.int .u8 11) (.string ⟨#[108, 101, 115, 115]⟩)).run Tryd.prog (w.alloc (.map #[⟨.int .u8 7, .string ⟨#[109, 97, 120]⟩, 0⟩, ⟨.int .u8 8, .string ⟨#[109, 105, 110]⟩, 1⟩, ⟨.int .u8 9, .string ⟨#[99, 97, 115, 101]⟩, 2⟩] 3)) = .ok () (w.alloc (.map #[⟨.int .u8 7, .string ⟨#[109, 97, 120]⟩, 0⟩, ⟨.int .u8 8, .string ⟨#[109, 105, 110]⟩, 1⟩, ⟨.int .u8 9, .string ⟨#[99, 97, 115, 101]⟩, 2⟩, ⟨.int .u8 11, .string ⟨#[108, 101, 115, 115]⟩, 3⟩] 4)) := run_upd_new w _ _ _ _ rfl
  have u4 : (Instr.mapUpdate 48 (.map (some w.heap.size)) (.int .u8 12) (.string ⟨#[101, 113, 117, 97, 108]⟩)).run Tryd.prog (w.alloc (.map #[⟨.int .u8 7, .string ⟨#[109, 97, 120]⟩, 0⟩, ⟨.int .u8 8, .string ⟨#[109, 105, 110]⟩, 1⟩, ⟨.int .u8 9, .string ⟨#[99, 97, 115, 101]⟩, 2⟩, ⟨.int .u8 11, .string ⟨#[108, 101, 115, 115]⟩, 3⟩] 4)) = .ok () (w.alloc (.map #[⟨.int .u8 7, .string ⟨#[109, 97, 120]⟩, 0⟩, ⟨.int .u8 8, .string ⟨#[109, 105, 110]⟩, 1⟩, ⟨.int .u8 9, .string ⟨#[99, 97, 115, 101]⟩, 2⟩, ⟨.int .u8 11, .string ⟨#[108, 101, 115, 115]⟩, 3⟩, ⟨.int .u8 12, .string ⟨#[101, 113, 117, 97, 108]⟩, 4⟩] 5)) := run_upd_new w _ _ _ _ rfl
  have u5 : (Instr.mapUpdate 48 (.map (some w.heap.size)) (.int .u8 13) (.string ⟨#[97, 110, 100]⟩)).run Tryd.prog (w.alloc (.map #[⟨.int .u8 7, .string ⟨#[109, 97, 120]⟩, 0⟩, ⟨.int .u8 8, .string ⟨#[109, 105, 110]⟩, 1⟩, ⟨.int .u8 9, .string ⟨#[99, 97, 115, 101]⟩, 2⟩, ⟨.int .u8 11, .string ⟨#[108, 101, 115, 115]⟩, 3⟩, ⟨.int .u8 12, .string ⟨#[101, 113, 117, 97, 108]⟩, 4⟩] 5)) = .ok () (w.alloc (.map #[⟨.int .u8 7, .string ⟨#[109, 97, 120]⟩, 0⟩, ⟨.int .u8 8, .string ⟨#[109, 105, 110]⟩, 1⟩, ⟨.int .u8 9, .string ⟨#[99, 97, 115, 101]⟩, 2⟩, ⟨.int .u8 11, .string ⟨#[108, 101, 115, 115]⟩, 3⟩, ⟨.int .u8 12, .string ⟨#[101, 113, 117, 97, 108]⟩, 4⟩, ⟨.int .u8 13, .string ⟨#[97, 110, 100]⟩, 5⟩] 6)) := run_upd_new w _ _ _ _ rfl
  have u6 : (Instr.mapUpdate 48 (.map (some w.heap.size)) (.int .u8 14) (.string ⟨#[111, 114]⟩)).run Tryd.prog (w.alloc (.map #[⟨.int .u8 7, .string ⟨#[109, 97, 120]⟩, 0⟩, ⟨.int .u8 8, .string ⟨#[109, 105, 110]⟩, 1⟩, ⟨.int .u8 9, .string ⟨#[99, 97, 115, 101]⟩, 2⟩, ⟨.int .u8 11, .string ⟨#[108, 101, 115, 115]⟩, 3⟩, ⟨.int .u8 12, .string ⟨#[101, 113, 117, 97, 108]⟩, 4⟩, ⟨.int .u8 13, .string ⟨#[97, 110, 100]⟩, 5⟩] 6)) = .ok () (w.alloc (.map #[⟨.int .u8 7, .string ⟨#[109, 97, 120]⟩, 0⟩, ⟨.int .u8 8, .string ⟨#[109, 105, 110]⟩, 1⟩, ⟨.int .u8 9, .string ⟨#[99, 97, 115, 101]⟩, 2⟩, ⟨.int .u8 11, .string ⟨#[108, 101, 115, 115]⟩, 3⟩, ⟨.int .u8 12, .string ⟨#[101, 113, 117, 97, 108]⟩, 4⟩, ⟨.int .u8 13, .string ⟨#[97, 110, 100]⟩, 5⟩, ⟨.int .u8 14, .string ⟨#[111, 114]⟩, 6⟩] 7)) := run_upd_new w _ _ _ _ rfl
  have u7 : (Instr.mapUpdate 48 (.map (some w.heap.size)) (.int .u8 15) (.string ⟨#[110, 111, 116]⟩)).run Tryd.prog (w.alloc (.map #[⟨.int .u8 7, .string ⟨#[109, 97, 120]⟩, 0⟩, ⟨.int .u8 8, .string ⟨#[109, 105, 110]⟩, 1⟩, ⟨.int .u8 9, .string ⟨#[99, 97, 115, 101]⟩, 2⟩, ⟨.int .u8 11, .string ⟨#[108, 101, 115, 115]⟩, 3⟩, ⟨.int .u8 12, .string ⟨#[101, 113, 117, 97, 108]⟩, 4⟩, ⟨.int .u8 13, .string ⟨#[97, 110, 100]⟩, 5⟩, ⟨.int .u8 14, .string ⟨#[111, 114]⟩, 6⟩] 7)) = .ok () (w.alloc (.map #[⟨.int .u8 7, .string ⟨#[109, 97, 120]⟩, 0⟩, ⟨.int .u8 8, .string ⟨#[109, 105, 110]⟩, 1⟩, ⟨.int .u8 9, .string ⟨#[99, 97, 115, 101]⟩, 2⟩, ⟨.int .u8 11, .string ⟨#[108, 101, 115, 115]⟩, 3⟩, ⟨.int .u8 12, .string ⟨#[101, 113, 117, 97, 108]⟩, 4⟩, ⟨.int .u8 13, .string ⟨#[97, 110, 100]⟩, 5⟩, ⟨.int .u8 14, .string ⟨#[111, 114]⟩, 6⟩, ⟨.int .u8 15, .string ⟨#[110, 111, 116]⟩, 7⟩] 8)) := run_upd_new w _ _ _ _ rfl
  have HF : Hid (WdP w (.returned (.map (some w.heap.size))) (w.alloc (.map wdEs 8))) := ⟨_, rfl, ⟨_, rfl, alloc_at _ _⟩, own_below _ _, _, rfl, Nat.le_refl _⟩
  go_enter Tryd.func19, Tryd.ntmps19
  go_wp2_with fail
  go_ret
  exact HF.out

end Go.Proofs.YtijkefflpojmhaaDoor

namespace Go.Proofs.YtijkefflpojmhaaDoor
open Go.RowKit

/-- Of these kinds, days, parts. -/
def OkX : Nat → Ex → Prop
  | 0, _ => False
  | n + 1, x => (x.kind = 1 ∨ (x.kind = 2 ∧ 0 ≤ x.date ∧ x.date ≤ 99999) ∨ x.kind = 3 ∨ ((x.kind = 4 ∨ x.kind = 5 ∨ x.kind = 6) ∧ x.sub.length = 2) ∨ (HasWd x.kind ∧ x.sub.length ≤ 3)) ∧ ∀ y ∈ x.sub, OkX n y
/-- What stands while a text is written: the tree's memory (Wb), the collector, its words. -/
structure OutEnv (Wb : World) (B b : Nat) (m : Value) (l : List UInt8) (w : World) : Prop where
  base : Wb.heap.size ≤ B
  old : Below Wb.heap.size Wb w
  out : IsOut B b m l w
  words : WordsAt m w
  size : B ≤ w.heap.size
theorem OutEnv.step {Wb : World} {B b : Nat} {m : Value} {l l' : List UInt8} {w w' : World} (h : OutEnv Wb B b m l w) (ho : IsOut B b m l' w') (hk : OutK B b w w') : OutEnv Wb B b m l' w' := by
  obtain ⟨p, hp⟩ := h.out.at
  exact ⟨h.base, h.old.trans (hk.1.mono h.base), ho, h.words.keep hk hp, Nat.le_trans h.size hk.1.size⟩
theorem OutEnv.below {Wb : World} {B b : Nat} {m : Value} {l : List UInt8} {w w' : World} (h : OutEnv Wb B b m l w) (hb : Below w.heap.size w w') : OutEnv Wb B b m l w' :=
  ⟨h.base, h.old.trans (hb.mono (Nat.le_trans h.base h.size)), h.out.below hb, h.words.below hb, Nat.le_trans h.size hb.size⟩
theorem OutEnv.lt {Wb : World} {B b : Nat} {m : Value} {l : List UInt8} {w : World} (h : OutEnv Wb B b m l w) : b < w.heap.size := by
  obtain ⟨p, hp⟩ := h.out.at; exact hp.lt
/-- A part's cells, in a later world. -/
theorem ExAt.part {n : Nat} {w w1 : World} {g o k : Nat} {x : Ex} (hg : g < w.heap.size) (hb : Below w.heap.size w w1) (hk : k < x.sub.length)
    (hel : ∀ i (hi : i < x.sub.length), ∃ cs', (∀ j, j < 5 → w.cell? ⟨g, o + i * 5 + j, none⟩ = cs'[j]?) ∧ ExAt n w cs' x.sub[i]) :
    ∃ a l c, (w1.cell? ⟨g, o + k * 5, none⟩ = some (.int .u8 x.sub[k].kind) ∧ w1.cell? ⟨g, o + k * 5 + 1, none⟩ = some (.string x.sub[k].rat) ∧ w1.cell? ⟨g, o + k * 5 + 2, none⟩ = some (.string x.sub[k].name) ∧ w1.cell? ⟨g, o + k * 5 + 3, none⟩ = some (.int .i64 x.sub[k].date) ∧ w1.cell? ⟨g, o + k * 5 + 4, none⟩ = some (.slice a l c)) ∧
      ExAt n w [.int .u8 x.sub[k].kind, .string x.sub[k].rat, .string x.sub[k].name, .int .i64 x.sub[k].date, .slice a l c] x.sub[k] := by
  obtain ⟨cs', hcell, hx⟩ := hel k hk
  obtain ⟨a, l, c, hcs, _⟩ := hx.shape
  have hat : ∀ j, j < 5 → w1.cell? ⟨g, o + k * 5 + j, none⟩ = cs'[j]? := fun j hj => ((bcell hb).1 g _ hg).trans (hcell j hj)
  rw [hcs] at hat hx
  exact ⟨a, l, c, ⟨hat 0 (by omega), hat 1 (by omega), hat 2 (by omega), hat 3 (by omega), hat 4 (by omega)⟩, hx⟩
/-- The contract of expr at trees of a depth. -/
def ExprC (Wb : World) (B b : Nat) (m : Value) (n : Nat) : Prop :=
  ∀ (x : Ex) (cs : List Value) (least : Int) (l : List UInt8) (w : World), ExAt n Wb cs x → OkX n x → 0 ≤ least → least ≤ 2 → OutEnv Wb B b m l w → l.length + (pexT n x least).length ≤ 1000000000 →
    Calls Tryd.prog 23 #[.pointer (some ⟨b, 0, none⟩), .agg cs.toArray, .int .i64 least] w (WrP B b m (l ++ pexT n x least) w)
theorem boxed_kept {w w' : World} {B b i : Nat} {a0 a1 a2 a3 a4 : Value} (h : w.heap[i]? = some (.cells #[a0, a1, a2, a3, a4] 25)) (hk : OutK B b w w') (hib : i ≠ b) : w'.heap[i]? = some (.cells #[a0, a1, a2, a3, a4] 25) :=
  hk.2 i _ h (by simpa using hib) (by intro c fz e; simp at e)

set_option maxHeartbeats 4000000 in
set_option maxRecDepth 100000 in
theorem expr_op4_0 {Wb : World} {B b : Nat} {m : Value} {n : Nat} (ih : ExprC Wb B b m n) (r nm : ByteArray) (d : Int) (x0 x1 : Ex) (cs : List Value) (least : Int) (l : List UInt8) (w : World)
    (h : ExAt (n + 1) Wb cs (Ex.mk 4 r nm d [x0, x1])) (ho0 : OkX n x0) (ho1 : OkX n x1) (hl : least = 0) (he : OutEnv Wb B b m l w) (hlen : l.length + (pexT (n + 1) (Ex.mk 4 r nm d [x0, x1]) least).length ≤ 1000000000) :
    Calls Tryd.prog 23 #[.pointer (some ⟨b, 0, none⟩), .agg cs.toArray, .int .i64 least] w (WrP B b m (l ++ pexT (n + 1) (Ex.mk 4 r nm d [x0, x1]) least) w) := by
  subst hl
  have hpt : pexT (n + 1) (Ex.mk 4 r nm d [x0, x1]) 0 = pexT n x0 0 ++ ([32, 43, 32] ++ pexT n x1 1) := by
    rw [pexT]; simp [parT, opO, opS, opN, Ex.kind, prt, Ex.sub]
  rw [hpt] at hlen ⊢
  obtain ⟨t0, ht0⟩ : ∃ t, t = pexT n x0 0 := ⟨_, rfl⟩
  obtain ⟨t1, ht1⟩ : ∃ t, t = pexT n x1 1 := ⟨_, rfl⟩
  rw [← ht0, ← ht1] at hlen ⊢
  simp only [List.length_append, List.length_cons, List.length_nil] at hlen
  obtain ⟨a, len, cap, rfl, hlen2, hsub⟩ := h
  obtain rfl : len = 2 := hlen2.symm
  rcases hsub with h0 | ⟨g, o, rfl, hg, hel⟩
  · omega
  have HOP : Hid (∀ W, Calls Tryd.prog 40 #[.int .u8 4] W (fun e w' => e = .returned (.tuple #[.string (ByteArray.mk #[32, 43, 32]), .int .i64 0, .int .i64 1]) ∧ W = w')) := fun W => oper_any 4 W
  have HI := Lib.hid ih
  have HE := Lib.hid hel
  have HG := Lib.hid hg
  have HO0 := Lib.hid ho0
  have HO1 := Lib.hid ho1
  have HT0 := Lib.hid ht0
  have HT1 := Lib.hid ht1
  have HEN := Lib.hid he
  have hbw := he.lt
  clear ih hel hg ho0 ho1 ht0 ht1 hlen2 hpt
  show Calls Tryd.prog 23 #[.pointer (some ⟨b, 0, none⟩), .agg #[.int .u8 4, .string r, .string nm, .int .i64 d, .slice (some ⟨g, o, none⟩) 2 cap], .int .i64 0] w _
  go_enter Tryd.func23, Tryd.ntmps23
  go_wp2_with fail
  refine (HOP.out _).mono ?_
  rintro e w' ⟨rfl, rfl⟩
  obtain ⟨W0, hW0⟩ : ∃ W0, W0 = w.alloc (.cells #[.int .u8 4, .string r, .string nm, .int .i64 d, .slice (some ⟨g, o, none⟩) 2 cap] 25) := ⟨_, rfl⟩
  have hbx : W0.heap[w.heap.size]? = some (.cells #[.int .u8 4, .string r, .string nm, .int .i64 d, .slice (some ⟨g, o, none⟩) 2 cap] 25) := by rw [hW0]; exact alloc_at _ _
  have hE0 : OutEnv Wb B b m l W0 := by rw [hW0]; exact HEN.out.below (own_below w _)
  have hK0 : OutK B b w W0 := by rw [hW0]; exact OutK.below (own_below w _) HEN.out.size
  rw [← hW0]
  have HE0 := Lib.hid hE0
  have HBX := Lib.hid hbx
  have HK0 := Lib.hid hK0
  obtain ⟨p0, l0, c0, ⟨e00, e01, e02, e03, e04⟩, hx0⟩ := ExAt.part (k := 0) (x := Ex.mk 4 r nm d [x0, x1]) HG.out hE0.old (show 0 < 2 by decide) HE.out
  simp only [Nat.zero_mul, Nat.add_zero, Ex.sub, List.getElem_cons_zero] at e00 e01 e02 e03 e04 hx0
  have b4 : W0.cell? ⟨w.heap.size, 4, none⟩ = some (.slice (some ⟨g, o, none⟩) 2 cap) := (exCells hbx).2.2.2.2
  have HC0 := Lib.hid (HI.out x0 _ 0 l W0 hx0 HO0.out (by omega) (by omega) hE0 (by rw [← HT0.out]; omega))
  rw [← HT0.out] at HC0
  clear hW0 hbx hE0 hK0 hx0
  go_wp2_with fail
  refine HC0.out.mono ?_
  rintro e W1 ⟨rfl, hio1, hok1⟩
  have hE1 := HE0.out.step hio1 hok1
  have HBX1 := Lib.hid (boxed_kept HBX.out hok1 (by omega))
  have HK1 := Lib.hid (HK0.out.trans hok1)
  have HE1 := Lib.hid hE1
  have HC1 := Lib.hid (put1 B b m (l ++ t0) (ByteArray.mk #[32, 43, 32]) W1 hio1 (by show (l ++ t0).length + 3 ≤ _; rw [List.length_append]; omega) hE1.size)
  have b4' : W1.cell? ⟨w.heap.size, 4, none⟩ = some (.slice (some ⟨g, o, none⟩) 2 cap) := (exCells HBX1.out).2.2.2.2
  clear hio1 hok1 hE1 e00 e01 e02 e03 e04 b4
  go_wp2_with fail
  refine HC1.out.mono ?_
  rintro e W2 ⟨rfl, hio2, hok2⟩
  have hE2 := HE1.out.step hio2 hok2
  have HBX2 := Lib.hid (boxed_kept HBX1.out hok2 (by omega))
  have HK2 := Lib.hid (HK1.out.trans hok2)
  obtain ⟨p1, l1, c1, ⟨f0, f1, f2, f3, f4⟩, hx1⟩ := ExAt.part (k := 1) (x := Ex.mk 4 r nm d [x0, x1]) HG.out hE2.old (show 1 < 2 by decide) HE.out
  simp only [Nat.one_mul, Ex.sub, List.getElem_cons_succ, List.getElem_cons_zero] at f0 f1 f2 f3 f4 hx1
  have b4'' : W2.cell? ⟨w.heap.size, 4, none⟩ = some (.slice (some ⟨g, o, none⟩) 2 cap) := (exCells HBX2.out).2.2.2.2
  have HC2 := Lib.hid (HI.out x1 _ 1 _ W2 hx1 HO1.out (by omega) (by omega) hE2 (by rw [← HT1.out]; simp only [List.length_append]; show l.length + t0.length + 3 + _ ≤ _; omega))
  rw [← HT1.out] at HC2
  clear hio2 hok2 hE2 hx1 b4'
  go_wp2_with fail
  refine HC2.out.mono ?_
  rintro e W3 ⟨rfl, hio3, hok3⟩
  have HF : Hid (WrP B b m (l ++ (t0 ++ ([32, 43, 32] ++ t1))) w (.returned (.tuple #[])) W3) := ⟨rfl, by simpa [List.append_assoc] using hio3, HK2.out.trans hok3⟩
  clear hio3 hok3 f0 f1 f2 f3 f4 b4''
  go_wp2_with fail
  go_end0
  exact HF.out

set_option maxHeartbeats 4000000 in
set_option maxRecDepth 100000 in
theorem expr_op5_0 {Wb : World} {B b : Nat} {m : Value} {n : Nat} (ih : ExprC Wb B b m n) (r nm : ByteArray) (d : Int) (x0 x1 : Ex) (cs : List Value) (least : Int) (l : List UInt8) (w : World)
    (h : ExAt (n + 1) Wb cs (Ex.mk 5 r nm d [x0, x1])) (ho0 : OkX n x0) (ho1 : OkX n x1) (hl : least = 0) (he : OutEnv Wb B b m l w) (hlen : l.length + (pexT (n + 1) (Ex.mk 5 r nm d [x0, x1]) least).length ≤ 1000000000) :
    Calls Tryd.prog 23 #[.pointer (some ⟨b, 0, none⟩), .agg cs.toArray, .int .i64 least] w (WrP B b m (l ++ pexT (n + 1) (Ex.mk 5 r nm d [x0, x1]) least) w) := by
  subst hl
  have hpt : pexT (n + 1) (Ex.mk 5 r nm d [x0, x1]) 0 = pexT n x0 0 ++ ([32, 45, 32] ++ pexT n x1 1) := by
    rw [pexT]; simp [parT, opO, opS, opN, Ex.kind, prt, Ex.sub]
  rw [hpt] at hlen ⊢
  obtain ⟨t0, ht0⟩ : ∃ t, t = pexT n x0 0 := ⟨_, rfl⟩
  obtain ⟨t1, ht1⟩ : ∃ t, t = pexT n x1 1 := ⟨_, rfl⟩
  rw [← ht0, ← ht1] at hlen ⊢
  simp only [List.length_append, List.length_cons, List.length_nil] at hlen
  obtain ⟨a, len, cap, rfl, hlen2, hsub⟩ := h
  obtain rfl : len = 2 := hlen2.symm
  rcases hsub with h0 | ⟨g, o, rfl, hg, hel⟩
  · omega
  have HOP : Hid (∀ W, Calls Tryd.prog 40 #[.int .u8 5] W (fun e w' => e = .returned (.tuple #[.string (ByteArray.mk #[32, 45, 32]), .int .i64 0, .int .i64 1]) ∧ W = w')) := fun W => oper_any 5 W
  have HI := Lib.hid ih
  have HE := Lib.hid hel
  have HG := Lib.hid hg
  have HO0 := Lib.hid ho0
  have HO1 := Lib.hid ho1
  have HT0 := Lib.hid ht0
  have HT1 := Lib.hid ht1
  have HEN := Lib.hid he
  have hbw := he.lt
  clear ih hel hg ho0 ho1 ht0 ht1 hlen2 hpt
  show Calls Tryd.prog 23 #[.pointer (some ⟨b, 0, none⟩), .agg #[.int .u8 5, .string r, .string nm, .int .i64 d, .slice (some ⟨g, o, none⟩) 2 cap], .int .i64 0] w _
  go_enter Tryd.func23, Tryd.ntmps23
  go_wp2_with fail
  refine (HOP.out _).mono ?_
  rintro e w' ⟨rfl, rfl⟩
  obtain ⟨W0, hW0⟩ : ∃ W0, W0 = w.alloc (.cells #[.int .u8 5, .string r, .string nm, .int .i64 d, .slice (some ⟨g, o, none⟩) 2 cap] 25) := ⟨_, rfl⟩
  have hbx : W0.heap[w.heap.size]? = some (.cells #[.int .u8 5, .string r, .string nm, .int .i64 d, .slice (some ⟨g, o, none⟩) 2 cap] 25) := by rw [hW0]; exact alloc_at _ _
  have hE0 : OutEnv Wb B b m l W0 := by rw [hW0]; exact HEN.out.below (own_below w _)
  have hK0 : OutK B b w W0 := by rw [hW0]; exact OutK.below (own_below w _) HEN.out.size
  rw [← hW0]
  have HE0 := Lib.hid hE0
  have HBX := Lib.hid hbx
  have HK0 := Lib.hid hK0
  obtain ⟨p0, l0, c0, ⟨e00, e01, e02, e03, e04⟩, hx0⟩ := ExAt.part (k := 0) (x := Ex.mk 5 r nm d [x0, x1]) HG.out hE0.old (show 0 < 2 by decide) HE.out
  simp only [Nat.zero_mul, Nat.add_zero, Ex.sub, List.getElem_cons_zero] at e00 e01 e02 e03 e04 hx0
  have b4 : W0.cell? ⟨w.heap.size, 4, none⟩ = some (.slice (some ⟨g, o, none⟩) 2 cap) := (exCells hbx).2.2.2.2
  have HC0 := Lib.hid (HI.out x0 _ 0 l W0 hx0 HO0.out (by omega) (by omega) hE0 (by rw [← HT0.out]; omega))
  rw [← HT0.out] at HC0
  clear hW0 hbx hE0 hK0 hx0
  go_wp2_with fail
  refine HC0.out.mono ?_
  rintro e W1 ⟨rfl, hio1, hok1⟩
  have hE1 := HE0.out.step hio1 hok1
  have HBX1 := Lib.hid (boxed_kept HBX.out hok1 (by omega))
  have HK1 := Lib.hid (HK0.out.trans hok1)
  have HE1 := Lib.hid hE1
  have HC1 := Lib.hid (put1 B b m (l ++ t0) (ByteArray.mk #[32, 45, 32]) W1 hio1 (by show (l ++ t0).length + 3 ≤ _; rw [List.length_append]; omega) hE1.size)
  have b4' : W1.cell? ⟨w.heap.size, 4, none⟩ = some (.slice (some ⟨g, o, none⟩) 2 cap) := (exCells HBX1.out).2.2.2.2
  clear hio1 hok1 hE1 e00 e01 e02 e03 e04 b4
  go_wp2_with fail
  refine HC1.out.mono ?_
  rintro e W2 ⟨rfl, hio2, hok2⟩
  have hE2 := HE1.out.step hio2 hok2
  have HBX2 := Lib.hid (boxed_kept HBX1.out hok2 (by omega))
  have HK2 := Lib.hid (HK1.out.trans hok2)
  obtain ⟨p1, l1, c1, ⟨f0, f1, f2, f3, f4⟩, hx1⟩ := ExAt.part (k := 1) (x := Ex.mk 5 r nm d [x0, x1]) HG.out hE2.old (show 1 < 2 by decide) HE.out
  simp only [Nat.one_mul, Ex.sub, List.getElem_cons_succ, List.getElem_cons_zero] at f0 f1 f2 f3 f4 hx1
  have b4'' : W2.cell? ⟨w.heap.size, 4, none⟩ = some (.slice (some ⟨g, o, none⟩) 2 cap) := (exCells HBX2.out).2.2.2.2
  have HC2 := Lib.hid (HI.out x1 _ 1 _ W2 hx1 HO1.out (by omega) (by omega) hE2 (by rw [← HT1.out]; simp only [List.length_append]; show l.length + t0.length + 3 + _ ≤ _; omega))
  rw [← HT1.out] at HC2
  clear hio2 hok2 hE2 hx1 b4'
  go_wp2_with fail
  refine HC2.out.mono ?_
  rintro e W3 ⟨rfl, hio3, hok3⟩
  have HF : Hid (WrP B b m (l ++ (t0 ++ ([32, 45, 32] ++ t1))) w (.returned (.tuple #[])) W3) := ⟨rfl, by simpa [List.append_assoc] using hio3, HK2.out.trans hok3⟩
  clear hio3 hok3 f0 f1 f2 f3 f4 b4''
  go_wp2_with fail
  go_end0
  exact HF.out

set_option maxHeartbeats 4000000 in
set_option maxRecDepth 100000 in
theorem expr_op6_0 {Wb : World} {B b : Nat} {m : Value} {n : Nat} (ih : ExprC Wb B b m n) (r nm : ByteArray) (d : Int) (x0 x1 : Ex) (cs : List Value) (least : Int) (l : List UInt8) (w : World)
    (h : ExAt (n + 1) Wb cs (Ex.mk 6 r nm d [x0, x1])) (ho0 : OkX n x0) (ho1 : OkX n x1) (hl : least = 0) (he : OutEnv Wb B b m l w) (hlen : l.length + (pexT (n + 1) (Ex.mk 6 r nm d [x0, x1]) least).length ≤ 1000000000) :
    Calls Tryd.prog 23 #[.pointer (some ⟨b, 0, none⟩), .agg cs.toArray, .int .i64 least] w (WrP B b m (l ++ pexT (n + 1) (Ex.mk 6 r nm d [x0, x1]) least) w) := by
  subst hl
  have hpt : pexT (n + 1) (Ex.mk 6 r nm d [x0, x1]) 0 = pexT n x0 1 ++ ([32, 42, 32] ++ pexT n x1 2) := by
    rw [pexT]; simp [parT, opO, opS, opN, Ex.kind, prt, Ex.sub]
  rw [hpt] at hlen ⊢
  obtain ⟨t0, ht0⟩ : ∃ t, t = pexT n x0 1 := ⟨_, rfl⟩
  obtain ⟨t1, ht1⟩ : ∃ t, t = pexT n x1 2 := ⟨_, rfl⟩
  rw [← ht0, ← ht1] at hlen ⊢
  simp only [List.length_append, List.length_cons, List.length_nil] at hlen
  obtain ⟨a, len, cap, rfl, hlen2, hsub⟩ := h
  obtain rfl : len = 2 := hlen2.symm
  rcases hsub with h0 | ⟨g, o, rfl, hg, hel⟩
  · omega
  have HOP : Hid (∀ W, Calls Tryd.prog 40 #[.int .u8 6] W (fun e w' => e = .returned (.tuple #[.string (ByteArray.mk #[32, 42, 32]), .int .i64 1, .int .i64 2]) ∧ W = w')) := fun W => oper_any 6 W
  have HI := Lib.hid ih
  have HE := Lib.hid hel
  have HG := Lib.hid hg
  have HO0 := Lib.hid ho0
  have HO1 := Lib.hid ho1
  have HT0 := Lib.hid ht0
  have HT1 := Lib.hid ht1
  have HEN := Lib.hid he
  have hbw := he.lt
  clear ih hel hg ho0 ho1 ht0 ht1 hlen2 hpt
  show Calls Tryd.prog 23 #[.pointer (some ⟨b, 0, none⟩), .agg #[.int .u8 6, .string r, .string nm, .int .i64 d, .slice (some ⟨g, o, none⟩) 2 cap], .int .i64 0] w _
  go_enter Tryd.func23, Tryd.ntmps23
  go_wp2_with fail
  refine (HOP.out _).mono ?_
  rintro e w' ⟨rfl, rfl⟩
  obtain ⟨W0, hW0⟩ : ∃ W0, W0 = w.alloc (.cells #[.int .u8 6, .string r, .string nm, .int .i64 d, .slice (some ⟨g, o, none⟩) 2 cap] 25) := ⟨_, rfl⟩
  have hbx : W0.heap[w.heap.size]? = some (.cells #[.int .u8 6, .string r, .string nm, .int .i64 d, .slice (some ⟨g, o, none⟩) 2 cap] 25) := by rw [hW0]; exact alloc_at _ _
  have hE0 : OutEnv Wb B b m l W0 := by rw [hW0]; exact HEN.out.below (own_below w _)
  have hK0 : OutK B b w W0 := by rw [hW0]; exact OutK.below (own_below w _) HEN.out.size
  rw [← hW0]
  have HE0 := Lib.hid hE0
  have HBX := Lib.hid hbx
  have HK0 := Lib.hid hK0
  obtain ⟨p0, l0, c0, ⟨e00, e01, e02, e03, e04⟩, hx0⟩ := ExAt.part (k := 0) (x := Ex.mk 6 r nm d [x0, x1]) HG.out hE0.old (show 0 < 2 by decide) HE.out
  simp only [Nat.zero_mul, Nat.add_zero, Ex.sub, List.getElem_cons_zero] at e00 e01 e02 e03 e04 hx0
  have b4 : W0.cell? ⟨w.heap.size, 4, none⟩ = some (.slice (some ⟨g, o, none⟩) 2 cap) := (exCells hbx).2.2.2.2
  have HC0 := Lib.hid (HI.out x0 _ 1 l W0 hx0 HO0.out (by omega) (by omega) hE0 (by rw [← HT0.out]; omega))
  rw [← HT0.out] at HC0
  clear hW0 hbx hE0 hK0 hx0
  go_wp2_with fail
  refine HC0.out.mono ?_
  rintro e W1 ⟨rfl, hio1, hok1⟩
  have hE1 := HE0.out.step hio1 hok1
  have HBX1 := Lib.hid (boxed_kept HBX.out hok1 (by omega))
  have HK1 := Lib.hid (HK0.out.trans hok1)
  have HE1 := Lib.hid hE1
  have HC1 := Lib.hid (put1 B b m (l ++ t0) (ByteArray.mk #[32, 42, 32]) W1 hio1 (by show (l ++ t0).length + 3 ≤ _; rw [List.length_append]; omega) hE1.size)
  have b4' : W1.cell? ⟨w.heap.size, 4, none⟩ = some (.slice (some ⟨g, o, none⟩) 2 cap) := (exCells HBX1.out).2.2.2.2
  clear hio1 hok1 hE1 e00 e01 e02 e03 e04 b4
  go_wp2_with fail
  refine HC1.out.mono ?_
  rintro e W2 ⟨rfl, hio2, hok2⟩
  have hE2 := HE1.out.step hio2 hok2
  have HBX2 := Lib.hid (boxed_kept HBX1.out hok2 (by omega))
  have HK2 := Lib.hid (HK1.out.trans hok2)
  obtain ⟨p1, l1, c1, ⟨f0, f1, f2, f3, f4⟩, hx1⟩ := ExAt.part (k := 1) (x := Ex.mk 6 r nm d [x0, x1]) HG.out hE2.old (show 1 < 2 by decide) HE.out
  simp only [Nat.one_mul, Ex.sub, List.getElem_cons_succ, List.getElem_cons_zero] at f0 f1 f2 f3 f4 hx1
  have b4'' : W2.cell? ⟨w.heap.size, 4, none⟩ = some (.slice (some ⟨g, o, none⟩) 2 cap) := (exCells HBX2.out).2.2.2.2
  have HC2 := Lib.hid (HI.out x1 _ 2 _ W2 hx1 HO1.out (by omega) (by omega) hE2 (by rw [← HT1.out]; simp only [List.length_append]; show l.length + t0.length + 3 + _ ≤ _; omega))
  rw [← HT1.out] at HC2
  clear hio2 hok2 hE2 hx1 b4'
  go_wp2_with fail
  refine HC2.out.mono ?_
  rintro e W3 ⟨rfl, hio3, hok3⟩
  have HF : Hid (WrP B b m (l ++ (t0 ++ ([32, 42, 32] ++ t1))) w (.returned (.tuple #[])) W3) := ⟨rfl, by simpa [List.append_assoc] using hio3, HK2.out.trans hok3⟩
  clear hio3 hok3 f0 f1 f2 f3 f4 b4''
  go_wp2_with fail
  go_end0
  exact HF.out

set_option maxHeartbeats 4000000 in
set_option maxRecDepth 100000 in
theorem expr_op6_1 {Wb : World} {B b : Nat} {m : Value} {n : Nat} (ih : ExprC Wb B b m n) (r nm : ByteArray) (d : Int) (x0 x1 : Ex) (cs : List Value) (least : Int) (l : List UInt8) (w : World)
    (h : ExAt (n + 1) Wb cs (Ex.mk 6 r nm d [x0, x1])) (ho0 : OkX n x0) (ho1 : OkX n x1) (hl : least = 1) (he : OutEnv Wb B b m l w) (hlen : l.length + (pexT (n + 1) (Ex.mk 6 r nm d [x0, x1]) least).length ≤ 1000000000) :
    Calls Tryd.prog 23 #[.pointer (some ⟨b, 0, none⟩), .agg cs.toArray, .int .i64 least] w (WrP B b m (l ++ pexT (n + 1) (Ex.mk 6 r nm d [x0, x1]) least) w) := by
  subst hl
  have hpt : pexT (n + 1) (Ex.mk 6 r nm d [x0, x1]) 1 = pexT n x0 1 ++ ([32, 42, 32] ++ pexT n x1 2) := by
    rw [pexT]; simp [parT, opO, opS, opN, Ex.kind, prt, Ex.sub]
  rw [hpt] at hlen ⊢
  obtain ⟨t0, ht0⟩ : ∃ t, t = pexT n x0 1 := ⟨_, rfl⟩
  obtain ⟨t1, ht1⟩ : ∃ t, t = pexT n x1 2 := ⟨_, rfl⟩
  rw [← ht0, ← ht1] at hlen ⊢
  simp only [List.length_append, List.length_cons, List.length_nil] at hlen
  obtain ⟨a, len, cap, rfl, hlen2, hsub⟩ := h
  obtain rfl : len = 2 := hlen2.symm
  rcases hsub with h0 | ⟨g, o, rfl, hg, hel⟩
  · omega
  have HOP : Hid (∀ W, Calls Tryd.prog 40 #[.int .u8 6] W (fun e w' => e = .returned (.tuple #[.string (ByteArray.mk #[32, 42, 32]), .int .i64 1, .int .i64 2]) ∧ W = w')) := fun W => oper_any 6 W
  have HI := Lib.hid ih
  have HE := Lib.hid hel
  have HG := Lib.hid hg
  have HO0 := Lib.hid ho0
  have HO1 := Lib.hid ho1
  have HT0 := Lib.hid ht0
  have HT1 := Lib.hid ht1
  have HEN := Lib.hid he
  have hbw := he.lt
  clear ih hel hg ho0 ho1 ht0 ht1 hlen2 hpt
  show Calls Tryd.prog 23 #[.pointer (some ⟨b, 0, none⟩), .agg #[.int .u8 6, .string r, .string nm, .int .i64 d, .slice (some ⟨g, o, none⟩) 2 cap], .int .i64 1] w _
  go_enter Tryd.func23, Tryd.ntmps23
  go_wp2_with fail
  refine (HOP.out _).mono ?_
  rintro e w' ⟨rfl, rfl⟩
  obtain ⟨W0, hW0⟩ : ∃ W0, W0 = w.alloc (.cells #[.int .u8 6, .string r, .string nm, .int .i64 d, .slice (some ⟨g, o, none⟩) 2 cap] 25) := ⟨_, rfl⟩
  have hbx : W0.heap[w.heap.size]? = some (.cells #[.int .u8 6, .string r, .string nm, .int .i64 d, .slice (some ⟨g, o, none⟩) 2 cap] 25) := by rw [hW0]; exact alloc_at _ _
  have hE0 : OutEnv Wb B b m l W0 := by rw [hW0]; exact HEN.out.below (own_below w _)
  have hK0 : OutK B b w W0 := by rw [hW0]; exact OutK.below (own_below w _) HEN.out.size
  rw [← hW0]
  have HE0 := Lib.hid hE0
  have HBX := Lib.hid hbx
  have HK0 := Lib.hid hK0
  obtain ⟨p0, l0, c0, ⟨e00, e01, e02, e03, e04⟩, hx0⟩ := ExAt.part (k := 0) (x := Ex.mk 6 r nm d [x0, x1]) HG.out hE0.old (show 0 < 2 by decide) HE.out
  simp only [Nat.zero_mul, Nat.add_zero, Ex.sub, List.getElem_cons_zero] at e00 e01 e02 e03 e04 hx0
  have b4 : W0.cell? ⟨w.heap.size, 4, none⟩ = some (.slice (some ⟨g, o, none⟩) 2 cap) := (exCells hbx).2.2.2.2
  have HC0 := Lib.hid (HI.out x0 _ 1 l W0 hx0 HO0.out (by omega) (by omega) hE0 (by rw [← HT0.out]; omega))
  rw [← HT0.out] at HC0
  clear hW0 hbx hE0 hK0 hx0
  go_wp2_with fail
  refine HC0.out.mono ?_
  rintro e W1 ⟨rfl, hio1, hok1⟩
  have hE1 := HE0.out.step hio1 hok1
  have HBX1 := Lib.hid (boxed_kept HBX.out hok1 (by omega))
  have HK1 := Lib.hid (HK0.out.trans hok1)
  have HE1 := Lib.hid hE1
  have HC1 := Lib.hid (put1 B b m (l ++ t0) (ByteArray.mk #[32, 42, 32]) W1 hio1 (by show (l ++ t0).length + 3 ≤ _; rw [List.length_append]; omega) hE1.size)
  have b4' : W1.cell? ⟨w.heap.size, 4, none⟩ = some (.slice (some ⟨g, o, none⟩) 2 cap) := (exCells HBX1.out).2.2.2.2
  clear hio1 hok1 hE1 e00 e01 e02 e03 e04 b4
  go_wp2_with fail
  refine HC1.out.mono ?_
  rintro e W2 ⟨rfl, hio2, hok2⟩
  have hE2 := HE1.out.step hio2 hok2
  have HBX2 := Lib.hid (boxed_kept HBX1.out hok2 (by omega))
  have HK2 := Lib.hid (HK1.out.trans hok2)
  obtain ⟨p1, l1, c1, ⟨f0, f1, f2, f3, f4⟩, hx1⟩ := ExAt.part (k := 1) (x := Ex.mk 6 r nm d [x0, x1]) HG.out hE2.old (show 1 < 2 by decide) HE.out
  simp only [Nat.one_mul, Ex.sub, List.getElem_cons_succ, List.getElem_cons_zero] at f0 f1 f2 f3 f4 hx1
  have b4'' : W2.cell? ⟨w.heap.size, 4, none⟩ = some (.slice (some ⟨g, o, none⟩) 2 cap) := (exCells HBX2.out).2.2.2.2
  have HC2 := Lib.hid (HI.out x1 _ 2 _ W2 hx1 HO1.out (by omega) (by omega) hE2 (by rw [← HT1.out]; simp only [List.length_append]; show l.length + t0.length + 3 + _ ≤ _; omega))
  rw [← HT1.out] at HC2
  clear hio2 hok2 hE2 hx1 b4'
  go_wp2_with fail
  refine HC2.out.mono ?_
  rintro e W3 ⟨rfl, hio3, hok3⟩
  have HF : Hid (WrP B b m (l ++ (t0 ++ ([32, 42, 32] ++ t1))) w (.returned (.tuple #[])) W3) := ⟨rfl, by simpa [List.append_assoc] using hio3, HK2.out.trans hok3⟩
  clear hio3 hok3 f0 f1 f2 f3 f4 b4''
  go_wp2_with fail
  go_end0
  exact HF.out

end Go.Proofs.YtijkefflpojmhaaDoor

namespace Go.Proofs.YtijkefflpojmhaaDoor
open Go.RowKit

set_option maxHeartbeats 2000000 in
set_option maxRecDepth 100000 in
theorem put_anyD (B b g : Nat) (m : Value) (l : List UInt8) (ss : List ByteArray) (u : FrameMode) (w : World) (n : Nat) (h : IsOut B b m l w) (hg : w.heap[g]? = some (.cells (ss.map Value.string).toArray 9 (0, 0))) (hn : ss.length = n) (hn1 : n ≤ 1000) (hlen : l.length + (catB ss).length ≤ 140737488355328) (hBw : B ≤ w.heap.size) :
    CallsD Tryd.prog 32 #[.pointer (some ⟨b, 0, none⟩), .slice (some ⟨g, 0, none⟩) n n] u w (fun e u' w' => u' = u ∧ WrP B b m (l ++ catB ss) w e w') := by
  have hgb : g ≠ b := by
    rintro rfl
    obtain ⟨p, _, v, hb, _⟩ := h.at
    rw [hg] at hb
    simp at hb
  have HG := Lib.hid hg
  have HO := Lib.hid h
  have HN := Lib.hid hn
  clear hg h hn
  go_enter_d Tryd.func32, Tryd.ntmps32
  go_wp2_with fail
  go_loopw [5, 8] (fun _ iv wr => ∃ k : Nat, k ≤ n ∧ iv = .int .i64 (k : Int) ∧ IsOut B b m (l ++ catB (ss.take k)) wr ∧ OutK B b w wr) (fun _ iv _ => n - (intOf iv).toNat)
  case atStart => exact ⟨0, Nat.zero_le _, rfl, by simpa [catB] using HO.out, OutK.refl _ _ _⟩
  case round =>
    obtain ⟨w1, rfl⟩ : ∃ w1 : World, w1 = wr := ⟨_, rfl⟩
    obtain ⟨k, hk, rfl, hio, hok⟩ := hrel
    have hB1 : B ≤ w1.heap.size := Nat.le_trans hBw hok.1.size
    have HIO := Lib.hid hio
    have HOK := Lib.hid hok
    have hg1 : w1.heap[g]? = some (.cells (ss.map Value.string).toArray 9 (0, 0)) := hok.2 g _ HG.out (by simpa using hgb) (by intro c fz e; simp at e)
    have hlt1 : b < w1.heap.size := by obtain ⟨p, hp⟩ := hio.at; exact hp.lt
    clear hio hok
    by_cases hlt : k < n
    · have hlt2 : k < ss.length := by rw [HN.out]; exact hlt
      obtain ⟨s, hs⟩ : ∃ s, s = ss[k] := ⟨_, rfl⟩
      have c0 : w1.cell? ⟨g, k, none⟩ = some (.string s) := by rw [Lib.cell_of_heap hg1, hs]; simp [hlt2]
      have HT : Hid (catB (ss.take (k + 1)) = catB (ss.take k) ++ s.data.toList) := by rw [hs]; exact catB_take ss k hlt2
      have HC := Lib.hid (bwrite_any B b m (l ++ catB (ss.take k)) s w1 HIO.out (by
        have q1 := catB_le ss (k + 1)
        have q2 := HT.out
        have q3 : s.data.toList.length = s.size := by simp
        rw [q2, List.length_append, q3] at q1
        rw [List.length_append]; omega) hB1)
      clear hg1 hs
      go_wp2_with fail
      refine HC.out.mono ?_
      rintro e w2 ⟨rfl, hio2, hok2⟩
      have HIO2 := Lib.hid hio2
      have HOK2 := Lib.hid (HOK.out.trans hok2)
      clear hio2 hok2
      go_wp2_with fail
      go_roundw
      case rel => exact ⟨k + 1, by omega, by go_num, by rw [HT.out, ← List.append_assoc]; exact HIO2.out, HOK2.out⟩
      case measure => simp [intOf] <;> omega
    · have HE : Hid (ss.take k = ss) := Lib.hid (List.take_of_length_le (by rw [HN.out]; omega))
      clear hg1
      go_wp2_with fail
      go_end0
      exact ⟨rfl, by rw [← HE.out]; exact HIO.out, HOK.out⟩

set_option maxHeartbeats 4000000 in
set_option maxRecDepth 100000 in
theorem expr_par4_1 {Wb : World} {B b : Nat} {m : Value} {n : Nat} (ih : ExprC Wb B b m n) (r nm : ByteArray) (d : Int) (x0 x1 : Ex) (cs : List Value) (least : Int) (l : List UInt8) (w : World)
    (h : ExAt (n + 1) Wb cs (Ex.mk 4 r nm d [x0, x1])) (ho0 : OkX n x0) (ho1 : OkX n x1) (hl : least = 1) (he : OutEnv Wb B b m l w) (hlen : l.length + (pexT (n + 1) (Ex.mk 4 r nm d [x0, x1]) least).length ≤ 1000000000) :
    Calls Tryd.prog 23 #[.pointer (some ⟨b, 0, none⟩), .agg cs.toArray, .int .i64 least] w (WrP B b m (l ++ pexT (n + 1) (Ex.mk 4 r nm d [x0, x1]) least) w) := by
  subst hl
  have hpt : pexT (n + 1) (Ex.mk 4 r nm d [x0, x1]) 1 = [40] ++ (pexT n x0 0 ++ ([32, 43, 32] ++ (pexT n x1 1 ++ [41]))) := by
    rw [pexT]; simp [parT, opO, opS, opN, Ex.kind, prt, Ex.sub]
  rw [hpt] at hlen ⊢
  obtain ⟨t0, ht0⟩ : ∃ t, t = pexT n x0 0 := ⟨_, rfl⟩
  obtain ⟨t1, ht1⟩ : ∃ t, t = pexT n x1 1 := ⟨_, rfl⟩
  rw [← ht0, ← ht1] at hlen ⊢
  simp only [List.length_append, List.length_cons, List.length_nil] at hlen
  obtain ⟨a, len, cap, rfl, hlen2, hsub⟩ := h
  obtain rfl : len = 2 := hlen2.symm
  rcases hsub with h0 | ⟨g, o, rfl, hg, hel⟩
  · omega
  have HOP : Hid (∀ W, Calls Tryd.prog 40 #[.int .u8 4] W (fun e w' => e = .returned (.tuple #[.string (ByteArray.mk #[32, 43, 32]), .int .i64 0, .int .i64 1]) ∧ W = w')) := fun W => oper_any 4 W
  have HI := Lib.hid ih
  have HE := Lib.hid hel
  have HG := Lib.hid hg
  have HO0 := Lib.hid ho0
  have HO1 := Lib.hid ho1
  have HT0 := Lib.hid ht0
  have HT1 := Lib.hid ht1
  have HEN := Lib.hid he
  have hbw := he.lt
  clear ih hel hg ho0 ho1 ht0 ht1 hlen2 hpt
  show Calls Tryd.prog 23 #[.pointer (some ⟨b, 0, none⟩), .agg #[.int .u8 4, .string r, .string nm, .int .i64 d, .slice (some ⟨g, o, none⟩) 2 cap], .int .i64 1] w _
  go_enter_defers Tryd.func23, Tryd.ntmps23
  go_wp2_with fail
  refine (HOP.out _).mono ?_
  rintro e w' ⟨rfl, rfl⟩
  obtain ⟨W0, hW0⟩ : ∃ W0, W0 = w.alloc (.cells #[.int .u8 4, .string r, .string nm, .int .i64 d, .slice (some ⟨g, o, none⟩) 2 cap] 25) := ⟨_, rfl⟩
  have hbx : W0.heap[w.heap.size]? = some (.cells #[.int .u8 4, .string r, .string nm, .int .i64 d, .slice (some ⟨g, o, none⟩) 2 cap] 25) := by rw [hW0]; exact alloc_at _ _
  have hE0 : OutEnv Wb B b m l W0 := by rw [hW0]; exact HEN.out.below (own_below w _)
  have hK0 : OutK B b w W0 := by rw [hW0]; exact OutK.below (own_below w _) HEN.out.size
  rw [← hW0]
  have HE0 := Lib.hid hE0
  have HBX := Lib.hid hbx
  have HK0 := Lib.hid hK0
  have HCP := Lib.hid (put1 B b m l (ByteArray.mk #[40]) W0 hE0.out (by show l.length + 1 ≤ _; omega) hE0.size)
  clear hW0 hbx hE0 hK0
  go_wp2_with fail
  refine HCP.out.mono ?_
  rintro e V1 ⟨rfl, hioP, hokP⟩
  obtain ⟨V0, hV0⟩ : ∃ V0, V0 = V1.alloc (.cells #[.string (ByteArray.mk #[41])] 9) := ⟨_, rfl⟩
  have hEP := HE0.out.step hioP hokP
  have hEV : OutEnv Wb B b m (l ++ [40]) V0 := by rw [hV0]; exact hEP.below (own_below V1 _)
  have hbv : V0.heap[V1.heap.size]? = some (.cells #[.string (ByteArray.mk #[41])] 9 (0, 0)) := by rw [hV0]; exact alloc_at _ _
  have hbxP := boxed_kept HBX.out hokP (by omega)
  have hbx : V0.heap[w.heap.size]? = some (.cells #[.int .u8 4, .string r, .string nm, .int .i64 d, .slice (some ⟨g, o, none⟩) 2 cap] 25) := by rw [hV0]; exact (Below.heap_alloc V1 _ _ (Array.getElem?_eq_some_iff.1 hbxP).1).trans hbxP
  have hKV : OutK B b w V0 := by rw [hV0]; exact (HK0.out.trans hokP).alloc hEP.size _
  have HBV := Lib.hid hbv
  have HEV := Lib.hid hEV
  have HBXV := Lib.hid hbx
  have HKV := Lib.hid hKV
  have hvb : V1.heap.size ≠ b := by have := hEP.lt; omega
  have z1 : w.heap.size < V1.heap.size := (Array.getElem?_eq_some_iff.1 hbxP).1
  have z2 : g < V1.heap.size := Nat.lt_of_lt_of_le HG.out hEP.old.size
  have hE0 := hEP
  obtain ⟨p0, l0, c0, ⟨e00, e01, e02, e03, e04⟩, hx0⟩ := ExAt.part (k := 0) (x := Ex.mk 4 r nm d [x0, x1]) HG.out hE0.old (show 0 < 2 by decide) HE.out
  simp only [Nat.zero_mul, Nat.add_zero, Ex.sub, List.getElem_cons_zero] at e00 e01 e02 e03 e04 hx0
  have b4 : V1.cell? ⟨w.heap.size, 4, none⟩ = some (.slice (some ⟨g, o, none⟩) 2 cap) := (exCells hbxP).2.2.2.2
  have HC0 := Lib.hid (HI.out x0 _ 0 (l ++ [40]) V0 hx0 HO0.out (by omega) (by omega) hEV (by rw [← HT0.out]; simp only [List.length_append, List.length_cons, List.length_nil]; omega))
  rw [← HT0.out] at HC0
  clear hbx hE0 hKV hx0 hbxP hEP hEV hbv hioP hokP
  subst hV0
  go_wp2_with fail
  refine HC0.out.mono ?_
  rintro e W1 ⟨rfl, hio1, hok1⟩
  have hE1 := HEV.out.step hio1 hok1
  have HBX1 := Lib.hid (boxed_kept HBXV.out hok1 (by omega))
  have HK1 := Lib.hid (HKV.out.trans hok1)
  have HE1 := Lib.hid hE1
  have HOK1 := Lib.hid hok1
  have HC1 := Lib.hid (put1 B b m (l ++ [40] ++ t0) (ByteArray.mk #[32, 43, 32]) W1 hio1 (by show (l ++ [40] ++ t0).length + 3 ≤ _; simp only [List.length_append, List.length_cons, List.length_nil]; omega) hE1.size)
  have b4' : W1.cell? ⟨w.heap.size, 4, none⟩ = some (.slice (some ⟨g, o, none⟩) 2 cap) := (exCells HBX1.out).2.2.2.2
  clear hio1 hok1 hE1 e00 e01 e02 e03 e04 b4
  go_wp2_with fail
  refine HC1.out.mono ?_
  rintro e W2 ⟨rfl, hio2, hok2⟩
  have hE2 := HE1.out.step hio2 hok2
  have HE2 := Lib.hid hE2
  have HOV := Lib.hid (HOK1.out.trans hok2)
  have HBX2 := Lib.hid (boxed_kept HBX1.out hok2 (by omega))
  have HK2 := Lib.hid (HK1.out.trans hok2)
  obtain ⟨p1, l1, c1, ⟨f0, f1, f2, f3, f4⟩, hx1⟩ := ExAt.part (k := 1) (x := Ex.mk 4 r nm d [x0, x1]) HG.out hE2.old (show 1 < 2 by decide) HE.out
  simp only [Nat.one_mul, Ex.sub, List.getElem_cons_succ, List.getElem_cons_zero] at f0 f1 f2 f3 f4 hx1
  have b4'' : W2.cell? ⟨w.heap.size, 4, none⟩ = some (.slice (some ⟨g, o, none⟩) 2 cap) := (exCells HBX2.out).2.2.2.2
  have HC2 := Lib.hid (HI.out x1 _ 1 _ W2 hx1 HO1.out (by omega) (by omega) hE2 (by rw [← HT1.out]; simp only [List.length_append]; show l.length + 1 + t0.length + 3 + _ ≤ _; omega))
  rw [← HT1.out] at HC2
  clear hio2 hok2 hE2 hx1 b4'
  go_wp2_with fail
  refine HC2.out.mono ?_
  rintro e W3 ⟨rfl, hio3, hok3⟩
  have HBV3 := HOV.out.2 _ _ (HBV.out) (by simpa using hvb) (by intro c fz e; simp at e)
  have HE3 := Lib.hid (HE2.out.step hio3 hok3)
  have HK3 := Lib.hid (HK2.out.trans hok3)
  have HBV4 := Lib.hid (hok3.2 _ _ HBV3 (by simpa using hvb) (by intro c fz e; simp at e))
  clear hio3 hok3 f0 f1 f2 f3 f4 b4'' HBV3
  go_wp2_with fail
  refine leaves_cons (f := 32) (args := #[.pointer (some ⟨b, 0, none⟩), .slice (some ⟨V1.heap.size, 0, none⟩) 1 1]) (by simp) (by simp [go_sem]) ?_
  refine (put_anyD B b _ m _ [ByteArray.mk #[41]] .returning W3 1 HE3.out.out HBV4.out rfl (by omega) (by simp only [List.length_append, List.length_cons, List.length_nil]; show l.length + (0 + 1) + t0.length + 3 + t1.length + 1 ≤ _; omega) HE3.out.size).mono ?_
  rintro e u' w'' ⟨rfl, rfl, hio4, hok4⟩
  exact ⟨_, results_none rfl _ _ _, rfl, by simpa [catB, List.append_assoc] using hio4, HK3.out.trans hok4⟩

set_option maxHeartbeats 4000000 in
set_option maxRecDepth 100000 in
theorem expr_par4_2 {Wb : World} {B b : Nat} {m : Value} {n : Nat} (ih : ExprC Wb B b m n) (r nm : ByteArray) (d : Int) (x0 x1 : Ex) (cs : List Value) (least : Int) (l : List UInt8) (w : World)
    (h : ExAt (n + 1) Wb cs (Ex.mk 4 r nm d [x0, x1])) (ho0 : OkX n x0) (ho1 : OkX n x1) (hl : least = 2) (he : OutEnv Wb B b m l w) (hlen : l.length + (pexT (n + 1) (Ex.mk 4 r nm d [x0, x1]) least).length ≤ 1000000000) :
    Calls Tryd.prog 23 #[.pointer (some ⟨b, 0, none⟩), .agg cs.toArray, .int .i64 least] w (WrP B b m (l ++ pexT (n + 1) (Ex.mk 4 r nm d [x0, x1]) least) w) := by
  subst hl
  have hpt : pexT (n + 1) (Ex.mk 4 r nm d [x0, x1]) 2 = [40] ++ (pexT n x0 0 ++ ([32, 43, 32] ++ (pexT n x1 1 ++ [41]))) := by
    rw [pexT]; simp [parT, opO, opS, opN, Ex.kind, prt, Ex.sub]
  rw [hpt] at hlen ⊢
  obtain ⟨t0, ht0⟩ : ∃ t, t = pexT n x0 0 := ⟨_, rfl⟩
  obtain ⟨t1, ht1⟩ : ∃ t, t = pexT n x1 1 := ⟨_, rfl⟩
  rw [← ht0, ← ht1] at hlen ⊢
  simp only [List.length_append, List.length_cons, List.length_nil] at hlen
  obtain ⟨a, len, cap, rfl, hlen2, hsub⟩ := h
  obtain rfl : len = 2 := hlen2.symm
  rcases hsub with h0 | ⟨g, o, rfl, hg, hel⟩
  · omega
  have HOP : Hid (∀ W, Calls Tryd.prog 40 #[.int .u8 4] W (fun e w' => e = .returned (.tuple #[.string (ByteArray.mk #[32, 43, 32]), .int .i64 0, .int .i64 1]) ∧ W = w')) := fun W => oper_any 4 W
  have HI := Lib.hid ih
  have HE := Lib.hid hel
  have HG := Lib.hid hg
  have HO0 := Lib.hid ho0
  have HO1 := Lib.hid ho1
  have HT0 := Lib.hid ht0
  have HT1 := Lib.hid ht1
  have HEN := Lib.hid he
  have hbw := he.lt
  clear ih hel hg ho0 ho1 ht0 ht1 hlen2 hpt
  show Calls Tryd.prog 23 #[.pointer (some ⟨b, 0, none⟩), .agg #[.int .u8 4, .string r, .string nm, .int .i64 d, .slice (some ⟨g, o, none⟩) 2 cap], .int .i64 2] w _
  go_enter_defers Tryd.func23, Tryd.ntmps23
  go_wp2_with fail
  refine (HOP.out _).mono ?_
  rintro e w' ⟨rfl, rfl⟩
  obtain ⟨W0, hW0⟩ : ∃ W0, W0 = w.alloc (.cells #[.int .u8 4, .string r, .string nm, .int .i64 d, .slice (some ⟨g, o, none⟩) 2 cap] 25) := ⟨_, rfl⟩
  have hbx : W0.heap[w.heap.size]? = some (.cells #[.int .u8 4, .string r, .string nm, .int .i64 d, .slice (some ⟨g, o, none⟩) 2 cap] 25) := by rw [hW0]; exact alloc_at _ _
  have hE0 : OutEnv Wb B b m l W0 := by rw [hW0]; exact HEN.out.below (own_below w _)
  have hK0 : OutK B b w W0 := by rw [hW0]; exact OutK.below (own_below w _) HEN.out.size
  rw [← hW0]
  have HE0 := Lib.hid hE0
  have HBX := Lib.hid hbx
  have HK0 := Lib.hid hK0
  have HCP := Lib.hid (put1 B b m l (ByteArray.mk #[40]) W0 hE0.out (by show l.length + 1 ≤ _; omega) hE0.size)
  clear hW0 hbx hE0 hK0
  go_wp2_with fail
  refine HCP.out.mono ?_
  rintro e V1 ⟨rfl, hioP, hokP⟩
  obtain ⟨V0, hV0⟩ : ∃ V0, V0 = V1.alloc (.cells #[.string (ByteArray.mk #[41])] 9) := ⟨_, rfl⟩
  have hEP := HE0.out.step hioP hokP
  have hEV : OutEnv Wb B b m (l ++ [40]) V0 := by rw [hV0]; exact hEP.below (own_below V1 _)
  have hbv : V0.heap[V1.heap.size]? = some (.cells #[.string (ByteArray.mk #[41])] 9 (0, 0)) := by rw [hV0]; exact alloc_at _ _
  have hbxP := boxed_kept HBX.out hokP (by omega)
  have hbx : V0.heap[w.heap.size]? = some (.cells #[.int .u8 4, .string r, .string nm, .int .i64 d, .slice (some ⟨g, o, none⟩) 2 cap] 25) := by rw [hV0]; exact (Below.heap_alloc V1 _ _ (Array.getElem?_eq_some_iff.1 hbxP).1).trans hbxP
  have hKV : OutK B b w V0 := by rw [hV0]; exact (HK0.out.trans hokP).alloc hEP.size _
  have HBV := Lib.hid hbv
  have HEV := Lib.hid hEV
  have HBXV := Lib.hid hbx
  have HKV := Lib.hid hKV
  have hvb : V1.heap.size ≠ b := by have := hEP.lt; omega
  have z1 : w.heap.size < V1.heap.size := (Array.getElem?_eq_some_iff.1 hbxP).1
  have z2 : g < V1.heap.size := Nat.lt_of_lt_of_le HG.out hEP.old.size
  have hE0 := hEP
  obtain ⟨p0, l0, c0, ⟨e00, e01, e02, e03, e04⟩, hx0⟩ := ExAt.part (k := 0) (x := Ex.mk 4 r nm d [x0, x1]) HG.out hE0.old (show 0 < 2 by decide) HE.out
  simp only [Nat.zero_mul, Nat.add_zero, Ex.sub, List.getElem_cons_zero] at e00 e01 e02 e03 e04 hx0
  have b4 : V1.cell? ⟨w.heap.size, 4, none⟩ = some (.slice (some ⟨g, o, none⟩) 2 cap) := (exCells hbxP).2.2.2.2
  have HC0 := Lib.hid (HI.out x0 _ 0 (l ++ [40]) V0 hx0 HO0.out (by omega) (by omega) hEV (by rw [← HT0.out]; simp only [List.length_append, List.length_cons, List.length_nil]; omega))
  rw [← HT0.out] at HC0
  clear hbx hE0 hKV hx0 hbxP hEP hEV hbv hioP hokP
  subst hV0
  go_wp2_with fail
  refine HC0.out.mono ?_
  rintro e W1 ⟨rfl, hio1, hok1⟩
  have hE1 := HEV.out.step hio1 hok1
  have HBX1 := Lib.hid (boxed_kept HBXV.out hok1 (by omega))
  have HK1 := Lib.hid (HKV.out.trans hok1)
  have HE1 := Lib.hid hE1
  have HOK1 := Lib.hid hok1
  have HC1 := Lib.hid (put1 B b m (l ++ [40] ++ t0) (ByteArray.mk #[32, 43, 32]) W1 hio1 (by show (l ++ [40] ++ t0).length + 3 ≤ _; simp only [List.length_append, List.length_cons, List.length_nil]; omega) hE1.size)
  have b4' : W1.cell? ⟨w.heap.size, 4, none⟩ = some (.slice (some ⟨g, o, none⟩) 2 cap) := (exCells HBX1.out).2.2.2.2
  clear hio1 hok1 hE1 e00 e01 e02 e03 e04 b4
  go_wp2_with fail
  refine HC1.out.mono ?_
  rintro e W2 ⟨rfl, hio2, hok2⟩
  have hE2 := HE1.out.step hio2 hok2
  have HE2 := Lib.hid hE2
  have HOV := Lib.hid (HOK1.out.trans hok2)
  have HBX2 := Lib.hid (boxed_kept HBX1.out hok2 (by omega))
  have HK2 := Lib.hid (HK1.out.trans hok2)
  obtain ⟨p1, l1, c1, ⟨f0, f1, f2, f3, f4⟩, hx1⟩ := ExAt.part (k := 1) (x := Ex.mk 4 r nm d [x0, x1]) HG.out hE2.old (show 1 < 2 by decide) HE.out
  simp only [Nat.one_mul, Ex.sub, List.getElem_cons_succ, List.getElem_cons_zero] at f0 f1 f2 f3 f4 hx1
  have b4'' : W2.cell? ⟨w.heap.size, 4, none⟩ = some (.slice (some ⟨g, o, none⟩) 2 cap) := (exCells HBX2.out).2.2.2.2
  have HC2 := Lib.hid (HI.out x1 _ 1 _ W2 hx1 HO1.out (by omega) (by omega) hE2 (by rw [← HT1.out]; simp only [List.length_append]; show l.length + 1 + t0.length + 3 + _ ≤ _; omega))
  rw [← HT1.out] at HC2
  clear hio2 hok2 hE2 hx1 b4'
  go_wp2_with fail
  refine HC2.out.mono ?_
  rintro e W3 ⟨rfl, hio3, hok3⟩
  have HBV3 := HOV.out.2 _ _ (HBV.out) (by simpa using hvb) (by intro c fz e; simp at e)
  have HE3 := Lib.hid (HE2.out.step hio3 hok3)
  have HK3 := Lib.hid (HK2.out.trans hok3)
  have HBV4 := Lib.hid (hok3.2 _ _ HBV3 (by simpa using hvb) (by intro c fz e; simp at e))
  clear hio3 hok3 f0 f1 f2 f3 f4 b4'' HBV3
  go_wp2_with fail
  refine leaves_cons (f := 32) (args := #[.pointer (some ⟨b, 0, none⟩), .slice (some ⟨V1.heap.size, 0, none⟩) 1 1]) (by simp) (by simp [go_sem]) ?_
  refine (put_anyD B b _ m _ [ByteArray.mk #[41]] .returning W3 1 HE3.out.out HBV4.out rfl (by omega) (by simp only [List.length_append, List.length_cons, List.length_nil]; show l.length + (0 + 1) + t0.length + 3 + t1.length + 1 ≤ _; omega) HE3.out.size).mono ?_
  rintro e u' w'' ⟨rfl, rfl, hio4, hok4⟩
  exact ⟨_, results_none rfl _ _ _, rfl, by simpa [catB, List.append_assoc] using hio4, HK3.out.trans hok4⟩

set_option maxHeartbeats 4000000 in
set_option maxRecDepth 100000 in
theorem expr_par5_1 {Wb : World} {B b : Nat} {m : Value} {n : Nat} (ih : ExprC Wb B b m n) (r nm : ByteArray) (d : Int) (x0 x1 : Ex) (cs : List Value) (least : Int) (l : List UInt8) (w : World)
    (h : ExAt (n + 1) Wb cs (Ex.mk 5 r nm d [x0, x1])) (ho0 : OkX n x0) (ho1 : OkX n x1) (hl : least = 1) (he : OutEnv Wb B b m l w) (hlen : l.length + (pexT (n + 1) (Ex.mk 5 r nm d [x0, x1]) least).length ≤ 1000000000) :
    Calls Tryd.prog 23 #[.pointer (some ⟨b, 0, none⟩), .agg cs.toArray, .int .i64 least] w (WrP B b m (l ++ pexT (n + 1) (Ex.mk 5 r nm d [x0, x1]) least) w) := by
  subst hl
  have hpt : pexT (n + 1) (Ex.mk 5 r nm d [x0, x1]) 1 = [40] ++ (pexT n x0 0 ++ ([32, 45, 32] ++ (pexT n x1 1 ++ [41]))) := by
    rw [pexT]; simp [parT, opO, opS, opN, Ex.kind, prt, Ex.sub]
  rw [hpt] at hlen ⊢
  obtain ⟨t0, ht0⟩ : ∃ t, t = pexT n x0 0 := ⟨_, rfl⟩
  obtain ⟨t1, ht1⟩ : ∃ t, t = pexT n x1 1 := ⟨_, rfl⟩
  rw [← ht0, ← ht1] at hlen ⊢
  simp only [List.length_append, List.length_cons, List.length_nil] at hlen
  obtain ⟨a, len, cap, rfl, hlen2, hsub⟩ := h
  obtain rfl : len = 2 := hlen2.symm
  rcases hsub with h0 | ⟨g, o, rfl, hg, hel⟩
  · omega
  have HOP : Hid (∀ W, Calls Tryd.prog 40 #[.int .u8 5] W (fun e w' => e = .returned (.tuple #[.string (ByteArray.mk #[32, 45, 32]), .int .i64 0, .int .i64 1]) ∧ W = w')) := fun W => oper_any 5 W
  have HI := Lib.hid ih
  have HE := Lib.hid hel
  have HG := Lib.hid hg
  have HO0 := Lib.hid ho0
  have HO1 := Lib.hid ho1
  have HT0 := Lib.hid ht0
  have HT1 := Lib.hid ht1
  have HEN := Lib.hid he
  have hbw := he.lt
  clear ih hel hg ho0 ho1 ht0 ht1 hlen2 hpt
  show Calls Tryd.prog 23 #[.pointer (some ⟨b, 0, none⟩), .agg #[.int .u8 5, .string r, .string nm, .int .i64 d, .slice (some ⟨g, o, none⟩) 2 cap], .int .i64 1] w _
  go_enter_defers Tryd.func23, Tryd.ntmps23
  go_wp2_with fail
  refine (HOP.out _).mono ?_
  rintro e w' ⟨rfl, rfl⟩
  obtain ⟨W0, hW0⟩ : ∃ W0, W0 = w.alloc (.cells #[.int .u8 5, .string r, .string nm, .int .i64 d, .slice (some ⟨g, o, none⟩) 2 cap] 25) := ⟨_, rfl⟩
  have hbx : W0.heap[w.heap.size]? = some (.cells #[.int .u8 5, .string r, .string nm, .int .i64 d, .slice (some ⟨g, o, none⟩) 2 cap] 25) := by rw [hW0]; exact alloc_at _ _
  have hE0 : OutEnv Wb B b m l W0 := by rw [hW0]; exact HEN.out.below (own_below w _)
  have hK0 : OutK B b w W0 := by rw [hW0]; exact OutK.below (own_below w _) HEN.out.size
  rw [← hW0]
  have HE0 := Lib.hid hE0
  have HBX := Lib.hid hbx
  have HK0 := Lib.hid hK0
  have HCP := Lib.hid (put1 B b m l (ByteArray.mk #[40]) W0 hE0.out (by show l.length + 1 ≤ _; omega) hE0.size)
  clear hW0 hbx hE0 hK0
  go_wp2_with fail
  refine HCP.out.mono ?_
  rintro e V1 ⟨rfl, hioP, hokP⟩
  obtain ⟨V0, hV0⟩ : ∃ V0, V0 = V1.alloc (.cells #[.string (ByteArray.mk #[41])] 9) := ⟨_, rfl⟩
  have hEP := HE0.out.step hioP hokP
  have hEV : OutEnv Wb B b m (l ++ [40]) V0 := by rw [hV0]; exact hEP.below (own_below V1 _)
  have hbv : V0.heap[V1.heap.size]? = some (.cells #[.string (ByteArray.mk #[41])] 9 (0, 0)) := by rw [hV0]; exact alloc_at _ _
  have hbxP := boxed_kept HBX.out hokP (by omega)
  have hbx : V0.heap[w.heap.size]? = some (.cells #[.int .u8 5, .string r, .string nm, .int .i64 d, .slice (some ⟨g, o, none⟩) 2 cap] 25) := by rw [hV0]; exact (Below.heap_alloc V1 _ _ (Array.getElem?_eq_some_iff.1 hbxP).1).trans hbxP
  have hKV : OutK B b w V0 := by rw [hV0]; exact (HK0.out.trans hokP).alloc hEP.size _
  have HBV := Lib.hid hbv
  have HEV := Lib.hid hEV
  have HBXV := Lib.hid hbx
  have HKV := Lib.hid hKV
  have hvb : V1.heap.size ≠ b := by have := hEP.lt; omega
  have z1 : w.heap.size < V1.heap.size := (Array.getElem?_eq_some_iff.1 hbxP).1
  have z2 : g < V1.heap.size := Nat.lt_of_lt_of_le HG.out hEP.old.size
  have hE0 := hEP
  obtain ⟨p0, l0, c0, ⟨e00, e01, e02, e03, e04⟩, hx0⟩ := ExAt.part (k := 0) (x := Ex.mk 5 r nm d [x0, x1]) HG.out hE0.old (show 0 < 2 by decide) HE.out
  simp only [Nat.zero_mul, Nat.add_zero, Ex.sub, List.getElem_cons_zero] at e00 e01 e02 e03 e04 hx0
  have b4 : V1.cell? ⟨w.heap.size, 4, none⟩ = some (.slice (some ⟨g, o, none⟩) 2 cap) := (exCells hbxP).2.2.2.2
  have HC0 := Lib.hid (HI.out x0 _ 0 (l ++ [40]) V0 hx0 HO0.out (by omega) (by omega) hEV (by rw [← HT0.out]; simp only [List.length_append, List.length_cons, List.length_nil]; omega))
  rw [← HT0.out] at HC0
  clear hbx hE0 hKV hx0 hbxP hEP hEV hbv hioP hokP
  subst hV0
  go_wp2_with fail
  refine HC0.out.mono ?_
  rintro e W1 ⟨rfl, hio1, hok1⟩
  have hE1 := HEV.out.step hio1 hok1
  have HBX1 := Lib.hid (boxed_kept HBXV.out hok1 (by omega))
  have HK1 := Lib.hid (HKV.out.trans hok1)
  have HE1 := Lib.hid hE1
  have HOK1 := Lib.hid hok1
  have HC1 := Lib.hid (put1 B b m (l ++ [40] ++ t0) (ByteArray.mk #[32, 45, 32]) W1 hio1 (by show (l ++ [40] ++ t0).length + 3 ≤ _; simp only [List.length_append, List.length_cons, List.length_nil]; omega) hE1.size)
  have b4' : W1.cell? ⟨w.heap.size, 4, none⟩ = some (.slice (some ⟨g, o, none⟩) 2 cap) := (exCells HBX1.out).2.2.2.2
  clear hio1 hok1 hE1 e00 e01 e02 e03 e04 b4
  go_wp2_with fail
  refine HC1.out.mono ?_
  rintro e W2 ⟨rfl, hio2, hok2⟩
  have hE2 := HE1.out.step hio2 hok2
  have HE2 := Lib.hid hE2
  have HOV := Lib.hid (HOK1.out.trans hok2)
  have HBX2 := Lib.hid (boxed_kept HBX1.out hok2 (by omega))
  have HK2 := Lib.hid (HK1.out.trans hok2)
  obtain ⟨p1, l1, c1, ⟨f0, f1, f2, f3, f4⟩, hx1⟩ := ExAt.part (k := 1) (x := Ex.mk 5 r nm d [x0, x1]) HG.out hE2.old (show 1 < 2 by decide) HE.out
  simp only [Nat.one_mul, Ex.sub, List.getElem_cons_succ, List.getElem_cons_zero] at f0 f1 f2 f3 f4 hx1
  have b4'' : W2.cell? ⟨w.heap.size, 4, none⟩ = some (.slice (some ⟨g, o, none⟩) 2 cap) := (exCells HBX2.out).2.2.2.2
  have HC2 := Lib.hid (HI.out x1 _ 1 _ W2 hx1 HO1.out (by omega) (by omega) hE2 (by rw [← HT1.out]; simp only [List.length_append]; show l.length + 1 + t0.length + 3 + _ ≤ _; omega))
  rw [← HT1.out] at HC2
  clear hio2 hok2 hE2 hx1 b4'
  go_wp2_with fail
  refine HC2.out.mono ?_
  rintro e W3 ⟨rfl, hio3, hok3⟩
  have HBV3 := HOV.out.2 _ _ (HBV.out) (by simpa using hvb) (by intro c fz e; simp at e)
  have HE3 := Lib.hid (HE2.out.step hio3 hok3)
  have HK3 := Lib.hid (HK2.out.trans hok3)
  have HBV4 := Lib.hid (hok3.2 _ _ HBV3 (by simpa using hvb) (by intro c fz e; simp at e))
  clear hio3 hok3 f0 f1 f2 f3 f4 b4'' HBV3
  go_wp2_with fail
  refine leaves_cons (f := 32) (args := #[.pointer (some ⟨b, 0, none⟩), .slice (some ⟨V1.heap.size, 0, none⟩) 1 1]) (by simp) (by simp [go_sem]) ?_
  refine (put_anyD B b _ m _ [ByteArray.mk #[41]] .returning W3 1 HE3.out.out HBV4.out rfl (by omega) (by simp only [List.length_append, List.length_cons, List.length_nil]; show l.length + (0 + 1) + t0.length + 3 + t1.length + 1 ≤ _; omega) HE3.out.size).mono ?_
  rintro e u' w'' ⟨rfl, rfl, hio4, hok4⟩
  exact ⟨_, results_none rfl _ _ _, rfl, by simpa [catB, List.append_assoc] using hio4, HK3.out.trans hok4⟩

set_option maxHeartbeats 4000000 in
set_option maxRecDepth 100000 in
theorem expr_par5_2 {Wb : World} {B b : Nat} {m : Value} {n : Nat} (ih : ExprC Wb B b m n) (r nm : ByteArray) (d : Int) (x0 x1 : Ex) (cs : List Value) (least : Int) (l : List UInt8) (w : World)
    (h : ExAt (n + 1) Wb cs (Ex.mk 5 r nm d [x0, x1])) (ho0 : OkX n x0) (ho1 : OkX n x1) (hl : least = 2) (he : OutEnv Wb B b m l w) (hlen : l.length + (pexT (n + 1) (Ex.mk 5 r nm d [x0, x1]) least).length ≤ 1000000000) :
    Calls Tryd.prog 23 #[.pointer (some ⟨b, 0, none⟩), .agg cs.toArray, .int .i64 least] w (WrP B b m (l ++ pexT (n + 1) (Ex.mk 5 r nm d [x0, x1]) least) w) := by
  subst hl
  have hpt : pexT (n + 1) (Ex.mk 5 r nm d [x0, x1]) 2 = [40] ++ (pexT n x0 0 ++ ([32, 45, 32] ++ (pexT n x1 1 ++ [41]))) := by
    rw [pexT]; simp [parT, opO, opS, opN, Ex.kind, prt, Ex.sub]
  rw [hpt] at hlen ⊢
  obtain ⟨t0, ht0⟩ : ∃ t, t = pexT n x0 0 := ⟨_, rfl⟩
  obtain ⟨t1, ht1⟩ : ∃ t, t = pexT n x1 1 := ⟨_, rfl⟩
  rw [← ht0, ← ht1] at hlen ⊢
  simp only [List.length_append, List.length_cons, List.length_nil] at hlen
  obtain ⟨a, len, cap, rfl, hlen2, hsub⟩ := h
  obtain rfl : len = 2 := hlen2.symm
  rcases hsub with h0 | ⟨g, o, rfl, hg, hel⟩
  · omega
  have HOP : Hid (∀ W, Calls Tryd.prog 40 #[.int .u8 5] W (fun e w' => e = .returned (.tuple #[.string (ByteArray.mk #[32, 45, 32]), .int .i64 0, .int .i64 1]) ∧ W = w')) := fun W => oper_any 5 W
  have HI := Lib.hid ih
  have HE := Lib.hid hel
  have HG := Lib.hid hg
  have HO0 := Lib.hid ho0
  have HO1 := Lib.hid ho1
  have HT0 := Lib.hid ht0
  have HT1 := Lib.hid ht1
  have HEN := Lib.hid he
  have hbw := he.lt
  clear ih hel hg ho0 ho1 ht0 ht1 hlen2 hpt
  show Calls Tryd.prog 23 #[.pointer (some ⟨b, 0, none⟩), .agg #[.int .u8 5, .string r, .string nm, .int .i64 d, .slice (some ⟨g, o, none⟩) 2 cap], .int .i64 2] w _
  go_enter_defers Tryd.func23, Tryd.ntmps23
  go_wp2_with fail
  refine (HOP.out _).mono ?_
  rintro e w' ⟨rfl, rfl⟩
  obtain ⟨W0, hW0⟩ : ∃ W0, W0 = w.alloc (.cells #[.int .u8 5, .string r, .string nm, .int .i64 d, .slice (some ⟨g, o, none⟩) 2 cap] 25) := ⟨_, rfl⟩
  have hbx : W0.heap[w.heap.size]? = some (.cells #[.int .u8 5, .string r, .string nm, .int .i64 d, .slice (some ⟨g, o, none⟩) 2 cap] 25) := by rw [hW0]; exact alloc_at _ _
  have hE0 : OutEnv Wb B b m l W0 := by rw [hW0]; exact HEN.out.below (own_below w _)
  have hK0 : OutK B b w W0 := by rw [hW0]; exact OutK.below (own_below w _) HEN.out.size
  rw [← hW0]
  have HE0 := Lib.hid hE0
  have HBX := Lib.hid hbx
  have HK0 := Lib.hid hK0
  have HCP := Lib.hid (put1 B b m l (ByteArray.mk #[40]) W0 hE0.out (by show l.length + 1 ≤ _; omega) hE0.size)
  clear hW0 hbx hE0 hK0
  go_wp2_with fail
  refine HCP.out.mono ?_
  rintro e V1 ⟨rfl, hioP, hokP⟩
  obtain ⟨V0, hV0⟩ : ∃ V0, V0 = V1.alloc (.cells #[.string (ByteArray.mk #[41])] 9) := ⟨_, rfl⟩
  have hEP := HE0.out.step hioP hokP
  have hEV : OutEnv Wb B b m (l ++ [40]) V0 := by rw [hV0]; exact hEP.below (own_below V1 _)
  have hbv : V0.heap[V1.heap.size]? = some (.cells #[.string (ByteArray.mk #[41])] 9 (0, 0)) := by rw [hV0]; exact alloc_at _ _
  have hbxP := boxed_kept HBX.out hokP (by omega)
  have hbx : V0.heap[w.heap.size]? = some (.cells #[.int .u8 5, .string r, .string nm, .int .i64 d, .slice (some ⟨g, o, none⟩) 2 cap] 25) := by rw [hV0]; exact (Below.heap_alloc V1 _ _ (Array.getElem?_eq_some_iff.1 hbxP).1).trans hbxP
  have hKV : OutK B b w V0 := by rw [hV0]; exact (HK0.out.trans hokP).alloc hEP.size _
  have HBV := Lib.hid hbv
  have HEV := Lib.hid hEV
  have HBXV := Lib.hid hbx
  have HKV := Lib.hid hKV
  have hvb : V1.heap.size ≠ b := by have := hEP.lt; omega
  have z1 : w.heap.size < V1.heap.size := (Array.getElem?_eq_some_iff.1 hbxP).1
  have z2 : g < V1.heap.size := Nat.lt_of_lt_of_le HG.out hEP.old.size
  have hE0 := hEP
  obtain ⟨p0, l0, c0, ⟨e00, e01, e02, e03, e04⟩, hx0⟩ := ExAt.part (k := 0) (x := Ex.mk 5 r nm d [x0, x1]) HG.out hE0.old (show 0 < 2 by decide) HE.out
  simp only [Nat.zero_mul, Nat.add_zero, Ex.sub, List.getElem_cons_zero] at e00 e01 e02 e03 e04 hx0
  have b4 : V1.cell? ⟨w.heap.size, 4, none⟩ = some (.slice (some ⟨g, o, none⟩) 2 cap) := (exCells hbxP).2.2.2.2
  have HC0 := Lib.hid (HI.out x0 _ 0 (l ++ [40]) V0 hx0 HO0.out (by omega) (by omega) hEV (by rw [← HT0.out]; simp only [List.length_append, List.length_cons, List.length_nil]; omega))
  rw [← HT0.out] at HC0
  clear hbx hE0 hKV hx0 hbxP hEP hEV hbv hioP hokP
  subst hV0
  go_wp2_with fail
  refine HC0.out.mono ?_
  rintro e W1 ⟨rfl, hio1, hok1⟩
  have hE1 := HEV.out.step hio1 hok1
  have HBX1 := Lib.hid (boxed_kept HBXV.out hok1 (by omega))
  have HK1 := Lib.hid (HKV.out.trans hok1)
  have HE1 := Lib.hid hE1
  have HOK1 := Lib.hid hok1
  have HC1 := Lib.hid (put1 B b m (l ++ [40] ++ t0) (ByteArray.mk #[32, 45, 32]) W1 hio1 (by show (l ++ [40] ++ t0).length + 3 ≤ _; simp only [List.length_append, List.length_cons, List.length_nil]; omega) hE1.size)
  have b4' : W1.cell? ⟨w.heap.size, 4, none⟩ = some (.slice (some ⟨g, o, none⟩) 2 cap) := (exCells HBX1.out).2.2.2.2
  clear hio1 hok1 hE1 e00 e01 e02 e03 e04 b4
  go_wp2_with fail
  refine HC1.out.mono ?_
  rintro e W2 ⟨rfl, hio2, hok2⟩
  have hE2 := HE1.out.step hio2 hok2
  have HE2 := Lib.hid hE2
  have HOV := Lib.hid (HOK1.out.trans hok2)
  have HBX2 := Lib.hid (boxed_kept HBX1.out hok2 (by omega))
  have HK2 := Lib.hid (HK1.out.trans hok2)
  obtain ⟨p1, l1, c1, ⟨f0, f1, f2, f3, f4⟩, hx1⟩ := ExAt.part (k := 1) (x := Ex.mk 5 r nm d [x0, x1]) HG.out hE2.old (show 1 < 2 by decide) HE.out
  simp only [Nat.one_mul, Ex.sub, List.getElem_cons_succ, List.getElem_cons_zero] at f0 f1 f2 f3 f4 hx1
  have b4'' : W2.cell? ⟨w.heap.size, 4, none⟩ = some (.slice (some ⟨g, o, none⟩) 2 cap) := (exCells HBX2.out).2.2.2.2
  have HC2 := Lib.hid (HI.out x1 _ 1 _ W2 hx1 HO1.out (by omega) (by omega) hE2 (by rw [← HT1.out]; simp only [List.length_append]; show l.length + 1 + t0.length + 3 + _ ≤ _; omega))
  rw [← HT1.out] at HC2
  clear hio2 hok2 hE2 hx1 b4'
  go_wp2_with fail
  refine HC2.out.mono ?_
  rintro e W3 ⟨rfl, hio3, hok3⟩
  have HBV3 := HOV.out.2 _ _ (HBV.out) (by simpa using hvb) (by intro c fz e; simp at e)
  have HE3 := Lib.hid (HE2.out.step hio3 hok3)
  have HK3 := Lib.hid (HK2.out.trans hok3)
  have HBV4 := Lib.hid (hok3.2 _ _ HBV3 (by simpa using hvb) (by intro c fz e; simp at e))
  clear hio3 hok3 f0 f1 f2 f3 f4 b4'' HBV3
  go_wp2_with fail
  refine leaves_cons (f := 32) (args := #[.pointer (some ⟨b, 0, none⟩), .slice (some ⟨V1.heap.size, 0, none⟩) 1 1]) (by simp) (by simp [go_sem]) ?_
  refine (put_anyD B b _ m _ [ByteArray.mk #[41]] .returning W3 1 HE3.out.out HBV4.out rfl (by omega) (by simp only [List.length_append, List.length_cons, List.length_nil]; show l.length + (0 + 1) + t0.length + 3 + t1.length + 1 ≤ _; omega) HE3.out.size).mono ?_
  rintro e u' w'' ⟨rfl, rfl, hio4, hok4⟩
  exact ⟨_, results_none rfl _ _ _, rfl, by simpa [catB, List.append_assoc] using hio4, HK3.out.trans hok4⟩

set_option maxHeartbeats 4000000 in
set_option maxRecDepth 100000 in
theorem expr_par6_2 {Wb : World} {B b : Nat} {m : Value} {n : Nat} (ih : ExprC Wb B b m n) (r nm : ByteArray) (d : Int) (x0 x1 : Ex) (cs : List Value) (least : Int) (l : List UInt8) (w : World)
    (h : ExAt (n + 1) Wb cs (Ex.mk 6 r nm d [x0, x1])) (ho0 : OkX n x0) (ho1 : OkX n x1) (hl : least = 2) (he : OutEnv Wb B b m l w) (hlen : l.length + (pexT (n + 1) (Ex.mk 6 r nm d [x0, x1]) least).length ≤ 1000000000) :
    Calls Tryd.prog 23 #[.pointer (some ⟨b, 0, none⟩), .agg cs.toArray, .int .i64 least] w (WrP B b m (l ++ pexT (n + 1) (Ex.mk 6 r nm d [x0, x1]) least) w) := by
  subst hl
  have hpt : pexT (n + 1) (Ex.mk 6 r nm d [x0, x1]) 2 = [40] ++ (pexT n x0 1 ++ ([32, 42, 32] ++ (pexT n x1 2 ++ [41]))) := by
    rw [pexT]; simp [parT, opO, opS, opN, Ex.kind, prt, Ex.sub]
  rw [hpt] at hlen ⊢
  obtain ⟨t0, ht0⟩ : ∃ t, t = pexT n x0 1 := ⟨_, rfl⟩
  obtain ⟨t1, ht1⟩ : ∃ t, t = pexT n x1 2 := ⟨_, rfl⟩
  rw [← ht0, ← ht1] at hlen ⊢
  simp only [List.length_append, List.length_cons, List.length_nil] at hlen
  obtain ⟨a, len, cap, rfl, hlen2, hsub⟩ := h
  obtain rfl : len = 2 := hlen2.symm
  rcases hsub with h0 | ⟨g, o, rfl, hg, hel⟩
  · omega
  have HOP : Hid (∀ W, Calls Tryd.prog 40 #[.int .u8 6] W (fun e w' => e = .returned (.tuple #[.string (ByteArray.mk #[32, 42, 32]), .int .i64 1, .int .i64 2]) ∧ W = w')) := fun W => oper_any 6 W
  have HI := Lib.hid ih
  have HE := Lib.hid hel
  have HG := Lib.hid hg
  have HO0 := Lib.hid ho0
  have HO1 := Lib.hid ho1
  have HT0 := Lib.hid ht0
  have HT1 := Lib.hid ht1
  have HEN := Lib.hid he
  have hbw := he.lt
  clear ih hel hg ho0 ho1 ht0 ht1 hlen2 hpt
  show Calls Tryd.prog 23 #[.pointer (some ⟨b, 0, none⟩), .agg #[.int .u8 6, .string r, .string nm, .int .i64 d, .slice (some ⟨g, o, none⟩) 2 cap], .int .i64 2] w _
  go_enter_defers Tryd.func23, Tryd.ntmps23
  go_wp2_with fail
  refine (HOP.out _).mono ?_
  rintro e w' ⟨rfl, rfl⟩
  obtain ⟨W0, hW0⟩ : ∃ W0, W0 = w.alloc (.cells #[.int .u8 6, .string r, .string nm, .int .i64 d, .slice (some ⟨g, o, none⟩) 2 cap] 25) := ⟨_, rfl⟩
  have hbx : W0.heap[w.heap.size]? = some (.cells #[.int .u8 6, .string r, .string nm, .int .i64 d, .slice (some ⟨g, o, none⟩) 2 cap] 25) := by rw [hW0]; exact alloc_at _ _
  have hE0 : OutEnv Wb B b m l W0 := by rw [hW0]; exact HEN.out.below (own_below w _)
  have hK0 : OutK B b w W0 := by rw [hW0]; exact OutK.below (own_below w _) HEN.out.size
  rw [← hW0]
  have HE0 := Lib.hid hE0
  have HBX := Lib.hid hbx
  have HK0 := Lib.hid hK0
  have HCP := Lib.hid (put1 B b m l (ByteArray.mk #[40]) W0 hE0.out (by show l.length + 1 ≤ _; omega) hE0.size)
  clear hW0 hbx hE0 hK0
  go_wp2_with fail
  refine HCP.out.mono ?_
  rintro e V1 ⟨rfl, hioP, hokP⟩
  obtain ⟨V0, hV0⟩ : ∃ V0, V0 = V1.alloc (.cells #[.string (ByteArray.mk #[41])] 9) := ⟨_, rfl⟩
  have hEP := HE0.out.step hioP hokP
  have hEV : OutEnv Wb B b m (l ++ [40]) V0 := by rw [hV0]; exact hEP.below (own_below V1 _)
  have hbv : V0.heap[V1.heap.size]? = some (.cells #[.string (ByteArray.mk #[41])] 9 (0, 0)) := by rw [hV0]; exact alloc_at _ _
  have hbxP := boxed_kept HBX.out hokP (by omega)
  have hbx : V0.heap[w.heap.size]? = some (.cells #[.int .u8 6, .string r, .string nm, .int .i64 d, .slice (some ⟨g, o, none⟩) 2 cap] 25) := by rw [hV0]; exact (Below.heap_alloc V1 _ _ (Array.getElem?_eq_some_iff.1 hbxP).1).trans hbxP
  have hKV : OutK B b w V0 := by rw [hV0]; exact (HK0.out.trans hokP).alloc hEP.size _
  have HBV := Lib.hid hbv
  have HEV := Lib.hid hEV
  have HBXV := Lib.hid hbx
  have HKV := Lib.hid hKV
  have hvb : V1.heap.size ≠ b := by have := hEP.lt; omega
  have z1 : w.heap.size < V1.heap.size := (Array.getElem?_eq_some_iff.1 hbxP).1
  have z2 : g < V1.heap.size := Nat.lt_of_lt_of_le HG.out hEP.old.size
  have hE0 := hEP
  obtain ⟨p0, l0, c0, ⟨e00, e01, e02, e03, e04⟩, hx0⟩ := ExAt.part (k := 0) (x := Ex.mk 6 r nm d [x0, x1]) HG.out hE0.old (show 0 < 2 by decide) HE.out
  simp only [Nat.zero_mul, Nat.add_zero, Ex.sub, List.getElem_cons_zero] at e00 e01 e02 e03 e04 hx0
  have b4 : V1.cell? ⟨w.heap.size, 4, none⟩ = some (.slice (some ⟨g, o, none⟩) 2 cap) := (exCells hbxP).2.2.2.2
  have HC0 := Lib.hid (HI.out x0 _ 1 (l ++ [40]) V0 hx0 HO0.out (by omega) (by omega) hEV (by rw [← HT0.out]; simp only [List.length_append, List.length_cons, List.length_nil]; omega))
  rw [← HT0.out] at HC0
  clear hbx hE0 hKV hx0 hbxP hEP hEV hbv hioP hokP
  subst hV0
  go_wp2_with fail
  refine HC0.out.mono ?_
  rintro e W1 ⟨rfl, hio1, hok1⟩
  have hE1 := HEV.out.step hio1 hok1
  have HBX1 := Lib.hid (boxed_kept HBXV.out hok1 (by omega))
  have HK1 := Lib.hid (HKV.out.trans hok1)
  have HE1 := Lib.hid hE1
  have HOK1 := Lib.hid hok1
  have HC1 := Lib.hid (put1 B b m (l ++ [40] ++ t0) (ByteArray.mk #[32, 42, 32]) W1 hio1 (by show (l ++ [40] ++ t0).length + 3 ≤ _; simp only [List.length_append, List.length_cons, List.length_nil]; omega) hE1.size)
  have b4' : W1.cell? ⟨w.heap.size, 4, none⟩ = some (.slice (some ⟨g, o, none⟩) 2 cap) := (exCells HBX1.out).2.2.2.2
  clear hio1 hok1 hE1 e00 e01 e02 e03 e04 b4
  go_wp2_with fail
  refine HC1.out.mono ?_
  rintro e W2 ⟨rfl, hio2, hok2⟩
  have hE2 := HE1.out.step hio2 hok2
  have HE2 := Lib.hid hE2
  have HOV := Lib.hid (HOK1.out.trans hok2)
  have HBX2 := Lib.hid (boxed_kept HBX1.out hok2 (by omega))
  have HK2 := Lib.hid (HK1.out.trans hok2)
  obtain ⟨p1, l1, c1, ⟨f0, f1, f2, f3, f4⟩, hx1⟩ := ExAt.part (k := 1) (x := Ex.mk 6 r nm d [x0, x1]) HG.out hE2.old (show 1 < 2 by decide) HE.out
  simp only [Nat.one_mul, Ex.sub, List.getElem_cons_succ, List.getElem_cons_zero] at f0 f1 f2 f3 f4 hx1
  have b4'' : W2.cell? ⟨w.heap.size, 4, none⟩ = some (.slice (some ⟨g, o, none⟩) 2 cap) := (exCells HBX2.out).2.2.2.2
  have HC2 := Lib.hid (HI.out x1 _ 2 _ W2 hx1 HO1.out (by omega) (by omega) hE2 (by rw [← HT1.out]; simp only [List.length_append]; show l.length + 1 + t0.length + 3 + _ ≤ _; omega))
  rw [← HT1.out] at HC2
  clear hio2 hok2 hE2 hx1 b4'
  go_wp2_with fail
  refine HC2.out.mono ?_
  rintro e W3 ⟨rfl, hio3, hok3⟩
  have HBV3 := HOV.out.2 _ _ (HBV.out) (by simpa using hvb) (by intro c fz e; simp at e)
  have HE3 := Lib.hid (HE2.out.step hio3 hok3)
  have HK3 := Lib.hid (HK2.out.trans hok3)
  have HBV4 := Lib.hid (hok3.2 _ _ HBV3 (by simpa using hvb) (by intro c fz e; simp at e))
  clear hio3 hok3 f0 f1 f2 f3 f4 b4'' HBV3
  go_wp2_with fail
  refine leaves_cons (f := 32) (args := #[.pointer (some ⟨b, 0, none⟩), .slice (some ⟨V1.heap.size, 0, none⟩) 1 1]) (by simp) (by simp [go_sem]) ?_
  refine (put_anyD B b _ m _ [ByteArray.mk #[41]] .returning W3 1 HE3.out.out HBV4.out rfl (by omega) (by simp only [List.length_append, List.length_cons, List.length_nil]; show l.length + (0 + 1) + t0.length + 3 + t1.length + 1 ≤ _; omega) HE3.out.size).mono ?_
  rintro e u' w'' ⟨rfl, rfl, hio4, hok4⟩
  exact ⟨_, results_none rfl _ _ _, rfl, by simpa [catB, List.append_assoc] using hio4, HK3.out.trans hok4⟩

end Go.Proofs.YtijkefflpojmhaaDoor

namespace Go.Proofs.YtijkefflpojmhaaDoor
open Go.RowKit

theorem oper_leaf {k : Int} (h4 : k ≠ 4) (h5 : k ≠ 5) (h6 : k ≠ 6) (W : World) : Calls Tryd.prog 40 #[.int .u8 k] W (fun e w' => e = .returned (.tuple #[.string (ByteArray.mk #[]), .int .i64 2, .int .i64 2]) ∧ W = w') := by
  have := oper_any k W
  unfold opS opO opN at this
  rw [if_neg h4, if_neg h5, if_neg h6, if_neg h4, if_neg h5, if_neg h6, if_neg h4, if_neg h5] at this
  exact this

set_option maxHeartbeats 2000000 in
set_option maxRecDepth 100000 in
theorem expr_rat {Wb : World} {B b : Nat} {m : Value} {n : Nat} (r nm : ByteArray) (d : Int) (sub : List Ex) (cs : List Value) (least : Int) (l : List UInt8) (w : World)
    (h : ExAt (n + 1) Wb cs (Ex.mk 1 r nm d sub)) (hl : least ≤ 2) (he : OutEnv Wb B b m l w) (hlen : l.length + (pexT (n + 1) (Ex.mk 1 r nm d sub) least).length ≤ 1000000000) :
    Calls Tryd.prog 23 #[.pointer (some ⟨b, 0, none⟩), .agg cs.toArray, .int .i64 least] w (WrP B b m (l ++ pexT (n + 1) (Ex.mk 1 r nm d sub) least) w) := by
  have hpt : pexT (n + 1) (Ex.mk 1 r nm d sub) least = r.data.toList := by
    rw [pexT]; simp [parT, opO, Ex.kind, leafT, Ex.rat]; omega
  rw [hpt] at hlen ⊢
  obtain ⟨a, len, cap, rfl, hlen2, hsub⟩ := h
  have HOP : Hid (∀ W, Calls Tryd.prog 40 #[.int .u8 1] W (fun e w' => e = .returned (.tuple #[.string (ByteArray.mk #[]), .int .i64 2, .int .i64 2]) ∧ W = w')) := fun W => oper_leaf (by decide) (by decide) (by decide) W
  have HEN := Lib.hid he
  have hbw := he.lt
  clear hlen2 hpt hsub
  show Calls Tryd.prog 23 #[.pointer (some ⟨b, 0, none⟩), .agg #[.int .u8 1, .string r, .string nm, .int .i64 d, .slice a len cap], .int .i64 least] w _
  go_enter Tryd.func23, Tryd.ntmps23
  go_wp2_with fail
  refine (HOP.out _).mono ?_
  rintro e w' ⟨rfl, rfl⟩
  obtain ⟨W0, hW0⟩ : ∃ W0, W0 = w.alloc (.cells #[.int .u8 1, .string r, .string nm, .int .i64 d, .slice a len cap] 25) := ⟨_, rfl⟩
  have hbx : W0.heap[w.heap.size]? = some (.cells #[.int .u8 1, .string r, .string nm, .int .i64 d, .slice a len cap] 25) := by rw [hW0]; exact alloc_at _ _
  have hE0 : OutEnv Wb B b m l W0 := by rw [hW0]; exact HEN.out.below (own_below w _)
  have HK0 : Hid (OutK B b w W0) := by rw [hW0]; exact OutK.below (own_below w _) HEN.out.size
  rw [← hW0]
  obtain ⟨b0, b1, b2, b3, b4⟩ := exCells hbx
  have HC := Lib.hid (put1 B b m l r W0 hE0.out (by have : r.data.toList.length = r.size := by simp
                                                    omega) hE0.size)
  clear hW0 hE0 hbx
  go_wp2_with fail
  refine HC.out.mono ?_
  rintro e W1 ⟨rfl, hio1, hok1⟩
  have HF : Hid (WrP B b m (l ++ r.data.toList) w (.returned (.tuple #[])) W1) := ⟨rfl, hio1, HK0.out.trans hok1⟩
  clear hio1 hok1
  go_wp2_with fail
  go_end0
  exact HF.out

set_option maxHeartbeats 2000000 in
set_option maxRecDepth 100000 in
theorem expr_now {Wb : World} {B b : Nat} {m : Value} {n : Nat} (r nm : ByteArray) (d : Int) (sub : List Ex) (cs : List Value) (least : Int) (l : List UInt8) (w : World)
    (h : ExAt (n + 1) Wb cs (Ex.mk 3 r nm d sub)) (hl : least ≤ 2) (he : OutEnv Wb B b m l w) (hlen : l.length + (pexT (n + 1) (Ex.mk 3 r nm d sub) least).length ≤ 1000000000) :
    Calls Tryd.prog 23 #[.pointer (some ⟨b, 0, none⟩), .agg cs.toArray, .int .i64 least] w (WrP B b m (l ++ pexT (n + 1) (Ex.mk 3 r nm d sub) least) w) := by
  have hpt : pexT (n + 1) (Ex.mk 3 r nm d sub) least = (qn nm).data.toList ++ [64, 110, 111, 119] := by
    rw [pexT]; simp [parT, opO, Ex.kind, leafT, Ex.name]; omega
  rw [hpt] at hlen ⊢
  obtain ⟨a, len, cap, rfl, hlen2, hsub⟩ := h
  have HOP : Hid (∀ W, Calls Tryd.prog 40 #[.int .u8 3] W (fun e w' => e = .returned (.tuple #[.string (ByteArray.mk #[]), .int .i64 2, .int .i64 2]) ∧ W = w')) := fun W => oper_leaf (by decide) (by decide) (by decide) W
  have HQ := Lib.hid (pqname_any nm)
  obtain ⟨q, hq⟩ : ∃ q, q = qn nm := ⟨_, rfl⟩
  rw [← hq] at HQ hlen ⊢
  have hlen3 : l.length + (q.size + 4) ≤ 1000000000 := by
    have : q.data.toList.length = q.size := by simp
    rw [List.length_append, this] at hlen; exact hlen
  have HEN := Lib.hid he
  have hbw := he.lt
  clear hlen2 hpt hsub hq hlen
  show Calls Tryd.prog 23 #[.pointer (some ⟨b, 0, none⟩), .agg #[.int .u8 3, .string r, .string nm, .int .i64 d, .slice a len cap], .int .i64 least] w _
  go_enter Tryd.func23, Tryd.ntmps23
  go_wp2_with fail
  refine (HOP.out _).mono ?_
  rintro e w' ⟨rfl, rfl⟩
  obtain ⟨W0, hW0⟩ : ∃ W0, W0 = w.alloc (.cells #[.int .u8 3, .string r, .string nm, .int .i64 d, .slice a len cap] 25) := ⟨_, rfl⟩
  have hbx : W0.heap[w.heap.size]? = some (.cells #[.int .u8 3, .string r, .string nm, .int .i64 d, .slice a len cap] 25) := by rw [hW0]; exact alloc_at _ _
  have hE0 : OutEnv Wb B b m l W0 := by rw [hW0]; exact HEN.out.below (own_below w _)
  have hK0 : OutK B b w W0 := by rw [hW0]; exact OutK.below (own_below w _) HEN.out.size
  rw [← hW0]
  have HE0 := Lib.hid hE0
  have HK0 := Lib.hid hK0
  obtain ⟨b0, b1, b2, b3, b4⟩ := exCells hbx
  clear hW0 hbx hE0 hK0
  go_wp2_with fail
  refine (HQ.out _).mono ?_
  rintro e V ⟨rfl, hb⟩
  have hEV := HE0.out.below hb
  have HKV := Lib.hid (HK0.out.trans (OutK.below (b := b) hb HE0.out.size))
  have HC := Lib.hid (put2 B b m l q (ByteArray.mk #[64, 110, 111, 119]) V hEV.out (by show l.length + (q.size + 4) ≤ _; omega) hEV.size)
  clear hb hEV
  go_wp2_with fail
  refine HC.out.mono ?_
  rintro e W1 ⟨rfl, hio1, hok1⟩
  have HF : Hid (WrP B b m (l ++ (q.data.toList ++ [64, 110, 111, 119])) w (.returned (.tuple #[])) W1) := ⟨rfl, hio1, HKV.out.trans hok1⟩
  clear hio1 hok1
  go_wp2_with fail
  go_end0
  exact HF.out

set_option maxHeartbeats 4000000 in
set_option maxRecDepth 100000 in
theorem expr_fix {Wb : World} {B b : Nat} {m : Value} {n : Nat} (r nm : ByteArray) (d : Int) (sub : List Ex) (cs : List Value) (least : Int) (l : List UInt8) (w : World) (hd0 : 0 ≤ d) (hd1 : d ≤ 99999)
    (h : ExAt (n + 1) Wb cs (Ex.mk 2 r nm d sub)) (hl : least ≤ 2) (he : OutEnv Wb B b m l w) (hlen : l.length + (pexT (n + 1) (Ex.mk 2 r nm d sub) least).length ≤ 1000000000) :
    Calls Tryd.prog 23 #[.pointer (some ⟨b, 0, none⟩), .agg cs.toArray, .int .i64 least] w (WrP B b m (l ++ pexT (n + 1) (Ex.mk 2 r nm d sub) least) w) := by
  have hpt : pexT (n + 1) (Ex.mk 2 r nm d sub) least = (qn nm).data.toList ++ ([64] ++ (dS d).data.toList) := by
    rw [pexT]; simp [parT, opO, Ex.kind, leafT, Ex.name, Ex.date, dS]; omega
  rw [hpt] at hlen ⊢
  obtain ⟨a, len, cap, rfl, hlen2, hsub⟩ := h
  have HOP : Hid (∀ W, Calls Tryd.prog 40 #[.int .u8 2] W (fun e w' => e = .returned (.tuple #[.string (ByteArray.mk #[]), .int .i64 2, .int .i64 2]) ∧ W = w')) := fun W => oper_leaf (by decide) (by decide) (by decide) W
  have HQ := Lib.hid (pqname_any nm)
  have HD : Hid (∀ W, Calls Tryd.prog 33 #[.int .i64 d] W (fun e w' => e = .returned (.string (dS d)) ∧ Below W.heap.size W w')) := fun W => pdayT_is hd0 hd1 W
  obtain ⟨q, hq⟩ : ∃ q, q = qn nm := ⟨_, rfl⟩
  obtain ⟨s, hs⟩ : ∃ s, s = dS d := ⟨_, rfl⟩
  rw [← hq, ← hs] at hlen ⊢
  rw [← hq] at HQ
  rw [← hs] at HD
  have hlen3 : l.length + (q.size + (1 + s.size)) ≤ 1000000000 := by
    have h1 : q.data.toList.length = q.size := by simp
    have h2 : s.data.toList.length = s.size := by simp
    rw [List.length_append, List.length_append, h1, h2] at hlen; exact hlen
  have HEN := Lib.hid he
  have hbw := he.lt
  clear hlen2 hpt hsub hq hlen hs hd0 hd1
  show Calls Tryd.prog 23 #[.pointer (some ⟨b, 0, none⟩), .agg #[.int .u8 2, .string r, .string nm, .int .i64 d, .slice a len cap], .int .i64 least] w _
  go_enter Tryd.func23, Tryd.ntmps23
  go_wp2_with fail
  refine (HOP.out _).mono ?_
  rintro e w' ⟨rfl, rfl⟩
  obtain ⟨W0, hW0⟩ : ∃ W0, W0 = w.alloc (.cells #[.int .u8 2, .string r, .string nm, .int .i64 d, .slice a len cap] 25) := ⟨_, rfl⟩
  have hbx : W0.heap[w.heap.size]? = some (.cells #[.int .u8 2, .string r, .string nm, .int .i64 d, .slice a len cap] 25) := by rw [hW0]; exact alloc_at _ _
  have hE0 : OutEnv Wb B b m l W0 := by rw [hW0]; exact HEN.out.below (own_below w _)
  have hK0 : OutK B b w W0 := by rw [hW0]; exact OutK.below (own_below w _) HEN.out.size
  rw [← hW0]
  have HE0 := Lib.hid hE0
  have HK0 := Lib.hid hK0
  have HBX := Lib.hid hbx
  obtain ⟨b0, b1, b2, b3, b4⟩ := exCells hbx
  have SB : ∀ W, Below W0.heap.size W0 W → W.cell? ⟨w.heap.size, 2, none⟩ = some (.string nm) ∧ W.cell? ⟨w.heap.size, 3, none⟩ = some (.int .i64 d) := fun W hW =>
    have q := exCells ((hW.block _ (Array.getElem?_eq_some_iff.1 hbx).1).trans hbx)
    ⟨q.2.2.1, q.2.2.2.1⟩
  have HSB := Lib.hid SB
  have HC0 : Hid (Below W0.heap.size W0 W0) := Below.refl _ W0
  have HC : Hid (Below W0.heap.size W0 W0.drew) := (Below.refl _ W0).drew
  clear hW0 hbx hE0 hK0 SB
  go_wp2_with fail
  go_region_held3 (fun W => W.cell? ⟨w.heap.size, 2, none⟩ = some (.string nm) ∧ W.cell? ⟨w.heap.size, 3, none⟩ = some (.int .i64 d))
    ((first | with_reducible exact HSB.out _ HC.out | with_reducible exact HSB.out _ HC0.out | with_reducible exact HSB.out _ (HC.out.alloc HC.out.size _) | with_reducible exact HSZ.out))
    ((first
      | (go_at_call 25; refine (HQ.out _).mono ?_; rintro e u ⟨rfl, hb⟩; have HC := Lib.hid (HC.out.trans (hb.mono HC.out.size)); clear hb)
      | (go_at_call 33; refine (HD.out _).mono ?_; rintro e u ⟨rfl, hb⟩; have HC := Lib.hid (HC.out.trans (hb.mono HC.out.size)); clear hb)
      | (go_at_call 32; refine (put3 B b m l q (ByteArray.mk #[64]) s _ (HE0.out.below HC.out).out (by show l.length + (q.size + (1 + s.size)) ≤ _; omega) (HE0.out.below HC.out).size).mono ?_; rintro e u ⟨rfl, hio, hok⟩; have HIO := Lib.hid hio; have HOK := Lib.hid ((OutK.below (b := b) HC.out HE0.out.size).trans hok); have HXX := exCells (boxed_kept HBX.out HOK.out (by omega)); have HSZ := Lib.hid (And.intro HXX.2.2.1 HXX.2.2.2.1); clear HXX; clear hio hok)))
  have HF : Hid (WrP B b m (l ++ (q.data.toList ++ ([64] ++ s.data.toList))) w (.returned (.tuple #[])) u) := ⟨rfl, HIO.out, HK0.out.trans HOK.out⟩
  go_wp2_with fail
  go_end0
  exact HF.out

end Go.Proofs.YtijkefflpojmhaaDoor

namespace Go.Proofs.YtijkefflpojmhaaDoor
open Go.RowKit

theorem commas_snoc (l : List (List UInt8)) (a : List UInt8) : commas (l ++ [a]) = if l = [] then a else commas l ++ ([44, 32] ++ a) := by
  induction l with
  | nil => rfl
  | cons b l ih =>
    rw [if_neg (by simp)]
    cases l with
    | nil => simp [commas]
    | cons c l =>
      rw [if_neg (by simp)] at ih
      show b ++ [44, 32] ++ commas (c :: l ++ [a]) = b ++ [44, 32] ++ commas (c :: l) ++ ([44, 32] ++ a)
      rw [ih]
      simp [List.append_assoc]
theorem commas_le (l1 l2 : List (List UInt8)) : (commas l1).length ≤ (commas (l1 ++ l2)).length := by
  induction l2 generalizing l1 with
  | nil => simp
  | cons a l2 ih =>
    have h := ih (l1 ++ [a])
    rw [List.append_assoc] at h
    refine Nat.le_trans ?_ h
    rw [commas_snoc]
    split
    · rename_i h; rw [h]; simp [commas]
    · simp only [List.length_append]; omega
/-- The parts' texts so far. -/
noncomputable def comT (n : Nat) (x : Ex) (k : Nat) : List UInt8 := commas ((x.sub.take k).map fun y => pexT n y 0)
theorem comT_zero (n : Nat) (x : Ex) : comT n x 0 = [] := by simp [comT, commas]
theorem comT_one (n : Nat) (x : Ex) (h : 0 < x.sub.length) : comT n x 1 = pexT n x.sub[0] 0 := by
  unfold comT
  rw [List.take_succ_eq_append_getElem h]; simp [commas]
theorem comT_succ (n : Nat) (x : Ex) (k : Nat) (h : k < x.sub.length) (h0 : 0 < k) : comT n x (k + 1) = comT n x k ++ ([44, 32] ++ pexT n x.sub[k] 0) := by
  unfold comT
  rw [List.take_succ_eq_append_getElem h, List.map_append, List.map_singleton, commas_snoc, if_neg (by
    intro e
    have e2 := congrArg List.length e
    rw [List.length_map, List.length_take, List.length_nil] at e2
    omega)]
theorem comT_le (n : Nat) (x : Ex) (k : Nat) : (comT n x k).length ≤ (commas (x.sub.map fun y => pexT n y 0)).length := by
  have e : x.sub.map (fun y => pexT n y 0) = (x.sub.take k).map (fun y => pexT n y 0) ++ (x.sub.drop k).map (fun y => pexT n y 0) := by rw [← List.map_append, List.take_append_drop]
  rw [e]
  exact commas_le _ _
theorem comT_all (n : Nat) (x : Ex) (k : Nat) (h : x.sub.length ≤ k) : comT n x k = commas (x.sub.map fun y => pexT n y 0) := by
  unfold comT; rw [List.take_of_length_le h]
theorem pexT_word (n : Nat) (x : Ex) (least : Int) (hk : HasWd x.kind) (hl : least ≤ 2) : pexT (n + 1) x least = wdL x.kind ++ ([40] ++ (commas (x.sub.map fun y => pexT n y 0) ++ [41])) := by
  have : opO x.kind = 2 := by unfold opO; unfold HasWd at hk; rw [if_neg (by omega), if_neg (by omega), if_neg (by omega)]
  rw [pexT, this, parT, if_neg (by simp; omega), if_neg (by unfold HasWd at hk; omega), if_neg (by unfold HasWd at hk; omega)]
  simp
/-- The parts that are written so far. -/
def ComR (Wb : World) (B b : Nat) (m : Value) (n : Nat) (x : Ex) (l wd : List UInt8) (V : World) (len : Nat) (iv : Value) (wr : World) : Prop :=
  ∃ k : Nat, k ≤ len ∧ iv = .int .i64 (k : Int) ∧ OutEnv Wb B b m (l ++ (wd ++ [40]) ++ comT n x k) wr ∧ OutK B b V wr
theorem wdL_short (k : Int) : (wdL k).length ≤ 5 := by
  unfold wdL
  (repeat' split) <;> simp

set_option maxHeartbeats 1600000 in
set_option maxRecDepth 100000 in
theorem expr_word {Wb : World} {B b : Nat} {m : Value} {n : Nat} (ih : ExprC Wb B b m n) (x : Ex) (cs : List Value) (least : Int) (l : List UInt8) (w : World) (hk : HasWd x.kind) (ho : ∀ y ∈ x.sub, OkX n y)
    (h : ExAt (n + 1) Wb cs x) (hl : least ≤ 2) (hs : x.sub.length ≤ 1000) (he : OutEnv Wb B b m l w) (hlen : l.length + (pexT (n + 1) x least).length ≤ 1000000000) :
    Calls Tryd.prog 23 #[.pointer (some ⟨b, 0, none⟩), .agg cs.toArray, .int .i64 least] w (WrP B b m (l ++ pexT (n + 1) x least) w) := by
  rw [pexT_word n x least hk hl] at hlen ⊢
  have hwz := wdL_short x.kind
  obtain ⟨wd, hwd⟩ : ∃ wd, wd = wdL x.kind := ⟨_, rfl⟩
  have hlook : ∀ W, WordsAt m W → (Instr.lookup 48 m (.int .u8 x.kind) false).run Tryd.prog W = .ok (.string ⟨wd.toArray⟩) W := fun W h => by rw [hwd]; exact h.look hk
  rw [← hwd] at hlen hwz ⊢
  have HCM : Hid (∀ k, (comT n x k).length ≤ (commas (x.sub.map fun y => pexT n y 0)).length) := comT_le n x
  have HALL : Hid (∀ k, x.sub.length ≤ k → comT n x k = commas (x.sub.map fun y => pexT n y 0)) := comT_all n x
  obtain ⟨Z, hZ⟩ : ∃ Z, Z = commas (x.sub.map fun y => pexT n y 0) := ⟨_, rfl⟩
  rw [← hZ] at hlen HCM HALL ⊢
  simp only [List.length_append, List.length_cons, List.length_nil] at hlen
  obtain ⟨a, len, cap, rfl, hlen2, hsub⟩ := h
  have k4 : x.kind ≠ 4 := by unfold HasWd at hk; omega
  have k5 : x.kind ≠ 5 := by unfold HasWd at hk; omega
  have k6 : x.kind ≠ 6 := by unfold HasWd at hk; omega
  have k1 : ((x.kind : Int) == 1) = false := op_beq_no (by unfold HasWd at hk; omega)
  have k2 : ((x.kind : Int) == 2) = false := op_beq_no (by unfold HasWd at hk; omega)
  have k3 : ((x.kind : Int) == 3) = false := op_beq_no (by unfold HasWd at hk; omega)
  have HOP : Hid (∀ W, Calls Tryd.prog 40 #[.int .u8 x.kind] W (fun e w' => e = .returned (.tuple #[.string (ByteArray.mk #[]), .int .i64 2, .int .i64 2]) ∧ W = w')) := fun W => oper_leaf k4 k5 k6 W
  obtain ⟨kd, hkd⟩ : ∃ kd, kd = x.kind := ⟨_, rfl⟩
  rw [← hkd] at HOP k1 k2 k3 hlook ⊢
  have HI := Lib.hid ih
  have HS := Lib.hid hsub
  have HL := Lib.hid hlen2
  have HO := Lib.hid ho
  have HLK := Lib.hid hlook
  have HEN := Lib.hid he
  have hbw := he.lt
  have hlb : len ≤ 1000 := by omega
  clear ih hsub hlen2 ho hlook hwd hZ hk k4 k5 k6 hkd
  show Calls Tryd.prog 23 #[.pointer (some ⟨b, 0, none⟩), .agg #[.int .u8 kd, .string x.rat, .string x.name, .int .i64 x.date, .slice a len cap], .int .i64 least] w _
  go_enter Tryd.func23, Tryd.ntmps23
  go_wp2_with fail
  refine (HOP.out _).mono ?_
  rintro e w' ⟨rfl, rfl⟩
  obtain ⟨W0, hW0⟩ : ∃ W0, W0 = w.alloc (.cells #[.int .u8 kd, .string x.rat, .string x.name, .int .i64 x.date, .slice a len cap] 25) := ⟨_, rfl⟩
  have hbx : W0.heap[w.heap.size]? = some (.cells #[.int .u8 kd, .string x.rat, .string x.name, .int .i64 x.date, .slice a len cap] 25) := by rw [hW0]; exact alloc_at _ _
  have hE0 : OutEnv Wb B b m l W0 := by rw [hW0]; exact HEN.out.below (own_below w _)
  have hK0 : OutK B b w W0 := by rw [hW0]; exact OutK.below (own_below w _) HEN.out.size
  rw [← hW0]
  have HE0 := Lib.hid hE0
  have HK0 := Lib.hid hK0
  have HBX := Lib.hid hbx
  obtain ⟨b0, b1, b2, b3, b4⟩ := exCells hbx
  have hbm : W0.cell? ⟨b, 2, none⟩ = some m := by
    obtain ⟨p, hp⟩ := hE0.out.at
    obtain ⟨_, v, hv, _⟩ := hp
    rw [Lib.cell_of_heap hv]; rfl
  have hlk0 := HLK.out W0.drew hE0.words
  have SB : ∀ W, Below W0.heap.size W0 W → W.cell? ⟨b, 2, none⟩ = some m ∧ W.cell? ⟨w.heap.size, 0, none⟩ = some (.int .u8 kd) := fun W hW =>
    ⟨((bcell hW).1 _ _ hE0.lt).trans hbm, ((bcell hW).1 _ _ (Array.getElem?_eq_some_iff.1 hbx).1).trans b0⟩
  have HSB := Lib.hid SB
  have HC0 : Hid (Below W0.heap.size W0 W0) := Below.refl _ W0
  have HC : Hid (Below W0.heap.size W0 W0.drew) := (Below.refl _ W0).drew
  have dle : decide ((2 : Int) < least) = false := by simp; omega
  have hbz := hE0.lt
  have hxz : w.heap.size < W0.heap.size := (Array.getElem?_eq_some_iff.1 hbx).1
  have HED : Hid (OutEnv Wb B b m l W0.drew) := hE0.below (Below.refl _ W0).drew
  have HKD : Hid (OutK B b w W0.drew) := hK0.drew
  clear hW0 hbx hE0 hK0 SB
  go_wp2_with fail
  go_region_held3 (fun W => W.cell? ⟨b, 2, none⟩ = some m ∧ W.cell? ⟨w.heap.size, 0, none⟩ = some (.int .u8 kd))
    ((first | with_reducible exact HSB.out _ HC.out | with_reducible exact HSB.out _ HC0.out | with_reducible exact HSB.out _ (HC.out.alloc HC.out.size _) | with_reducible exact HSB.out _ ((HC0.out.alloc HC0.out.size _).drew) | with_reducible exact HSZ.out))
    ((go_at_call 32; refine (put2 B b m l ⟨wd.toArray⟩ (ByteArray.mk #[40]) _ HED.out.out (by show l.length + (wd.length + 1) ≤ _; omega) HED.out.size).mono ?_; rintro e V ⟨rfl, hio, hok⟩; have HEV := Lib.hid (HED.out.step hio hok); have HKV := Lib.hid (HKD.out.trans hok); have HBXV := Lib.hid (boxed_kept HBX.out (OutK.trans (OutK.drew (OutK.refl B b W0)) hok) (by omega)); have HVW := HEV.out.out.at; obtain ⟨pV, _, vV, hvV, _⟩ := HVW; have HSZ := Lib.hid (And.intro (show V.cell? ⟨b, 2, none⟩ = some m by rw [Lib.cell_of_heap hvV]; rfl) (exCells HBXV.out).1); clear hio hok hvV))
  obtain ⟨c0, c1, c2, c3, c4⟩ := exCells HBXV.out
  have hVz := HEV.out.size
  clear b0 b1 b2 b3 b4 hbm hlk0
  go_wp2_with fail
  go_loopw [9, 10, 39] (fun _ _ iv wr => ComR Wb B b m n x l wd V len iv wr) (fun _ _ iv _ => len - (intOf iv).toNat)
  case atStart => exact ⟨0, Nat.zero_le _, rfl, by rw [comT_zero]; simpa using HEV.out, OutK.refl _ _ _⟩
  case round =>
    obtain ⟨w1, rfl⟩ : ∃ w1 : World, w1 = wr := ⟨_, rfl⟩
    obtain ⟨k, hk, rfl, hen, hok⟩ := hrel
    have HE := Lib.hid hen
    have HK := Lib.hid hok
    have hbz1 := hen.lt
    clear hen hok
    by_cases hlt : k < len
    · have hlt2 : k < x.sub.length := by rw [HL.out]; exact hlt
      rcases HS.out with h0 | ⟨g, o, ha, hg, hel⟩
      · omega
      · subst ha
        obtain ⟨p1, l1, cc, ⟨e0, e1, e2, e3, e4⟩, hx1⟩ := ExAt.part hg HE.out.old hlt2 hel
        have hoy := HO.out _ (List.getElem_mem hlt2)
        have q1 := HCM.out (k + 1)
        have zg : g < w1.heap.size := Nat.lt_of_lt_of_le hg HE.out.old.size
        by_cases hk0 : k = 0
        · subst hk0
          have hT := comT_one n x hlt2
          obtain ⟨y, hy⟩ : ∃ y, y = x.sub[0] := ⟨_, rfl⟩
          rw [← hy] at e0 e1 e2 e3 hx1 hoy hT
          rw [hT] at q1
          have HT := Lib.hid hT
          have hC := HI.out y _ 0 (l ++ (wd ++ [40])) (w1.alloc (.cells #[.int .u8 y.kind, .string y.rat, .string y.name, .int .i64 y.date, .slice p1 l1 cc] 25)) hx1 hoy (by omega) (by omega) (by
            have := HE.out.below (own_below w1 (.cells #[.int .u8 y.kind, .string y.rat, .string y.name, .int .i64 y.date, .slice p1 l1 cc] 25))
            rwa [comT_zero, List.append_nil] at this) (by simp only [List.length_append, List.length_cons, List.length_nil]; omega)
          have HC := Lib.hid hC
          have HOA := Lib.hid (HK.out.alloc HE.out.size (.cells #[.int .u8 y.kind, .string y.rat, .string y.name, .int .i64 y.date, .slice p1 l1 cc] 25))
          have HEA := Lib.hid (HE.out.below (own_below w1 (.cells #[.int .u8 y.kind, .string y.rat, .string y.name, .int .i64 y.date, .slice p1 l1 cc] 25)))
          simp only [Nat.zero_mul, Nat.add_zero] at e0 e1 e2 e3 e4
          clear hC hT hx1 hoy hy q1 hel
          go_wp2_with fail
          refine HC.out.mono ?_
          rintro e w2 ⟨rfl, hio, hok⟩
          have HR : Hid (OutEnv Wb B b m (l ++ (wd ++ [40]) ++ comT n x (0 + 1)) w2 ∧ OutK B b V w2) := ⟨by
            have q := HEA.out.step hio hok
            rw [comT_zero, List.append_nil] at *
            rw [show comT n x (0 + 1) = comT n x 1 from rfl, HT.out]
            exact q, HOA.out.trans hok⟩
          clear hio hok e0 e1 e2 e3 e4
          go_wp2_with fail
          go_roundw
          case rel => exact ⟨0 + 1, by omega, by go_num, HR.out.1, HR.out.2⟩
          case measure => simp [intOf] <;> omega
        · have hk1 : 0 < k := by omega
          have hT := comT_succ n x k hlt2 hk1
          obtain ⟨y, hy⟩ : ∃ y, y = x.sub[k] := ⟨_, rfl⟩
          rw [← hy] at e0 e1 e2 e3 hx1 hoy hT
          rw [hT] at q1
          have HT := Lib.hid hT
          simp only [List.length_append, List.length_cons, List.length_nil] at q1
          obtain ⟨V1, hV1⟩ : ∃ V1, V1 = w1.alloc (.cells #[.int .u8 y.kind, .string y.rat, .string y.name, .int .i64 y.date, .slice p1 l1 cc] 25) := ⟨_, rfl⟩
          have hbv : V1.heap[w1.heap.size]? = some (.cells #[.int .u8 y.kind, .string y.rat, .string y.name, .int .i64 y.date, .slice p1 l1 cc] 25) := by rw [hV1]; exact alloc_at _ _
          have hEA : OutEnv Wb B b m (l ++ (wd ++ [40]) ++ comT n x k) V1 := by rw [hV1]; exact HE.out.below (own_below w1 _)
          have hOA : OutK B b V V1 := by rw [hV1]; exact HK.out.alloc HE.out.size _
          have hP := put1 B b m _ (ByteArray.mk #[44, 32]) V1 hEA.out (by show _ + 2 ≤ _; simp only [List.length_append, List.length_cons, List.length_nil]; omega) hEA.size
          have hVz : V1.heap.size = w1.heap.size + 1 := by rw [hV1]; simp
          rw [hVz] at hP
          have HP := Lib.hid hP
          clear hP hVz
          have HBV := Lib.hid hbv
          have HEA := Lib.hid hEA
          have HOA := Lib.hid hOA
          have HV := Lib.hid hV1
          have HX1 := Lib.hid hx1
          have HOY := Lib.hid hoy
          clear hT hx1 hoy hy hel hbv hEA hOA hV1
          have hd : decide ((0 : Int) < (k : Int)) = true := by simp; omega
          go_wp2_with fail
          rw [← HV.out]
          clear HV
          refine HP.out.mono ?_
          rintro e V2 ⟨rfl, hio, hok⟩
          have hEB := HEA.out.step hio hok
          have hbx2 := boxed_kept HBV.out hok (by omega)
          obtain ⟨f0, f1, f2, f3, f4⟩ := exCells hbx2
          have HC := Lib.hid (HI.out y _ 0 _ V2 HX1.out HOY.out (by omega) (by omega) hEB (by show (_ ++ [44, 32]).length + _ ≤ _; simp only [List.length_append, List.length_cons, List.length_nil]; omega))
          have HEB := Lib.hid hEB
          have HOB := Lib.hid (HOA.out.trans hok)
          clear hio hok hEB hbx2 e0 e1 e2 e3 e4
          go_wp2_with fail
          refine HC.out.mono ?_
          rintro e w2 ⟨rfl, hio, hok⟩
          have HR : Hid (OutEnv Wb B b m (l ++ (wd ++ [40]) ++ comT n x (k + 1)) w2 ∧ OutK B b V w2) := ⟨by
            have q := HEB.out.step hio hok
            rw [HT.out]
            simpa only [List.append_assoc] using q, HOB.out.trans hok⟩
          clear hio hok f0 f1 f2 f3 f4
          go_wp2_with fail
          go_roundw
          case rel => exact ⟨k + 1, by omega, by go_num, HR.out.1, HR.out.2⟩
          case measure => simp [intOf] <;> omega
    · have HT := Lib.hid (HALL.out k (by rw [HL.out]; omega))
      have hP := put1 B b m _ (ByteArray.mk #[41]) w1 HE.out.out (by
        show _ + 1 ≤ _
        rw [HT.out]
        simp only [List.length_append, List.length_cons, List.length_nil]; omega) HE.out.size
      have HP := Lib.hid hP
      clear hP
      go_wp2_with fail
      refine HP.out.mono ?_
      rintro e w2 ⟨rfl, hio, hok⟩
      have HF : Hid (WrP B b m (l ++ (wd ++ ([40] ++ (Z ++ [41])))) w (.returned (.tuple #[])) w2) := ⟨rfl, by rw [HT.out] at hio; simpa [List.append_assoc] using hio, HKV.out.trans (HK.out.trans hok)⟩
      clear hio hok
      go_wp2_with fail
      go_end0
      exact HF.out

end Go.Proofs.YtijkefflpojmhaaDoor

namespace Go.Proofs.YtijkefflpojmhaaDoor
open Go.RowKit

theorem ex_two {l : List Ex} (h : l.length = 2) : ∃ x0 x1, l = [x0, x1] := by
  match l, h with
  | [x0, x1], _ => exact ⟨x0, x1, rfl⟩
theorem expr_all (Wb : World) (B b : Nat) (m : Value) : ∀ n, ExprC Wb B b m n := by
  intro n
  induction n with
  | zero => intro x cs least l w h; exact h.elim
  | succ n ih =>
    intro x cs least l w h ho h0 h2 he hlen
    obtain ⟨hk, hs⟩ := ho
    obtain ⟨k, r, nm, d, sub⟩ := x
    rcases hk with hk | ⟨hk, d0, d1⟩ | hk | ⟨hk, hsub⟩ | ⟨hk, hz⟩
    · obtain rfl : k = 1 := hk
      exact expr_rat r nm d sub cs least l w h h2 he hlen
    · obtain rfl : k = 2 := hk
      exact expr_fix r nm d sub cs least l w d0 d1 h h2 he hlen
    · obtain rfl : k = 3 := hk
      exact expr_now r nm d sub cs least l w h h2 he hlen
    · obtain ⟨x0, x1, rfl⟩ : ∃ x0 x1, sub = [x0, x1] := ex_two hsub
      have o0 : OkX n x0 := hs x0 (by simp [Ex.sub])
      have o1 : OkX n x1 := hs x1 (by simp [Ex.sub])
      have hl : least = 0 ∨ least = 1 ∨ least = 2 := by omega
      rcases hk with hk | hk | hk
      · obtain rfl : k = 4 := hk
        rcases hl with hl | hl | hl
        · exact expr_op4_0 ih r nm d x0 x1 cs least l w h o0 o1 hl he hlen
        · exact expr_par4_1 ih r nm d x0 x1 cs least l w h o0 o1 hl he hlen
        · exact expr_par4_2 ih r nm d x0 x1 cs least l w h o0 o1 hl he hlen
      · obtain rfl : k = 5 := hk
        rcases hl with hl | hl | hl
        · exact expr_op5_0 ih r nm d x0 x1 cs least l w h o0 o1 hl he hlen
        · exact expr_par5_1 ih r nm d x0 x1 cs least l w h o0 o1 hl he hlen
        · exact expr_par5_2 ih r nm d x0 x1 cs least l w h o0 o1 hl he hlen
      · obtain rfl : k = 6 := hk
        rcases hl with hl | hl | hl
        · exact expr_op6_0 ih r nm d x0 x1 cs least l w h o0 o1 hl he hlen
        · exact expr_op6_1 ih r nm d x0 x1 cs least l w h o0 o1 hl he hlen
        · exact expr_par6_2 ih r nm d x0 x1 cs least l w h o0 o1 hl he hlen
    · exact expr_word ih _ cs least l w hk hs h h2 (by omega) he hlen

/-- What the reference's Expr returns. -/
def RxP (w : World) (t : List UInt8) (e : Ending) (w' : World) : Prop := e = .returned (.string ⟨t.toArray⟩) ∧ Below w.heap.size w w'
/-- The parts' texts so far. -/
noncomputable def romT (n : Nat) (l : List Ex) (k : Nat) : List UInt8 := commas ((l.take k).map (rexT n))
theorem romT_one (n : Nat) (l : List Ex) (h : 0 < l.length) : romT n l 1 = rexT n l[0] := by
  unfold romT
  rw [List.take_succ_eq_append_getElem h]; simp [commas]
theorem romT_succ (n : Nat) (l : List Ex) (k : Nat) (h : k < l.length) (h0 : 0 < k) : romT n l (k + 1) = romT n l k ++ ([44, 32] ++ rexT n l[k]) := by
  unfold romT
  rw [List.take_succ_eq_append_getElem h, List.map_append, List.map_singleton, commas_snoc, if_neg (by
    intro e
    have e2 := congrArg List.length e
    rw [List.length_map, List.length_take, List.length_nil] at e2
    omega)]
theorem romT_le (n : Nat) (l : List Ex) (k : Nat) : (romT n l k).length ≤ (commas (l.map (rexT n))).length := by
  have e : l.map (rexT n) = (l.take k).map (rexT n) ++ (l.drop k).map (rexT n) := by rw [← List.map_append, List.take_append_drop]
  rw [e]
  exact commas_le _ _
theorem romT_all (n : Nat) (l : List Ex) (k : Nat) (h : l.length ≤ k) : romT n l k = commas (l.map (rexT n)) := by
  unfold romT; rw [List.take_of_length_le h]
theorem ba_eq {s : ByteArray} {l : List UInt8} (h : s.data.toList = l) : s = ⟨l.toArray⟩ := by
  cases s with
  | mk d => simp at h; rw [← h]
theorem ba_size {s : ByteArray} {l : List UInt8} (h : s.data.toList = l) : s.size = l.length := by rw [← h]; simp
def RlsR (n : Nat) (l : List Ex) (w : World) (sv iv : Value) (wr : World) : Prop :=
  ∃ (k : Nat) (s : ByteArray), k ≤ l.length ∧ iv = .int .i64 (k : Int) ∧ sv = .string s ∧ s.size ≤ 3000000 ∧ Hid (s.data.toList = [40] ++ romT n l k) ∧ Below w.heap.size w wr

end Go.Proofs.YtijkefflpojmhaaDoor

namespace Go.Proofs.YtijkefflpojmhaaDoor
open Go.RowKit

/-- A world that has what w had, and perhaps more. -/
structure BelOf (w : World) where
  u : World
  h : Below w.heap.size w u

instance (w : World) : Inhabited (BelOf w) := ⟨⟨w, Below.refl _ _⟩⟩

theorem region_bel {P : Program} {id : Nat} {Q : Exit → Act → World → Prop} {a : Act} {w : World} {l : List Oper} (hm : P.follows .mixedOrders = true) (hB : Region.lexB .any l.toArray = true)
    (h : wpQuiet P l.toArray (fun w' => ∃ p : BelOf w, w' = p.u) (fun a' => ∀ w', (∃ p : BelOf w, w' = p.u) → Q .normal a' w') l a) : (Code.region id l.toArray true).wp P Q a w :=
  wp_region_quiet (C := fun w' => ∃ p : BelOf w, w' = p.u) hm hB ⟨⟨w.drew, (Below.refl _ _).drew⟩, rfl⟩ (by simpa using h)

/-- A callee's contract, met in a world of the class. -/
theorem bel_of {P : Program} {f : FuncId} {args : Array Value} {w : World} {p : BelOf w} {v : Value}
    (h : Calls P f args p.u fun e w' => e = .returned v ∧ Below p.u.heap.size p.u w') : Calls P f args p.u fun e w'' => e = .returned v ∧ ∃ q : BelOf w, w'' = q.u :=
  h.mono fun _ w' ⟨he, hb⟩ => ⟨he, ⟨⟨w', p.h.trans (hb.mono p.h.size)⟩, rfl⟩⟩
/-- A cell of an old block, in every world of the class. -/
theorem cell_bel {w : World} {g o : Nat} {v : Value} (h : w.cell? ⟨g, o, none⟩ = some v) (p : BelOf w) : p.u.cell? ⟨g, o, none⟩ = some v :=
  ((bcell p.h).1 g o (cell_lt (a := ⟨g, o, none⟩) h)).trans h

end Go.Proofs.YtijkefflpojmhaaDoor

namespace Go.Proofs.YtijkefflpojmhaaDoor
open Go.RowKit

end Go.Proofs.YtijkefflpojmhaaDoor

namespace Go.Proofs.YtijkefflpojmhaaDoor
open Go.RowKit

/-- A well-formed tree in memory has the kinds and parts that the writers ask. -/
theorem ok_of_srt : ∀ (n : Nat) {w : World} {cs : List Value} {x : Ex}, ExAt n w cs x → x.srt ≠ 0 → OkX n x := by
  intro n
  induction n with
  | zero => intro w cs x h; exact h.elim
  | succ n ih =>
    intro w cs x h hs
    obtain ⟨a, len, cap, _, hlen, hat⟩ := h
    rw [Ex.srt_is] at hs
    unfold srtP at hs
    split at hs
    · rename_i ps own hsh
      split at hs
      · rename_i hb
        obtain ⟨_, hps⟩ := hb
        obtain ⟨hp0, hp3⟩ := shpL_pos hsh
        have hl : x.sub.length = ps.length := by rw [← hps, List.length_map]
        refine ⟨?_, fun y hy => ?_⟩
        · unfold shpL at hsh
          by_cases h4 : x.kind = 4 ∨ x.kind = 5 ∨ x.kind = 6 ∨ x.kind = 7 ∨ x.kind = 8
          · rw [if_pos h4] at hsh
            injection hsh with hsh
            injection hsh with h1 _
            rw [← h1] at hl
            by_cases h6 : x.kind = 4 ∨ x.kind = 5 ∨ x.kind = 6
            · exact .inr (.inr (.inr (.inl ⟨h6, hl⟩)))
            · exact .inr (.inr (.inr (.inr ⟨by unfold HasWd; omega, by rw [hl]; decide⟩)))
          · rw [if_neg h4] at hsh
            refine .inr (.inr (.inr (.inr ⟨?_, by omega⟩)))
            unfold HasWd
            (repeat' split at hsh) <;> first | omega | cases hsh
        · obtain ⟨i, hi, rfl⟩ := List.getElem_of_mem hy
          rcases hat with h0 | ⟨g, o, _, _, hel⟩
          · omega
          · obtain ⟨cs', _, hx⟩ := hel i hi
            exact ih hx (mem_srt hp0 hps hy)
      · exact absurd rfl hs
    · split at hs
      · rename_i hl
        have hsub : x.sub = [] := List.map_eq_nil_iff.1 hl
        refine ⟨?_, fun y hy => by rw [hsub] at hy; cases hy⟩
        unfold leafV at hs
        split at hs
        · exact .inl ‹_›
        · split at hs
          · split at hs
            · rename_i h2 hd
              exact .inr (.inl ⟨h2, hd.2.2.1, hd.2.2.2⟩)
            · exact absurd rfl hs
          · split at hs
            · exact .inr (.inr (.inl ‹_›))
            · exact absurd rfl hs
      · exact absurd rfl hs
theorem dtxt_len (n : Int) : (dtxt n).length = 10 := by unfold dtxt; exact dateB_len _ _ _
theorem qn_len (s : ByteArray) : (qn s).size ≤ s.size + 2 := by
  unfold qn
  split
  · simp only [ByteArray.size_append]; show 1 + s.size + 1 ≤ _; omega
  · omega
theorem leafT_len {x : Ex} (hn : x.name.size ≤ 200) (hr : x.rat.size ≤ 2500) : (leafT x).length ≤ 2500 := by
  have hq := qn_len x.name
  have e1 : (qn x.name).data.toList.length = (qn x.name).size := by simp
  have e2 : x.rat.data.toList.length = x.rat.size := by simp
  unfold leafT
  split
  · omega
  · split
    · simp only [List.length_append, List.length_cons, List.length_nil]
      have := dtxt_len x.date
      omega
    · simp only [List.length_append, List.length_cons, List.length_nil]; omega
theorem commas_len (l : List (List UInt8)) : (commas l).length ≤ (l.map fun a => a.length + 2).sum := by
  induction l with
  | nil => simp [commas]
  | cons a l ih =>
    cases l with
    | nil => simp [commas]
    | cons b l =>
      show (a ++ [44, 32] ++ commas (b :: l)).length ≤ _
      rw [List.map_cons, List.sum_cons]
      simp only [List.length_append, List.length_cons, List.length_nil] at ih ⊢
      omega
theorem sum_map_le {l : List Ex} {f g : Ex → Nat} (h : ∀ y ∈ l, f y ≤ g y) : (l.map f).sum ≤ (l.map g).sum := by
  induction l with
  | nil => simp
  | cons a l ih =>
    rw [List.map_cons, List.map_cons, List.sum_cons, List.sum_cons]
    have := h a (List.mem_cons_self ..)
    have := ih fun y hy => h y (List.mem_cons_of_mem _ hy)
    omega
theorem sum_mul (l : List Ex) (c : Nat) : (l.map fun y => c * y.size).sum = c * (l.map Ex.size).sum := by
  induction l with
  | nil => simp
  | cons a l ih => rw [List.map_cons, List.map_cons, List.sum_cons, List.sum_cons, ih, Nat.mul_add]
theorem prt_mem {x : Ex} {i : Nat} (h : i < x.sub.length) : prt x i ∈ x.sub := by
  unfold prt; rw [List.getElem?_eq_getElem h]; exact List.getElem_mem _
theorem parT_len (b : Bool) (t : List UInt8) : (parT b t).length ≤ t.length + 2 := by
  unfold parT; split
  · simp only [List.length_append, List.length_cons, List.length_nil]; omega
  · omega
theorem opS_len (k : Int) : (opS k).data.toList.length ≤ 3 := by
  unfold opS; (repeat' split) <;> simp
theorem pair_sum {l : List Ex} (h : l.length = 2) : (l.map Ex.size).sum = (l[0]?.getD (Ex.mk 0 ByteArray.empty ByteArray.empty 0 [])).size + (l[1]?.getD (Ex.mk 0 ByteArray.empty ByteArray.empty 0 [])).size := by
  match l, h with
  | [a, b], _ => simp
/-- Each node adds at most so much. -/
theorem rexT_len : ∀ (n : Nat) (x : Ex) (d : Nat), OkX n x → SmX d x → (rexT n x).length + 2 ≤ 2600 * x.size := by
  intro n
  induction n with
  | zero => intro x d h; exact h.elim
  | succ n ih =>
    intro x d h hd
    match d, hd with
    | d + 1, ⟨hn, hr, hs⟩ =>
    obtain ⟨hk, ho⟩ := h
    have hz := Ex.size_is x
    rw [rexT]
    by_cases h1 : x.kind = 1 ∨ x.kind = 2 ∨ x.kind = 3
    · rw [if_pos h1]
      have := leafT_len hn hr
      omega
    rw [if_neg h1]
    by_cases h4 : x.kind = 4 ∨ x.kind = 5 ∨ x.kind = 6
    · have hl : x.sub.length = 2 := by
        rcases hk with h | h | h | h | h
        · omega
        · omega
        · omega
        · exact h.2
        · have := h.1; unfold HasWd at this; omega
      have m0 := prt_mem (x := x) (i := 0) (by omega)
      have m1 := prt_mem (x := x) (i := 1) (by omega)
      have i0 := ih _ d (ho _ m0) (hs _ m0)
      have i1 := ih _ d (ho _ m1) (hs _ m1)
      have hp : (x.sub.map Ex.size).sum = (prt x 0).size + (prt x 1).size := pair_sum hl
      have ho3 := opS_len x.kind
      by_cases h45 : x.kind = 4 ∨ x.kind = 5
      · rw [if_pos h45]
        have := parT_len (sumB (prt x 1)) (rexT n (prt x 1))
        simp only [List.length_append]
        omega
      · rw [if_neg h45, if_pos (by omega)]
        have := parT_len (sumB (prt x 0)) (rexT n (prt x 0))
        have := parT_len (sumB (prt x 1) || (prt x 1).kind == 6) (rexT n (prt x 1))
        simp only [List.length_append]
        omega
    · rw [if_neg (by omega), if_neg (by omega)]
      have hc := commas_len (x.sub.map (rexT n))
      rw [List.map_map] at hc
      have hm : (x.sub.map ((fun a => a.length + 2) ∘ rexT n)).sum ≤ (x.sub.map fun y => 2600 * y.size).sum := sum_map_le fun y hy => ih y d (ho y hy) (hs y hy)
      rw [sum_mul] at hm
      have hw := wdL_short x.kind
      simp only [List.length_append, List.length_cons, List.length_nil]
      omega
theorem rexT_ne {n : Nat} {x : Ex} (h : OkX n x) (hr : x.kind = 1 → x.rat.size ≠ 0) : rexT n x ≠ [] := by
  match n, h with
  | n + 1, ⟨hk, _⟩ =>
  intro e
  have e2 := congrArg List.length e
  rw [rexT] at e2
  by_cases h1 : x.kind = 1 ∨ x.kind = 2 ∨ x.kind = 3
  · rw [if_pos h1] at e2
    unfold leafT at e2
    split at e2
    · rename_i hk1
      have e3 : x.rat.data.toList.length = x.rat.size := by simp
      rw [e3] at e2
      exact hr hk1 e2
    · split at e2 <;> simp at e2
  · rw [if_neg h1] at e2
    split at e2
    · rename_i h4
      have : (opS x.kind).data.toList.length = 3 := by unfold opS; rcases h4 with h | h <;> rw [h] <;> rfl
      simp only [List.length_append, List.length_nil] at e2
      omega
    · split at e2
      · rename_i h6
        have : (opS x.kind).data.toList.length = 3 := by unfold opS; rw [h6]; rfl
        simp only [List.length_append, List.length_nil] at e2
        omega
      · simp at e2
theorem chk_rat {s : ByteArray} (h : chkR s.data.toList = 0) : s.size ≠ 0 := by
  intro e
  have : s.data.toList = [] := by
    apply List.eq_nil_of_length_eq_zero
    simpa using e
  rw [this] at h
  exact absurd h (by decide)
theorem srt_rat {x : Ex} (h : x.srt ≠ 0) (hk : x.kind = 1) : x.rat.size ≠ 0 := by
  rw [Ex.srt_is, hk] at h
  by_cases hl : x.sub.map Ex.srt = []
  · rw [srt_leaf (k := 1) (by rfl) hl] at h
    unfold leafV at h
    rw [if_pos rfl] at h
    split at h
    · exact chk_rat (by rename_i h2; exact h2.2.2)
    · exact absurd rfl h
  · rw [srt_leaf_no (k := 1) (by rfl) hl] at h
    exact absurd rfl h

end Go.Proofs.YtijkefflpojmhaaDoor

namespace Go.Proofs.YtijkefflpojmhaaDoor
open Go.RowKit

/-- Two spaces for each brace. -/
def spc (d : Nat) : List UInt8 := List.replicate (2 * d) 32
/-- Each line but the first moved. -/
def ind (k : Nat) (l : List UInt8) : List UInt8 := l.flatMap fun b => if b = 10 then 10 :: List.replicate k 32 else [b]
theorem ind_append (k : Nat) (a b : List UInt8) : ind k (a ++ b) = ind k a ++ ind k b := List.flatMap_append
theorem ind_nil (k : Nat) : ind k [] = [] := rfl
theorem ind_cons (k : Nat) (b : UInt8) (l : List UInt8) : ind k (b :: l) = (if b = 10 then 10 :: List.replicate k 32 else [b]) ++ ind k l := List.flatMap_cons
theorem ind_no {k : Nat} {l : List UInt8} (h : (10 : UInt8) ∉ l) : ind k l = l := by
  induction l with
  | nil => rfl
  | cons b l ih =>
    rw [ind_cons, if_neg (fun e => h (by rw [e]; exact List.mem_cons_self ..)), ih fun q => h (List.mem_cons_of_mem _ q)]; rfl
theorem ind_lf (k : Nat) : ind k [10] = 10 :: List.replicate k 32 := by rw [ind_cons, if_pos rfl, ind_nil, List.append_nil]
theorem rep_no (k : Nat) : (10 : UInt8) ∉ List.replicate k 32 := fun h => absurd (List.eq_of_mem_replicate h) (by decide)
theorem ind_ind (k j : Nat) (l : List UInt8) : ind k (ind j l) = ind (k + j) l := by
  induction l with
  | nil => rfl
  | cons b l ih =>
    rw [ind_cons j, ind_append, ih, ind_cons (k + j)]
    congr 1
    by_cases h : b = 10
    · rw [if_pos h, if_pos h, ind_cons, if_pos rfl, ind_no (rep_no j), List.cons_append, List.replicate_append_replicate]
    · rw [if_neg h, if_neg h]
      exact ind_no (by simpa using fun e => h e.symm)
theorem ind_zero (l : List UInt8) : ind 0 l = l := by
  induction l with
  | nil => rfl
  | cons b l ih =>
    rw [ind_cons, ih]
    by_cases h : b = 10
    · rw [if_pos h, h]; rfl
    · rw [if_neg h]; rfl
/-- What Moved returns. -/
def mvT (l : List UInt8) : List UInt8 := [32, 32] ++ ind 2 l
theorem ind_mvT (k : Nat) (l : List UInt8) : ind k (mvT l) = [32, 32] ++ ind (k + 2) l := by
  unfold mvT
  rw [ind_append, ind_ind, ind_no (by simp)]
def inT (t : List UInt8) : List UInt8 := [123, 10] ++ mvT t ++ [10, 125]

/-- The texts of days. -/
noncomputable def daysT (l : List Int) : List UInt8 := commas (l.map dtxt)
/-- What stands behind an expression or a name: the days. -/
noncomputable def onT (l : List Int) : List UInt8 := if l = [] then [] else [32, 111, 110, 32] ++ daysT l
/-- The i-th part. -/
def crt (x : Ct) (i : Nat) : Ct := x.sub[i]?.getD default
/-- A kind with an expression. -/
def HasEx (k : Int) : Prop := k = 2 ∨ k = 4 ∨ k = 5 ∨ k = 9 ∨ k = 10
def wUntil (k : Int) : List UInt8 := if k = 9 then [117, 110, 116, 105, 108, 32] else [119, 104, 101, 110, 32]
/-- What stands ahead of the braces. -/
noncomputable def headT (n : Nat) (x : Ct) : List UInt8 :=
  if x.kind = 4 then [115, 99, 97, 108, 101, 32] ++ rexT n x.expr
  else if x.kind = 5 then [105, 102, 32] ++ rexT n x.expr
  else if x.kind = 6 then [111, 110, 32] ++ dtxt x.date
  else if x.kind = 7 then [99, 104, 111, 105, 99, 101, 32] ++ (qn x.name).data.toList ++ [32, 98, 121, 32] ++ (qn x.frm).data.toList
  else if x.kind = 8 then [99, 97, 108, 108, 32] ++ (qn x.name).data.toList ++ [32, 98, 121, 32] ++ (qn x.frm).data.toList ++ onT x.dates
  else wUntil x.kind ++ rexT n x.expr ++ onT x.dates
noncomputable def payT (n : Nat) (x : Ct) : List UInt8 := (qn x.frm).data.toList ++ [32, 112, 97, 121, 115, 32] ++ rexT n x.expr ++ [32] ++ (qn x.name).data.toList ++ [32, 116, 111, 32] ++ (qn x.too).data.toList
def nothT : List UInt8 := [110, 111, 116, 104, 105, 110, 103]
/-- What braces writes between the braces. -/
def brL (d : Nat) (bt : List UInt8) : List (List UInt8) → List UInt8
  | [] => []
  | t :: ts => [10] ++ spc (d + 1) ++ t ++ ts.flatMap fun t => bt ++ [10] ++ spc (d + 1) ++ t
theorem brL_snoc (d : Nat) (bt : List UInt8) (ts : List (List UInt8)) (t : List UInt8) : brL d bt (ts ++ [t]) = brL d bt ts ++ (if ts = [] then [] else bt) ++ ([10] ++ spc (d + 1)) ++ t := by
  cases ts with
  | nil => simp [brL]
  | cons a ts => simp [brL, List.flatMap_append]
def brT (d : Nat) (bt : List UInt8) (ts : List (List UInt8)) : List UInt8 := [123] ++ brL d bt ts ++ ([10] ++ spc d) ++ [125]
/-- What the loop over the parts writes. -/
def subT (d : Nat) : List (List UInt8) → List UInt8
  | [] => []
  | t :: ts => [32] ++ brT d [] [t] ++ ts.flatMap fun t => [32, 101, 108, 115, 101, 32] ++ brT d [] [t]
theorem subT_snoc (d : Nat) (ts : List (List UInt8)) (t : List UInt8) : subT d (ts ++ [t]) = subT d ts ++ (if ts = [] then [32] else [32, 101, 108, 115, 101, 32]) ++ brT d [] [t] := by
  cases ts with
  | nil => simp [subT]
  | cons a ts => simp [subT, List.flatMap_append]
/-- What the program writes. -/
noncomputable def pcT : Nat → Ct → Nat → List UInt8
  | 0, _, _ => []
  | n + 1, x, d =>
    if x.kind = 1 then nothT
    else if x.kind = 2 then payT (n + 1) x
    else if x.kind = 3 then [98, 111, 116, 104, 32] ++ brT d [59] (x.sub.map fun y => pcT n y (d + 1))
    else headT (n + 1) x ++ subT d (x.sub.map fun y => pcT n y (d + 1))
/-- What the reference writes. -/
noncomputable def rcT : Nat → Ct → List UInt8
  | 0, _ => []
  | n + 1, x =>
    if x.kind = 1 then nothT
    else if x.kind = 2 then payT (n + 1) x
    else if x.kind = 3 then [98, 111, 116, 104, 32, 123, 10] ++ mvT (rcT n (crt x 0)) ++ [59, 10] ++ mvT (rcT n (crt x 1)) ++ [10, 125]
    else if x.kind = 5 ∨ x.kind = 7 then headT (n + 1) x ++ [32] ++ inT (rcT n (crt x 0)) ++ [32, 101, 108, 115, 101, 32] ++ inT (rcT n (crt x 1))
    else headT (n + 1) x ++ [32] ++ inT (rcT n (crt x 0))
/-- How many parts a kind has. -/
def nSub (k : Int) : Nat := if k = 3 ∨ k = 5 ∨ k = 7 then 2 else if k = 1 ∨ k = 2 then 0 else 1
/-- Bytes of names, numbers, days, operators: no line feed, no brace, no mark of a remark. -/
def prB (b : UInt8) : Bool := decide (32 ≤ b.toNat ∧ b.toNat ≤ 122 ∧ b.toNat ≠ 35)
def Prn (l : List UInt8) : Prop := ∀ b ∈ l, prB b = true
theorem Prn.nil : Prn [] := fun _ h => by cases h
theorem Prn.append {a b : List UInt8} (h : Prn a) (k : Prn b) : Prn (a ++ b) := fun c hc => (List.mem_append.1 hc).elim (h c) (k c)
theorem Prn.no {a : List UInt8} (h : Prn a) : (10 : UInt8) ∉ a := fun q => absurd (h _ q) (by decide)
/-- Kinds, parts, days in range, bytes. -/
def OkC : Nat → Ct → Prop
  | 0, _ => False
  | n + 1, x => (1 ≤ x.kind ∧ x.kind ≤ 10) ∧ x.sub.length = nSub x.kind ∧ (HasEx x.kind → OkX (n + 1) x.expr ∧ Prn (rexT (n + 1) x.expr)) ∧ (x.kind = 6 → 0 ≤ x.date ∧ x.date ≤ 99999) ∧
      (Prn (qn x.frm).data.toList ∧ Prn (qn x.too).data.toList ∧ Prn (qn x.name).data.toList) ∧ (8 ≤ x.kind → (∀ d ∈ x.dates, 0 ≤ d ∧ d ≤ 99999) ∧ x.dates.length ≤ 200 ∧ x.dates ≠ []) ∧ ∀ y ∈ x.sub, OkC n y
theorem figB_dg (n k : Nat) : ∀ c ∈ figB n k, 48 ≤ c.toNat ∧ c.toNat ≤ 57 := by
  induction k generalizing n with
  | zero => intro c hc; cases hc
  | succ k ih =>
    intro c hc
    rcases List.mem_append.1 hc with hc | hc
    · exact ih _ c hc
    · rw [List.mem_singleton.1 hc, UInt8.toNat_ofNat']; omega
theorem Prn.figB (n k : Nat) : Prn (figB n k) := fun c hc => by
  have := figB_dg n k c hc
  unfold prB; simp; omega
theorem Prn.dtxt (d : Int) : Prn (dtxt d) := by
  unfold Go.Proofs.YtijkefflpojmhaaDoor.dtxt dateB
  exact ((((Prn.figB _ _).append fun c hc => by rw [List.mem_singleton.1 hc]; decide).append (Prn.figB _ _)).append fun c hc => by rw [List.mem_singleton.1 hc]; decide).append (Prn.figB _ _)
theorem Prn.commas {l : List (List UInt8)} (h : ∀ a ∈ l, Prn a) : Prn (commas l) := by
  induction l with
  | nil => exact Prn.nil
  | cons a l ih =>
    cases l with
    | nil => exact h a (List.mem_cons_self ..)
    | cons b l =>
      show Prn (a ++ [44, 32] ++ Go.Proofs.YtijkefflpojmhaaDoor.commas (b :: l))
      exact ((h a (List.mem_cons_self ..)).append fun c hc => by
        simp only [List.mem_cons, List.not_mem_nil, or_false] at hc
        rcases hc with rfl | rfl <;> decide).append (ih fun y hy => h y (List.mem_cons_of_mem _ hy))
theorem Prn.lit {l : List UInt8} (h : l.all prB = true) : Prn l := fun b hb => List.all_eq_true.1 h b hb
theorem Prn.onT (l : List Int) : Prn (onT l) := by
  unfold Go.Proofs.YtijkefflpojmhaaDoor.onT
  split
  · exact Prn.nil
  · exact (Prn.lit (by decide)).append (Prn.commas fun a ha => by obtain ⟨d, _, rfl⟩ := List.mem_map.1 ha; exact Prn.dtxt d)
theorem OkC.head {n : Nat} {x : Ct} (h : OkC (n + 1) x) (h3 : 4 ≤ x.kind) : Prn (headT (n + 1) x) := by
  obtain ⟨hk, _, he, _, ⟨p1, _, p3⟩, _, _⟩ := h
  unfold headT
  split
  · exact (Prn.lit (by decide)).append (he (.inr (.inl ‹_›))).2
  split
  · exact (Prn.lit (by decide)).append (he (.inr (.inr (.inl ‹_›)))).2
  split
  · exact (Prn.lit (by decide)).append (Prn.dtxt _)
  split
  · exact (((Prn.lit (by decide)).append p3).append (Prn.lit (by decide))).append p1
  split
  · exact ((((Prn.lit (by decide)).append p3).append (Prn.lit (by decide))).append p1).append (Prn.onT _)
  · have hw : Prn (wUntil x.kind) := by unfold wUntil; split <;> exact Prn.lit (by decide)
    exact (hw.append (he (by unfold HasEx; omega)).2).append (Prn.onT _)
theorem OkC.pay {n : Nat} {x : Ct} (h : OkC (n + 1) x) (h2 : x.kind = 2) : Prn (payT (n + 1) x) := by
  obtain ⟨hk, _, he, _, ⟨p1, p2, p3⟩, _, _⟩ := h
  unfold payT
  exact (((((p1.append (Prn.lit (by decide))).append (he (.inl h2)).2).append (Prn.lit (by decide))).append p3).append (Prn.lit (by decide))).append p2
theorem crt_mem {x : Ct} {i : Nat} (h : i < x.sub.length) : crt x i ∈ x.sub := by
  unfold crt; rw [List.getElem?_eq_getElem h]; exact List.getElem_mem _
theorem sub_two {x : Ct} (h : x.sub.length = 2) : x.sub = [crt x 0, crt x 1] := by
  unfold crt
  match x.sub, h with
  | [a, b], _ => rfl
theorem sub_one {x : Ct} (h : x.sub.length = 1) : x.sub = [crt x 0] := by
  unfold crt
  match x.sub, h with
  | [a], _ => rfl
theorem spc_two (d : Nat) : spc (d + 1) = List.replicate (2 * d) 32 ++ [32, 32] := by
  unfold spc
  rw [show 2 * (d + 1) = 2 * d + 2 by omega, ← List.replicate_append_replicate]; rfl
/-- One part in braces. -/
theorem br_in (d : Nat) (t : List UInt8) : brT d [] [ind (2 * (d + 1)) t] = ind (2 * d) (inT t) := by
  unfold inT
  rw [ind_append, ind_append, ind_mvT, show ([123, 10] : List UInt8) = [123] ++ [10] from rfl, show ([10, 125] : List UInt8) = [10] ++ [125] from rfl, ind_append, ind_append, ind_lf, ind_no (k := 2 * d) (l := [123]) (by simp), ind_no (k := 2 * d) (l := [125]) (by simp)]
  unfold brT
  rw [show brL d [] [ind (2 * (d + 1)) t] = [10] ++ spc (d + 1) ++ ind (2 * (d + 1)) t by simp [brL], spc_two, show 2 * d + 2 = 2 * (d + 1) by omega]
  simp [spc, List.append_assoc]
theorem br_both (d : Nat) (s t : List UInt8) : brT d [59] [ind (2 * (d + 1)) s, ind (2 * (d + 1)) t] = ind (2 * d) ([123, 10] ++ mvT s ++ [59, 10] ++ mvT t ++ [10, 125]) := by
  rw [ind_append, ind_append, ind_append, ind_append, ind_mvT, ind_mvT, show ([123, 10] : List UInt8) = [123] ++ [10] from rfl, show ([10, 125] : List UInt8) = [10] ++ [125] from rfl, show ([59, 10] : List UInt8) = [59] ++ [10] from rfl, ind_append, ind_append, ind_append, ind_lf, ind_no (k := 2 * d) (l := [123]) (by simp), ind_no (k := 2 * d) (l := [125]) (by simp), ind_no (k := 2 * d) (l := [59]) (by simp)]
  unfold brT
  rw [show brL d [59] [ind (2 * (d + 1)) s, ind (2 * (d + 1)) t] = [10] ++ spc (d + 1) ++ ind (2 * (d + 1)) s ++ ([59] ++ [10] ++ spc (d + 1) ++ ind (2 * (d + 1)) t) by simp [brL], spc_two, show 2 * d + 2 = 2 * (d + 1) by omega]
  simp [spc, List.append_assoc]

/-- The program writes what the reference writes, each line but the first moved. -/
theorem pc_rc : ∀ (n : Nat) (x : Ct) (d : Nat), OkC n x → pcT n x d = ind (2 * d) (rcT n x) := by
  intro n
  induction n with
  | zero => intro x d h; exact h.elim
  | succ n ih =>
    intro x d h
    have hh := h
    obtain ⟨hk, hl, _, _, _, _, hs⟩ := h
    rw [pcT, rcT]
    by_cases h1 : x.kind = 1
    · rw [if_pos h1, if_pos h1, ind_no (by simp [nothT])]
    rw [if_neg h1, if_neg h1]
    by_cases h2 : x.kind = 2
    · rw [if_pos h2, if_pos h2, ind_no (hh.pay h2).no]
    rw [if_neg h2, if_neg h2]
    by_cases h3 : x.kind = 3
    · rw [if_pos h3, if_pos h3]
      have h2l : x.sub.length = 2 := by rw [hl, h3]; rfl
      have m0 := ih _ (d + 1) (hs _ (crt_mem (i := 0) (by omega)))
      have m1 := ih _ (d + 1) (hs _ (crt_mem (i := 1) (by omega)))
      rw [show (x.sub.map fun y => pcT n y (d + 1)) = [pcT n (crt x 0) (d + 1), pcT n (crt x 1) (d + 1)] by rw [sub_two h2l]; rfl, m0, m1, br_both]
      rw [show ([98, 111, 116, 104, 32, 123, 10] ++ mvT (rcT n (crt x 0)) ++ [59, 10] ++ mvT (rcT n (crt x 1)) ++ [10, 125] : List UInt8) = [98, 111, 116, 104, 32] ++ ([123, 10] ++ mvT (rcT n (crt x 0)) ++ [59, 10] ++ mvT (rcT n (crt x 1)) ++ [10, 125]) by simp, ind_append _ [98, 111, 116, 104, 32], ind_no (k := 2 * d) (l := [98, 111, 116, 104, 32]) (by simp)]
    rw [if_neg h3, if_neg h3]
    have hhd := (hh.head (by omega)).no
    by_cases h5 : x.kind = 5 ∨ x.kind = 7
    · rw [if_pos h5]
      have h2l : x.sub.length = 2 := by rw [hl]; unfold nSub; rw [if_pos (by omega)]
      have m0 := ih _ (d + 1) (hs _ (crt_mem (i := 0) (by omega)))
      have m1 := ih _ (d + 1) (hs _ (crt_mem (i := 1) (by omega)))
      rw [show (x.sub.map fun y => pcT n y (d + 1)) = [pcT n (crt x 0) (d + 1), pcT n (crt x 1) (d + 1)] by rw [sub_two h2l]; rfl, m0, m1]
      rw [ind_append, ind_append, ind_append, ind_append, ind_no hhd, ind_no (k := 2 * d) (l := [32]) (by simp), ind_no (k := 2 * d) (l := [32, 101, 108, 115, 101, 32]) (by simp), ← br_in, ← br_in]
      simp [subT]
    · rw [if_neg h5]
      have h1l : x.sub.length = 1 := by rw [hl]; unfold nSub; rw [if_neg (by omega), if_neg (by omega)]
      have m0 := ih _ (d + 1) (hs _ (crt_mem (i := 0) (by omega)))
      rw [show (x.sub.map fun y => pcT n y (d + 1)) = [pcT n (crt x 0) (d + 1)] by rw [sub_one h1l]; rfl, m0]
      rw [ind_append, ind_append, ind_no hhd, ind_no (k := 2 * d) (l := [32]) (by simp), ← br_in]
      simp [subT]

end Go.Proofs.YtijkefflpojmhaaDoor
