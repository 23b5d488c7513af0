/-
  Magnitudes of the program: minus, plus. No condition.
-/
import Derived.Test.YtnmiiimbjojcmaaMa
namespace Go.Proofs.Ytnmiiimbjojcmaa
open Go.RowKit

/-- A new canonical magnitude is handed back. -/
def MagNew (w : World) (N : Nat) (e : Ending) (w' : World) : Prop := NewNums .u32 101 w (fun l => Rep l N) e w'
/-- trim of a slice of the call's own. -/
theorem trim_own {w : World} {B : Nat} {v : Value} {n : Nat} {l : List Nat} (h : w.ownsRow B 101 1 v n (nums .u32 l)) (hn : n ≤ 1000000) (d : ∀ x ∈ l, x < Bs) :
    Calls Try.prog 62 #[v] w fun e w' => (∃ v2 l2, e = .returned v2 ∧ w.ownsRow B 101 1 v2 l2.length (nums .u32 l2) ∧ Rep l2 (val l)) ∧ w = w' := by
  obtain ⟨a, c, rfl, hl, hc, ha⟩ := nums_of_owns h
  refine (trim_any a n c l w hl hn hc d ha).mono fun e w' ⟨⟨k, hk, e1, e2⟩, e3⟩ => ⟨⟨_, l.take k, e1, ?_, e2⟩, e3⟩
  have := ownsRow_take h hk
  rw [nums_take] at this
  rwa [List.length_take, show min k l.length = k by omega]

/-- The program's subtraction. -/
def SubR (w : World) (la lb : List Nat) (n : Nat) (o b i : Value) (wr : World) : Prop :=
  ∃ (k br : Nat) (out : List Nat), k ≤ n ∧ i = .int .i64 k ∧ b = .int .u32 br ∧ wr.ownsRow w.heap.size 101 1 o k (nums .u32 out) ∧ MinusAt la lb out k br ∧ Below w.heap.size w wr
/-- A round: the digit to come, and the borrow. -/
def SubC (la lb out : List Nat) (k : Nat) (y : Nat) (xv bv : Value) : Prop :=
  ∃ x br : Nat, xv = .int .u32 x ∧ bv = .int .u32 br ∧ y ≤ x ∧ x < 2000000000 ∧ MinusAt la lb (out ++ [x - y]) (k + 1) br

set_option maxHeartbeats 2000000 in
set_option maxRecDepth 100000 in
theorem minus_any (a b : Option Addr) (n m c d : Nat) (la lb : List Nat) (w : World) (hla : la.length = n) (hlb : lb.length = m) (hn : n ≤ 900000) (hmn : m ≤ n)
    (da : ∀ x ∈ la, x < Bs) (db : ∀ x ∈ lb, x < Bs) (hle : val lb ≤ val la) (ha : Nums .u32 w a la) (hb : Nums .u32 w b lb) :
    Calls Try.prog 65 #[.slice a n c, .slice b m d] w (MagNew w (val la - val lb)) := by
  obtain ⟨i0, hi, hz0, hz1, hz2⟩ := info_parts infoU32
  have HLA := Lib.hid hla
  have HLB := Lib.hid hlb
  have HA := Lib.hid ha
  have HB := Lib.hid hb
  have DA := Lib.hid da
  have DB := Lib.hid db
  have HLE := Lib.hid hle
  clear hla hlb ha hb da db hle
  go_enter Try.func65, Try.ntmps65
  go_wp2_with (at_make; refine wpList_make_own _ rfl _ _ 83 rfl w.heap.size 101 i0 (.int .u32 0) 1 Try.underlying83 hi hz0 hz1 .i64 .i64 _ n rfl rfl rfl ?b2 ?b3 ?b4 ?_)
  case b2 => rw [hz2]; omega
  case b3 => unfold maxLen; omega
  case b4 => exact Nat.le_refl _
  intro w1 ho1 hg1
  have hst : SubR w la lb n (.slice (some ⟨w.heap.size, 0, none⟩) 0 n) (.int .u32 0) (.int .i64 0) w1 := ⟨0, 0, [], Nat.zero_le _, rfl, rfl, ho1, minus_start _ _, (Below.refl _ _).grown hg1 (Nat.le_refl _) (fun k hk => by cases hk)⟩
  have HST := Lib.hid hst
  clear ho1 hg1 hst
  go_wp2_with fail
  go_loopw [5, 6, 15] (SubR w la lb n) (fun _ _ i _ => n - (intOf i).toNat)
  case atStart => exact HST.out
  case round =>
    obtain ⟨k, br, out, hk, rfl, rfl, ho, hat, hbl⟩ := hrel
    have HO := Lib.hid ho
    have HT := Lib.hid hat
    have HBL := Lib.hid hbl
    clear ho hat hbl HST
    by_cases hlt : k < n
    · obtain ⟨x, hx⟩ : ∃ x, x = la.getD k 0 := ⟨_, rfl⟩
      obtain ⟨y, hy⟩ : ∃ y, y = lb.getD k 0 := ⟨_, rfl⟩
      obtain ⟨g, og, rfl, hg, hc⟩ := HA.out.below HBL.out k (by have := HLA.out; omega)
      rw [← hx] at hc
      have hx10 : x < 1000000000 := by rw [hx]; exact getD_lt la k DA.out
      have hy10 : y < 1000000000 := by rw [hy]; exact getD_lt lb k DB.out
      have hbr : br ≤ 1 := HT.out.2.2.1
      have HX := Lib.hid hx
      have HY := Lib.hid hy
      clear hx hy
      go_upto_if 24 with (fail)
      go_cut [9] (fun s wx => s = .int .u32 ((br + y : Nat) : Int) ∧ wr = wx)
      case first => as_aux_lemma =>
        by_cases hkm : k < m
        · obtain ⟨gb, ob, rfl, hgb, hcb⟩ := HB.out.below HBL.out k (by have := HLB.out; omega)
          rw [← HY.out] at hcb
          go_wp2_with fail
          go_meet
          exact ⟨by congr 1, rfl⟩
        · have hy0 : y = 0 := by rw [HY.out, getD_out (by have := HLB.out; omega)]
          have HY0 := Lib.hid hy0
          clear hy0
          go_wp2_with fail
          go_meet
          exact ⟨by rw [HY0.out]; rfl, rfl⟩
      case rest => as_aux_lemma =>
        obtain ⟨rfl, rfl⟩ := hcut
        have hcs : (br + y ≤ x → SubC la lb out k (br + y) (.int .u32 x) (.int .u32 0)) ∧ (x < br + y → SubC la lb out k (br + y) (.int .u32 ((x + 1000000000 : Nat) : Int)) (.int .u32 1)) := by
          refine ⟨fun h => ⟨x, 0, rfl, rfl, h, by omega, ?_⟩, fun h => ⟨x + 1000000000, 1, rfl, rfl, by omega, by omega, ?_⟩⟩
          · have := minus_step0 la lb out k br DA.out HT.out (by rw [← HX.out, ← HY.out]; exact h)
            rwa [← HX.out, ← HY.out] at this
          · have := minus_step1 la lb out k br DB.out HT.out (by rw [← HX.out, ← HY.out]; exact h)
            rwa [← HX.out, ← HY.out] at this
        have HCS := Lib.hid hcs
        clear hcs hc
        obtain ⟨z, hz⟩ : ∃ z, z = br + y := ⟨_, rfl⟩
        have hz10 : z ≤ 1000000000 := by omega
        rw [← hz] at HCS ⊢
        clear hz
        go_upto_if 33 with (fail)
        go_cut [6, 8] (fun b x wx => SubC la lb out k z x b ∧ wr = wx)
        case first => as_aux_lemma =>
          by_cases hxz : z ≤ x
          · have t1 : decide ((x : Int) < (z : Int)) = false := by simp; omega
            have HQ := Lib.hid (HCS.out.1 hxz)
            go_wp2_with fail
            go_meet
            exact ⟨HQ.out, rfl⟩
          · have t1 : decide ((x : Int) < (z : Int)) = true := by simp; omega
            have HQ := Lib.hid (HCS.out.2 (by omega))
            go_wp2_with fail
            go_meet
            exact ⟨HQ.out, rfl⟩
        case rest => as_aux_lemma =>
          obtain ⟨⟨x2, b2, rfl, rfl, hle2, hx2, hat2⟩, rfl⟩ := hcut
          have HT2 := Lib.hid hat2
          obtain ⟨r, hr⟩ : ∃ r : Nat, (x2 : Int) - (z : Int) = (r : Int) ∧ x2 - z = r := ⟨x2 - z, by omega, rfl⟩
          rw [hr.2] at HT2
          have HR := Lib.hid hr
          clear hat2 hr HCS
          go_wp2_with (at_builtin; refine wpList_append1 _ rfl (.tmp 36) (.tmp 40) 83 rfl w.heap.size 101 i0 (.int .u32 0) 4 Try.underlying83 hi hz0 hz1 hz2 rfl _ _ _ rfl (HO.out.alloc _) ⟨wr.heap.size, 0, none⟩ 1 (.int .u32 r) rfl ?c1 rfl ?c3 ?c4 ?c5 ?_)
          case c1 => simp [HR.out.1]
          case c3 => unfold maxLen; omega
          case c4 => omega
          case c5 => have := HBL.out.size; simp; omega
          intro v1 w2 ho2 hg2 hne2 hpl2
          have n2 : Below w.heap.size w w2 := (HBL.out.alloc HBL.out.size _).grown hg2 (by have := HBL.out.size; simp; omega) (fun k hk => (HO.out.lt k hk).1)
          rw [nums_snoc] at ho2
          have HO2 := Lib.hid ho2
          have N2 := Lib.hid n2
          clear ho2 n2 hg2 hne2 hpl2
          go_wp2_with fail
          go_roundw
          case rel => exact ⟨k + 1, b2, out ++ [r], by omega, by go_num, rfl, HO2.out, HT2.out, N2.out⟩
          case measure => simp [intOf] <;> omega
    · obtain rfl : k = n := by omega
      have hv := minus_end la lb out br (by rw [HLA.out, HLB.out]; exact hmn) HLE.out (by rw [HLA.out]; exact HT.out)
      have htr := trim_own HO.out (by omega) HT.out.2.1
      rw [hv] at htr
      have HTR := Lib.hid htr
      clear hv htr
      go_wp2_with fail
      refine HTR.out.mono ?_
      rintro e w' ⟨⟨v2, l2, rfl, ho2, hr2⟩, rfl⟩
      have HO2 := Lib.hid ho2
      have HR2 := Lib.hid hr2
      clear ho2 hr2
      go_wp2_with fail
      go_ret
      exact ⟨_, l2, rfl, HO2.out, HR2.out, HBL.out⟩

end Go.Proofs.Ytnmiiimbjojcmaa
