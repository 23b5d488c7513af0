/-
  Magnitudes of the program: times. No condition.
-/
import Derived.Test.YtnmiiimbjojcmaaMb
namespace Go.Proofs.Ytnmiiimbjojcmaa
open Go.RowKit

theorem nums_zero_made (n : Nat) : (madeCells #[Value.int .u32 0] n).toList = nums .u32 (List.replicate n 0) := by
  apply List.ext_getElem
  · simp [nums, size_madeCells]
  · intro i h1 h2
    simp [nums, madeCells, Nat.mod_one]

def MulR (w : World) (la lb : List Nat) (n N : Nat) (iv : Value) (wr : World) : Prop :=
  ∃ (i : Nat) (out : List Nat), i ≤ n ∧ iv = .int .i64 i ∧ wr.ownsRow w.heap.size 101 1 (.slice (some ⟨w.heap.size, 0, none⟩) N N) N (nums .u32 out) ∧ TimesAt la lb out i ∧ Below w.heap.size w wr
def MulI (w : World) (la lb : List Nat) (i m N : Nat) (cv jv : Value) (wr : World) : Prop :=
  ∃ (j c : Nat) (out : List Nat), j ≤ m ∧ jv = .int .i64 j ∧ cv = .int .u64 c ∧ wr.ownsRow w.heap.size 101 1 (.slice (some ⟨w.heap.size, 0, none⟩) N N) N (nums .u32 out) ∧ TimesIn la lb out i j c ∧ Below w.heap.size w wr
theorem mul_bound {x y : Nat} (hx : x < 1000000000) (hy : y < 1000000000) : x * y ≤ 999999998000000001 := by
  have : x * y ≤ 999999999 * 999999999 := Nat.mul_le_mul (by omega) (by omega)
  omega

set_option maxHeartbeats 2000000 in
set_option maxRecDepth 100000 in
theorem times_any (a b : Option Addr) (n m c d : Nat) (la lb : List Nat) (w : World) (hla : la.length = n) (hlb : lb.length = m) (hn : n ≤ 400000) (hm : m ≤ 400000)
    (da : ∀ x ∈ la, x < Bs) (db : ∀ x ∈ lb, x < Bs) (ha : Nums .u32 w a la) (hb : Nums .u32 w b lb) :
    Calls Try.prog 63 #[.slice a n c, .slice b m d] w (MagNew w (val la * val lb)) := by
  obtain ⟨i0, hi, hz0, hz1, hz2⟩ := info_parts infoU32
  obtain ⟨N, hN⟩ : ∃ N, N = n + m := ⟨_, rfl⟩
  have hNI : ((n : Int) + (m : Int)) = (N : Int) := by omega
  have HNN := Lib.hid hN
  have hN1 : n + m ≤ N := by omega
  have hN2 : N ≤ n + m := by omega
  have HLA := Lib.hid hla
  have HLB := Lib.hid hlb
  have HA := Lib.hid ha
  have HB := Lib.hid hb
  have DA := Lib.hid da
  have DB := Lib.hid db
  clear hla hlb ha hb da db hN
  go_enter Try.func63, Try.ntmps63
  go_wp2_with (at_make; refine wpList_make_full _ rfl _ _ 83 rfl w.heap.size 101 i0 (.int .u32 0) 1 Try.underlying83 hi hz0 hz1 .i64 .i64 _ _ N rfl rfl ?b0 ?b1 ?b2 ?b3 ?b4 ?_)
  case b0 => omega
  case b1 => omega
  case b2 => rw [hz2]; omega
  case b3 => unfold maxLen; omega
  case b4 => exact Nat.le_refl _
  intro w1 ho1 hg1
  rw [nums_zero_made] at ho1
  have hst : MulR w la lb n N (.int .i64 0) w1 := ⟨0, List.replicate N 0, Nat.zero_le _, rfl, ho1, by have := times_start la lb; rwa [HLA.out, HLB.out, ← HNN.out] at this, (Below.refl _ _).grown hg1 (Nat.le_refl _) (fun k hk => by cases hk)⟩
  have HST := Lib.hid hst
  clear ho1 hg1 hst hNI
  go_wp2_with fail
  go_loopw [20] (MulR w la lb n N) (fun i _ => n - (intOf i).toNat)
  case atStart => exact HST.out
  case round =>
    obtain ⟨w2, rfl⟩ : ∃ w2 : World, w2 = wr := ⟨_, rfl⟩
    obtain ⟨i, out, hin, rfl, ho, hat, hbl⟩ := hrel
    have HO := Lib.hid ho
    have HT := Lib.hid hat
    have HBL := Lib.hid hbl
    clear ho hat hbl HST
    by_cases hlt : i < n
    · obtain ⟨x, hx⟩ : ∃ x, x = la.getD i 0 := ⟨_, rfl⟩
      obtain ⟨g, og, rfl, hg, hc⟩ := HA.out.below HBL.out i (by have := HLA.out; omega)
      rw [← hx] at hc
      have hx10 : x < 1000000000 := by rw [hx]; exact getD_lt la i DA.out
      have HX := Lib.hid hx
      have hst : MulI w la lb i m N (.int .u64 0) (.int .i64 0) w2 := ⟨0, 0, out, Nat.zero_le _, rfl, rfl, HO.out, times_in_start la lb out i HT.out, HBL.out⟩
      have HST := Lib.hid hst
      clear hx hst HO HT HBL
      go_wp2_with fail
      go_loopw [8, 27] (MulI w la lb i m N) (fun _ j _ => m - (intOf j).toNat)
      case atStart => exact HST.out
      case round =>
        obtain ⟨j, cy, out, hjm, rfl, rfl, ho, hat, hbl⟩ := hrel
        have HO := Lib.hid ho
        have HT := Lib.hid hat
        have HBL := Lib.hid hbl
        have hcy : cy < 1000000000 := hat.2.2.1
        clear ho hat hbl HST
        by_cases hlt2 : j < m
        · obtain ⟨y, hy⟩ : ∃ y, y = lb.getD j 0 := ⟨_, rfl⟩
          obtain ⟨gb, ob, rfl, hgb, hcb⟩ := HB.out.below HBL.out j (by have := HLB.out; omega)
          rw [← hy] at hcb
          have hy10 : y < 1000000000 := by rw [hy]; exact getD_lt lb j DB.out
          obtain ⟨o, hoo⟩ : ∃ o, o = out.getD (i + j) 0 := ⟨_, rfl⟩
          have ho10 : o < 1000000000 := by rw [hoo]; exact getD_lt out (i + j) HT.out.2.1
          have hco : wr.cell? ⟨w.heap.size, i + j, none⟩ = some (.int .u32 (o : Int)) := by
            have hlen : out.length = N := by have := HT.out.1; rw [HLA.out, HLB.out] at this; have := HNN.out; omega
            rw [HO.out.cellAt (i + j) (by omega), nums_get _ _ _ (by omega), ← hoo]
          have hfz : wr.frozen? ⟨w.heap.size, i + j, none⟩ = false := HO.out.frozenAt (i + j)
          have hstp := times_in_step la lb out i j cy (by have := HLA.out; omega) (by have := HLB.out; omega) HT.out DA.out DB.out
          rw [← HX.out, ← hy, ← hoo] at hstp
          obtain ⟨p, hp⟩ : ∃ p, p = x * y := ⟨_, rfl⟩
          have hpI : (x : Int) * (y : Int) = (p : Int) := by rw [hp]; simp
          have hpb : p ≤ 999999998000000001 := by rw [hp]; exact mul_bound hx10 hy10
          rw [← hp] at hstp
          obtain ⟨r, hr⟩ : ∃ r, r = (p + o + cy) % Bs := ⟨_, rfl⟩
          obtain ⟨q, hq⟩ : ∃ q, q = (p + o + cy) / Bs := ⟨_, rfl⟩
          rw [← hr, ← hq] at hstp
          rw [Bs_eq] at hr hq
          have hrI : ((p : Int) + (o : Int) + (cy : Int)) % 1000000000 = (r : Int) := by omega
          have hqI : ((p : Int) + (o : Int) + (cy : Int)) / 1000000000 = (q : Int) := by omega
          have hrb : r < 1000000000 := by omega
          have hqb : q < 1000000000 := by omega
          have HSTP := Lib.hid hstp
          have hij : i + j < N := by omega
          have hji : ((i : Int) + (j : Int)).toNat = i + j := by omega
          clear hy hoo hp hr hq hstp
          go_wp2_with fail
          go_roundw
          case rel => exact ⟨j + 1, q, out.set (i + j) r, by omega, by go_num, by rw [hqI], by rw [← nums_set]; exact (HO.out.stored (i + j) _).1, HSTP.out, HBL.out.setCell (p := ⟨w.heap.size, i + j, none⟩) (Nat.le_refl _) _⟩
          case measure => simp [intOf] <;> omega
        · obtain rfl : j = m := by omega
          obtain ⟨o, hoo⟩ : ∃ o, o = out.getD (i + j) 0 := ⟨_, rfl⟩
          have ho0 : o < 1 := by
            have := HT.out.2.2.2.1 (i + j) (by rw [HLB.out]; omega)
            omega
          have hco : wr.cell? ⟨w.heap.size, i + j, none⟩ = some (.int .u32 (o : Int)) := by
            have hlen : out.length = N := by have := HT.out.1; rw [HLA.out, HLB.out] at this; have := HNN.out; omega
            rw [HO.out.cellAt (i + j) (by omega), nums_get _ _ _ (by omega), ← hoo]
          have hfz : wr.frozen? ⟨w.heap.size, i + j, none⟩ = false := HO.out.frozenAt (i + j)
          have hend := times_in_end la lb out i cy (by have := HLA.out; omega) (by rw [HLB.out]; exact HT.out)
          rw [HLB.out, ← hoo] at hend
          have HEND := Lib.hid hend
          have hij : i + j < N := by omega
          have hji : ((i : Int) + (j : Int)).toNat = i + j := by omega
          clear hoo hend
          go_wp2_with fail
          go_roundw
          case rel =>
            have e1 : ((o : Int) + (cy : Int)) = ((o + cy : Nat) : Int) := by omega
            exact ⟨i + 1, out.set (i + j) (o + cy), by omega, by go_num, by rw [← nums_set, ← e1]; exact (HO.out.stored (i + j) _).1, HEND.out, HBL.out.setCell (p := ⟨w.heap.size, i + j, none⟩) (Nat.le_refl _) _⟩
          case measure => simp [intOf] <;> omega
    · obtain rfl : i = n := by omega
      have hv := times_end la lb out (by rw [HLA.out]; exact HT.out)
      have htr := trim_own HO.out (by omega) hv.1
      rw [hv.2] at htr
      have HTR := Lib.hid htr
      clear hv htr
      go_wp2_with fail
      refine HTR.out.mono ?_
      rintro e w' ⟨⟨v2, l2, rfl, ho2, hr2⟩, rfl⟩
      have HO2 := Lib.hid ho2
      have HR2 := Lib.hid hr2
      clear ho2 hr2
      go_wp2_with fail
      go_ret
      exact ⟨_, l2, rfl, HO2.out, HR2.out, HBL.out⟩

end Go.Proofs.Ytnmiiimbjojcmaa
