/-
  Magnitudes of the program: plus. No condition. Numbers of the program: sum. No condition.
-/
import Derived.Test.YtnmiiimbjojcmaaGreatDoorVh
import Derived.Test.YtnmiiimbjojcmaaGreatDoorVl
import Derived.Deep.RegionHeld3
namespace Go.Proofs.YtnmiiimbjojcmaaGreatDoor
open Go.RowKit

/-- The program's addition. -/
def AddR (w : World) (la lb : List Nat) (n : Nat) (o b i : Value) (wr : World) : Prop :=
  ∃ (k cr : Nat) (out : List Nat), k ≤ n ∧ i = .int .i64 k ∧ b = .int .u32 cr ∧ wr.ownsRow w.heap.size 106 1 o k (nums .u32 out) ∧ PlusAt la lb out k cr ∧ Below w.heap.size w wr


set_option maxHeartbeats 2000000 in
set_option maxRecDepth 100000 in
theorem plus_ge (a b : Option Addr) (n m c d : Nat) (la lb : List Nat) (w : World) (hla : la.length = n) (hlb : lb.length = m) (hn : n ≤ 900000) (hmn : m ≤ n)
    (da : ∀ x ∈ la, x < Bs) (db : ∀ x ∈ lb, x < Bs) (ha : Nums .u32 w a la) (hb : Nums .u32 w b lb) :
    Calls Tryz.prog 91 #[.slice a n c, .slice b m d] w (MagNew w (val la + val lb)) := by
  obtain ⟨i0, hi, hz0, hz1, hz2⟩ := info_parts infoU32
  have t0 : decide ((n : Int) < (m : Int)) = false := by simp; omega
  have HLA := Lib.hid hla
  have HLB := Lib.hid hlb
  have HA := Lib.hid ha
  have HB := Lib.hid hb
  have DA := Lib.hid da
  have DB := Lib.hid db
  clear hla hlb ha hb da db
  go_enter Tryz.func91, Tryz.ntmps91
  go_wp2_with (at_make; refine wpList_make_own _ rfl _ _ 116 rfl w.heap.size 106 i0 (.int .u32 0) 1 Tryz.underlying116 hi hz0 hz1 .i64 .i64 _ (n + 1) rfl rfl rfl ?b2 ?b3 ?b4 ?_)
  case b2 => rw [hz2]; omega
  case b3 => unfold maxLen; omega
  case b4 => exact Nat.le_refl _
  intro w1 ho1 hg1
  have hst : AddR w la lb n (.slice (some ⟨w.heap.size, 0, none⟩) 0 (n + 1)) (.int .u32 0) (.int .i64 0) w1 := ⟨0, 0, [], Nat.zero_le _, rfl, rfl, ho1, plus_start _ _, (Below.refl _ _).grown hg1 (Nat.le_refl _) (fun k hk => by cases hk)⟩
  have HST := Lib.hid hst
  clear ho1 hg1 hst t0
  go_wp2_with fail
  go_loopw [5, 6, 23] (AddR w la lb n) (fun _ _ i _ => n - (intOf i).toNat)
  case atStart => exact HST.out
  case round =>
    obtain ⟨k, cr, out, hk, rfl, rfl, ho, hat, hbl⟩ := hrel
    have HO := Lib.hid ho
    have HT := Lib.hid hat
    have HBL := Lib.hid hbl
    clear ho hat hbl HST
    by_cases hlt : k < n
    · obtain ⟨x, hx⟩ : ∃ x, x = la.getD k 0 := ⟨_, rfl⟩
      obtain ⟨y, hy⟩ : ∃ y, y = lb.getD k 0 := ⟨_, rfl⟩
      obtain ⟨g, og, rfl, hg, hc⟩ := HA.out.below HBL.out k (by have := HLA.out; omega)
      rw [← hx] at hc
      have hx10 : x < 1000000000 := by rw [hx]; exact getD_lt la k DA.out
      have hy10 : y < 1000000000 := by rw [hy]; exact getD_lt lb k DB.out
      have hcr : cr ≤ 1 := HT.out.2.2.1
      have hat2 := plus_step la lb out k cr DA.out DB.out HT.out
      rw [← hx, ← hy] at hat2
      have HX := Lib.hid hx
      have HY := Lib.hid hy
      have HT2 := Lib.hid hat2
      clear hx hy hat2
      go_upto_if 34 with (fail)
      go_cut [9] (fun s wx => s = .int .u32 ((x + cr + y : Nat) : Int) ∧ wr = wx)
      case first => as_aux_lemma =>
        by_cases hkm : k < m
        · obtain ⟨gb, ob, rfl, hgb, hcb⟩ := HB.out.below HBL.out k (by have := HLB.out; omega)
          rw [← HY.out] at hcb
          go_wp2_with fail
          go_meet
          exact ⟨by congr 1, rfl⟩
        · have hy0 : y = 0 := by rw [HY.out, getD_out (by have := HLB.out; omega)]
          have HY0 := Lib.hid hy0
          clear hy0
          go_wp2_with fail
          go_meet
          exact ⟨by rw [HY0.out]; rfl, rfl⟩
      case rest => as_aux_lemma =>
        obtain ⟨rfl, rfl⟩ := hcut
        obtain ⟨v, hv⟩ : ∃ v, v = x + cr + y := ⟨_, rfl⟩
        have hv10 : v < 2000000001 := by omega
        rw [← hv] at HT2 ⊢
        clear hv hc
        obtain ⟨r, hr⟩ : ∃ r : Nat, (v : Int) % 1000000000 = (r : Int) ∧ v % 1000000000 = r := ⟨v % 1000000000, by omega, rfl⟩
        have HT3 := HT2.out
        rw [Bs_eq, hr.2] at HT3
        have HT4 := Lib.hid HT3
        have HR := Lib.hid hr
        clear hr HT3
        go_wp2_with (at_builtin; refine wpList_append1 _ rfl (.tmp 43) (.tmp 46) 116 rfl w.heap.size 106 i0 (.int .u32 0) 4 Tryz.underlying116 hi hz0 hz1 hz2 rfl _ _ _ rfl (HO.out.alloc _) ⟨wr.heap.size, 0, none⟩ 1 (.int .u32 (r : Int)) rfl ?c1 rfl ?c3 ?c4 ?c5 ?_)
        case c1 => simp [HR.out.1]
        case c3 => unfold maxLen; omega
        case c4 => omega
        case c5 => have := HBL.out.size; simp; omega
        intro v1 w2 ho2 hg2 hne2 hpl2
        have n2 : Below w.heap.size w w2 := (HBL.out.alloc HBL.out.size _).grown hg2 (by have := HBL.out.size; simp; omega) (fun k hk => (HO.out.lt k hk).1)
        rw [nums_snoc] at ho2
        have HO2 := Lib.hid ho2
        have N2 := Lib.hid n2
        clear ho2 n2 hg2 hne2 hpl2
        go_wp2_with fail
        go_roundw
        case rel => exact ⟨k + 1, v / 1000000000, out ++ [r], by omega, by go_num, rfl, HO2.out, HT4.out, N2.out⟩
        case measure => simp [intOf] <;> omega
    · obtain rfl : k = n := by omega
      have hv := plus_end la lb out cr (by rw [HLA.out, HLB.out]; omega) (by rw [HLA.out]; exact HT.out)
      have HV := Lib.hid hv
      clear hv
      go_wp2_with (at_builtin; refine wpList_append1 _ rfl (.tmp 49) (.tmp 51) 116 rfl w.heap.size 106 i0 (.int .u32 0) 4 Tryz.underlying116 hi hz0 hz1 hz2 rfl _ _ _ rfl (HO.out.alloc _) ⟨wr.heap.size, 0, none⟩ 1 (.int .u32 cr) rfl ?c1 rfl ?c3 ?c4 ?c5 ?_)
      case c1 => simp
      case c3 => unfold maxLen; omega
      case c4 => omega
      case c5 => have := HBL.out.size; simp; omega
      intro v1 w2 ho2 hg2 hne2 hpl2
      have n2 : Below w.heap.size w w2 := (HBL.out.alloc HBL.out.size _).grown hg2 (by have := HBL.out.size; simp; omega) (fun k hk => (HO.out.lt k hk).1)
      rw [nums_snoc] at ho2
      have htr := trim_own ho2 (by omega) HV.out.1
      rw [HV.out.2] at htr
      have HTR := Lib.hid htr
      have N2 := Lib.hid n2
      clear ho2 n2 hg2 hne2 hpl2 htr
      go_wp2_with fail
      refine HTR.out.mono ?_
      rintro e w' ⟨⟨v2, l2, rfl, ho2, hr2⟩, rfl⟩
      have HO2 := Lib.hid ho2
      have HR2 := Lib.hid hr2
      clear ho2 hr2
      go_wp2_with fail
      go_ret
      exact ⟨_, l2, rfl, HO2.out, HR2.out, N2.out⟩


set_option maxHeartbeats 2000000 in
set_option maxRecDepth 100000 in
theorem plus_lt (a b : Option Addr) (n m c d : Nat) (la lb : List Nat) (w : World) (hla : la.length = n) (hlb : lb.length = m) (hn : n ≤ 900000) (hmn : m < n)
    (da : ∀ x ∈ la, x < Bs) (db : ∀ x ∈ lb, x < Bs) (ha : Nums .u32 w a la) (hb : Nums .u32 w b lb) :
    Calls Tryz.prog 91 #[.slice b m d, .slice a n c] w (MagNew w (val la + val lb)) := by
  obtain ⟨i0, hi, hz0, hz1, hz2⟩ := info_parts infoU32
  have t0 : decide ((m : Int) < (n : Int)) = true := by simp; omega
  have HLA := Lib.hid hla
  have HLB := Lib.hid hlb
  have HA := Lib.hid ha
  have HB := Lib.hid hb
  have DA := Lib.hid da
  have DB := Lib.hid db
  clear hla hlb ha hb da db
  go_enter Tryz.func91, Tryz.ntmps91
  go_wp2_with (at_make; refine wpList_make_own _ rfl _ _ 116 rfl w.heap.size 106 i0 (.int .u32 0) 1 Tryz.underlying116 hi hz0 hz1 .i64 .i64 _ (n + 1) rfl rfl rfl ?b2 ?b3 ?b4 ?_)
  case b2 => rw [hz2]; omega
  case b3 => unfold maxLen; omega
  case b4 => exact Nat.le_refl _
  intro w1 ho1 hg1
  have hst : AddR w la lb n (.slice (some ⟨w.heap.size, 0, none⟩) 0 (n + 1)) (.int .u32 0) (.int .i64 0) w1 := ⟨0, 0, [], Nat.zero_le _, rfl, rfl, ho1, plus_start _ _, (Below.refl _ _).grown hg1 (Nat.le_refl _) (fun k hk => by cases hk)⟩
  have HST := Lib.hid hst
  clear ho1 hg1 hst t0
  go_wp2_with fail
  go_loopw [5, 6, 23] (AddR w la lb n) (fun _ _ i _ => n - (intOf i).toNat)
  case atStart => exact HST.out
  case round =>
    obtain ⟨k, cr, out, hk, rfl, rfl, ho, hat, hbl⟩ := hrel
    have HO := Lib.hid ho
    have HT := Lib.hid hat
    have HBL := Lib.hid hbl
    clear ho hat hbl HST
    by_cases hlt : k < n
    · obtain ⟨x, hx⟩ : ∃ x, x = la.getD k 0 := ⟨_, rfl⟩
      obtain ⟨y, hy⟩ : ∃ y, y = lb.getD k 0 := ⟨_, rfl⟩
      obtain ⟨g, og, rfl, hg, hc⟩ := HA.out.below HBL.out k (by have := HLA.out; omega)
      rw [← hx] at hc
      have hx10 : x < 1000000000 := by rw [hx]; exact getD_lt la k DA.out
      have hy10 : y < 1000000000 := by rw [hy]; exact getD_lt lb k DB.out
      have hcr : cr ≤ 1 := HT.out.2.2.1
      have hat2 := plus_step la lb out k cr DA.out DB.out HT.out
      rw [← hx, ← hy] at hat2
      have HX := Lib.hid hx
      have HY := Lib.hid hy
      have HT2 := Lib.hid hat2
      clear hx hy hat2
      go_upto_if 34 with (fail)
      go_cut [9] (fun s wx => s = .int .u32 ((x + cr + y : Nat) : Int) ∧ wr = wx)
      case first => as_aux_lemma =>
        by_cases hkm : k < m
        · obtain ⟨gb, ob, rfl, hgb, hcb⟩ := HB.out.below HBL.out k (by have := HLB.out; omega)
          rw [← HY.out] at hcb
          go_wp2_with fail
          go_meet
          exact ⟨by congr 1, rfl⟩
        · have hy0 : y = 0 := by rw [HY.out, getD_out (by have := HLB.out; omega)]
          have HY0 := Lib.hid hy0
          clear hy0
          go_wp2_with fail
          go_meet
          exact ⟨by rw [HY0.out]; rfl, rfl⟩
      case rest => as_aux_lemma =>
        obtain ⟨rfl, rfl⟩ := hcut
        obtain ⟨v, hv⟩ : ∃ v, v = x + cr + y := ⟨_, rfl⟩
        have hv10 : v < 2000000001 := by omega
        rw [← hv] at HT2 ⊢
        clear hv hc
        obtain ⟨r, hr⟩ : ∃ r : Nat, (v : Int) % 1000000000 = (r : Int) ∧ v % 1000000000 = r := ⟨v % 1000000000, by omega, rfl⟩
        have HT3 := HT2.out
        rw [Bs_eq, hr.2] at HT3
        have HT4 := Lib.hid HT3
        have HR := Lib.hid hr
        clear hr HT3
        go_wp2_with (at_builtin; refine wpList_append1 _ rfl (.tmp 43) (.tmp 46) 116 rfl w.heap.size 106 i0 (.int .u32 0) 4 Tryz.underlying116 hi hz0 hz1 hz2 rfl _ _ _ rfl (HO.out.alloc _) ⟨wr.heap.size, 0, none⟩ 1 (.int .u32 (r : Int)) rfl ?c1 rfl ?c3 ?c4 ?c5 ?_)
        case c1 => simp [HR.out.1]
        case c3 => unfold maxLen; omega
        case c4 => omega
        case c5 => have := HBL.out.size; simp; omega
        intro v1 w2 ho2 hg2 hne2 hpl2
        have n2 : Below w.heap.size w w2 := (HBL.out.alloc HBL.out.size _).grown hg2 (by have := HBL.out.size; simp; omega) (fun k hk => (HO.out.lt k hk).1)
        rw [nums_snoc] at ho2
        have HO2 := Lib.hid ho2
        have N2 := Lib.hid n2
        clear ho2 n2 hg2 hne2 hpl2
        go_wp2_with fail
        go_roundw
        case rel => exact ⟨k + 1, v / 1000000000, out ++ [r], by omega, by go_num, rfl, HO2.out, HT4.out, N2.out⟩
        case measure => simp [intOf] <;> omega
    · obtain rfl : k = n := by omega
      have hv := plus_end la lb out cr (by rw [HLA.out, HLB.out]; omega) (by rw [HLA.out]; exact HT.out)
      have HV := Lib.hid hv
      clear hv
      go_wp2_with (at_builtin; refine wpList_append1 _ rfl (.tmp 49) (.tmp 51) 116 rfl w.heap.size 106 i0 (.int .u32 0) 4 Tryz.underlying116 hi hz0 hz1 hz2 rfl _ _ _ rfl (HO.out.alloc _) ⟨wr.heap.size, 0, none⟩ 1 (.int .u32 cr) rfl ?c1 rfl ?c3 ?c4 ?c5 ?_)
      case c1 => simp
      case c3 => unfold maxLen; omega
      case c4 => omega
      case c5 => have := HBL.out.size; simp; omega
      intro v1 w2 ho2 hg2 hne2 hpl2
      have n2 : Below w.heap.size w w2 := (HBL.out.alloc HBL.out.size _).grown hg2 (by have := HBL.out.size; simp; omega) (fun k hk => (HO.out.lt k hk).1)
      rw [nums_snoc] at ho2
      have htr := trim_own ho2 (by omega) HV.out.1
      rw [HV.out.2] at htr
      have HTR := Lib.hid htr
      have N2 := Lib.hid n2
      clear ho2 n2 hg2 hne2 hpl2 htr
      go_wp2_with fail
      refine HTR.out.mono ?_
      rintro e w' ⟨⟨v2, l2, rfl, ho2, hr2⟩, rfl⟩
      have HO2 := Lib.hid ho2
      have HR2 := Lib.hid hr2
      clear ho2 hr2
      go_wp2_with fail
      go_ret
      exact ⟨_, l2, rfl, HO2.out, HR2.out, N2.out⟩


/-- The program's addition, of any two magnitudes. -/
theorem plus_any (a b : Option Addr) (n m c d : Nat) (la lb : List Nat) (w : World) (hla : la.length = n) (hlb : lb.length = m) (hn : n ≤ 900000) (hm : m ≤ 900000)
    (da : ∀ x ∈ la, x < Bs) (db : ∀ x ∈ lb, x < Bs) (ha : Nums .u32 w a la) (hb : Nums .u32 w b lb) :
    Calls Tryz.prog 91 #[.slice a n c, .slice b m d] w (MagNew w (val la + val lb)) := by
  by_cases h : m ≤ n
  · exact plus_ge a b n m c d la lb w hla hlb hn h da db ha hb
  · have := plus_lt b a m n d c lb la w hlb hla hm (by omega) db da hb ha
    rwa [Nat.add_comm] at this

end Go.Proofs.YtnmiiimbjojcmaaGreatDoor

namespace Go.Proofs.YtnmiiimbjojcmaaGreatDoor
open Go.RowKit

/-- A number, as a value of the program's. -/
def NumAt (w : World) (v : Value) (z : Int) : Prop :=
  ∃ a c l, v = .agg #[.bool (decide (z < 0)), .slice a (l : List Nat).length c] ∧ l.length ≤ c ∧ Nums .u32 w a l ∧ Rep l z.natAbs
theorem NumAt.below {w w' : World} {v : Value} {z : Int} (h : NumAt w v z) (hb : Below w.heap.size w w') : NumAt w' v z := by
  obtain ⟨a, c, l, h1, h2, h3, h4⟩ := h
  exact ⟨a, c, l, h1, h2, h3.below hb, h4⟩
/-- A magnitude that is handed back, put into a number. -/
theorem natAbs_sum_same {x y : Int} (h : (decide (x < 0) == decide (y < 0)) = true) : (x + y).natAbs = x.natAbs + y.natAbs ∧ (decide (x < 0) && decide (0 < (x + y).natAbs)) = decide (x + y < 0) := by
  by_cases hx : x < 0 <;> by_cases hy : y < 0 <;> simp [hx, hy] at h <;> exact ⟨by omega, by rw [Bool.eq_iff_iff, Bool.and_eq_true, decide_eq_true_eq, decide_eq_true_eq, decide_eq_true_eq]; omega⟩
theorem natAbs_sum_ge {x y : Int} (h : (decide (x < 0) == decide (y < 0)) = false) (hc : y.natAbs ≤ x.natAbs) : (x + y).natAbs = x.natAbs - y.natAbs ∧ (decide (x < 0) && decide (0 < (x + y).natAbs)) = decide (x + y < 0) := by
  by_cases hx : x < 0 <;> by_cases hy : y < 0 <;> simp [hx, hy] at h <;> exact ⟨by omega, by rw [Bool.eq_iff_iff, Bool.and_eq_true, decide_eq_true_eq, decide_eq_true_eq, decide_eq_true_eq]; omega⟩
theorem natAbs_sum_lt {x y : Int} (h : (decide (x < 0) == decide (y < 0)) = false) (hc : x.natAbs < y.natAbs) : (x + y).natAbs = y.natAbs - x.natAbs ∧ (decide (y < 0) && decide (0 < (x + y).natAbs)) = decide (x + y < 0) := by
  by_cases hx : x < 0 <;> by_cases hy : y < 0 <;> simp [hx, hy] at h <;> exact ⟨by omega, by rw [Bool.eq_iff_iff, Bool.and_eq_true, decide_eq_true_eq, decide_eq_true_eq, decide_eq_true_eq]; omega⟩
theorem rep_len_pos {l : List Nat} {N : Nat} (h : Rep l N) : 0 < l.length ↔ 0 < N := by
  constructor
  · intro hl
    have := val_pos l h.2.1 (by intro e; rw [e] at hl; cases hl)
    rwa [h.2.2] at this
  · intro hN
    cases l with
    | nil => have := h.2.2; simp [val] at this; omega
    | cons a l => simp

/-- The three boxes of sum. -/
def W3 (w : World) (v1 v2 : Array Value) : World := ((w.alloc (.cells v1 118)).alloc (.cells v2 118)).alloc (.cells #[.bool false, .slice none 0 0] 118)
theorem W3_box (w : World) (nx ny : Bool) (v1 v2 : Value) : Box2 (W3 w #[.bool nx, v1] #[.bool ny, v2]) w.heap.size nx v1 ∧ Box2 (W3 w #[.bool nx, v1] #[.bool ny, v2]) (w.heap.size + 1) ny v2 ∧ Box2 (W3 w #[.bool nx, v1] #[.bool ny, v2]) (w.heap.size + 1 + 1) false (.slice none 0 0) ∧ Below w.heap.size w (W3 w #[.bool nx, v1] #[.bool ny, v2]) := by
  refine ⟨?_, ?_, ?_, ?_⟩
  · exact Box2.alloc (Box2.alloc (show Box2 (w.alloc _) w.heap.size nx v1 from World.alloc_heap_new w _) _) _
  · have h := World.alloc_heap_new (w.alloc (.cells #[.bool nx, v1] 118)) (.cells #[.bool ny, v2] 118)
    rw [World.size_alloc] at h
    exact Box2.alloc (show Box2 _ (w.heap.size + 1) ny v2 from h) _
  · have h := World.alloc_heap_new ((w.alloc (.cells #[.bool nx, v1] 118)).alloc (.cells #[.bool ny, v2] 118)) (.cells #[.bool false, .slice none 0 0] 118)
    rw [World.size_alloc, World.size_alloc] at h
    exact h
  · exact (((Below.refl _ w).alloc (Nat.le_refl _) _).alloc (by simp) _).alloc (by simp; omega) _

/-- A number is handed back; the world has drawn, no more. -/
def DrI (W : World) (n : Int) (e : Ending) (w' : World) : Prop := e = .returned (.int .i64 n) ∧ ∃ k, w' = W.drewN k
def SumPost (w : World) (z : Int) (e : Ending) (w' : World) : Prop := ∃ v, e = .returned v ∧ NumAt w' v z ∧ Below w.heap.size w w'

theorem two_pow (k : Nat) (hk : 1 ≤ k) : Bs ^ k + Bs ^ k ≤ Bs ^ k * Bs ^ k := by
  have h : 2 ≤ Bs ^ k := Nat.le_trans (by decide : 2 ≤ Bs ^ 1) (Nat.pow_le_pow_right (by decide) hk)
  rw [← Nat.mul_two]
  exact Nat.mul_le_mul_left _ h
end Go.Proofs.YtnmiiimbjojcmaaGreatDoor
