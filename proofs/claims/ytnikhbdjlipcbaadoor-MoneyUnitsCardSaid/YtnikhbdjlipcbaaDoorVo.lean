/-
  Magnitudes of the program: plus. No condition. Numbers of the program: sum. No condition.
-/
import Derived.Test.YtnikhbdjlipcbaaDoorVh
import Derived.Test.YtnikhbdjlipcbaaDoorVl
import Derived.Deep.RegionHeld3
namespace Go.Proofs.YtnikhbdjlipcbaaDoor
open Go.RowKit

/-- The program's addition. -/
def AddR (w : World) (la lb : List Nat) (n : Nat) (o b i : Value) (wr : World) : Prop :=
  ∃ (k cr : Nat) (out : List Nat), k ≤ n ∧ i = .int .i64 k ∧ b = .int .u32 cr ∧ wr.ownsRow w.heap.size 144 1 o k (nums .u32 out) ∧ PlusAt la lb out k cr ∧ Below w.heap.size w wr


set_option maxHeartbeats 2000000 in
set_option maxRecDepth 100000 in
theorem plus_ge (a b : Option Addr) (n m c d : Nat) (la lb : List Nat) (w : World) (hla : la.length = n) (hlb : lb.length = m) (hn : n ≤ 900000) (hmn : m ≤ n)
    (da : ∀ x ∈ la, x < Bs) (db : ∀ x ∈ lb, x < Bs) (ha : Nums .u32 w a la) (hb : Nums .u32 w b lb) :
    Calls Tryd.prog 97 #[.slice a n c, .slice b m d] w (MagNew w (val la + val lb)) := by
  obtain ⟨i0, hi, hz0, hz1, hz2⟩ := info_parts infoU32
  have t0 : decide ((n : Int) < (m : Int)) = false := by simp; omega
  have HLA := Lib.hid hla
  have HLB := Lib.hid hlb
  have HA := Lib.hid ha
  have HB := Lib.hid hb
  have DA := Lib.hid da
  have DB := Lib.hid db
  clear hla hlb ha hb da db
  go_enter Tryd.func97, Tryd.ntmps97
  go_wp2_with (at_make; refine wpList_make_own _ rfl _ _ 133 rfl w.heap.size 144 i0 (.int .u32 0) 1 Tryd.underlying133 hi hz0 hz1 .i64 .i64 _ (n + 1) rfl rfl rfl ?b2 ?b3 ?b4 ?_)
  case b2 => rw [hz2]; omega
  case b3 => unfold maxLen; omega
  case b4 => exact Nat.le_refl _
  intro w1 ho1 hg1
  have hst : AddR w la lb n (.slice (some ⟨w.heap.size, 0, none⟩) 0 (n + 1)) (.int .u32 0) (.int .i64 0) w1 := ⟨0, 0, [], Nat.zero_le _, rfl, rfl, ho1, plus_start _ _, (Below.refl _ _).grown hg1 (Nat.le_refl _) (fun k hk => by cases hk)⟩
  have HST := Lib.hid hst
  clear ho1 hg1 hst t0
  go_wp2_with fail
  go_loopw [5, 6, 23] (AddR w la lb n) (fun _ _ i _ => n - (intOf i).toNat)
  case atStart => exact HST.out
  case round =>
    obtain ⟨k, cr, out, hk, rfl, rfl, ho, hat, hbl⟩ := hrel
    have HO := Lib.hid ho
    have HT := Lib.hid hat
    have HBL := Lib.hid hbl
    clear ho hat hbl HST
    by_cases hlt : k < n
    · obtain ⟨x, hx⟩ : ∃ x, x = la.getD k 0 := ⟨_, rfl⟩
      obtain ⟨y, hy⟩ : ∃ y, y = lb.getD k 0 := ⟨_, rfl⟩
      obtain ⟨g, og, rfl, hg, hc⟩ := HA.out.below HBL.out k (by have := HLA.out; omega)
      rw [← hx] at hc
      have hx10 : x < 1000000000 := by rw [hx]; exact getD_lt la k DA.out
      have hy10 : y < 1000000000 := by rw [hy]; exact getD_lt lb k DB.out
      have hcr : cr ≤ 1 := HT.out.2.2.1
      have hat2 := plus_step la lb out k cr DA.out DB.out HT.out
      rw [← hx, ← hy] at hat2
      have HX := Lib.hid hx
      have HY := Lib.hid hy
      have HT2 := Lib.hid hat2
      clear hx hy hat2
      go_upto_if 34 with (fail)
      go_cut [9] (fun s wx => s = .int .u32 ((x + cr + y : Nat) : Int) ∧ wr = wx)
      case first => as_aux_lemma =>
        by_cases hkm : k < m
        · obtain ⟨gb, ob, rfl, hgb, hcb⟩ := HB.out.below HBL.out k (by have := HLB.out; omega)
          rw [← HY.out] at hcb
          go_wp2_with fail
          go_meet
          exact ⟨by congr 1, rfl⟩
        · have hy0 : y = 0 := by rw [HY.out, getD_out (by have := HLB.out; omega)]
          have HY0 := Lib.hid hy0
          clear hy0
          go_wp2_with fail
          go_meet
          exact ⟨by rw [HY0.out]; rfl, rfl⟩
      case rest => as_aux_lemma =>
        obtain ⟨rfl, rfl⟩ := hcut
        obtain ⟨v, hv⟩ : ∃ v, v = x + cr + y := ⟨_, rfl⟩
        have hv10 : v < 2000000001 := by omega
        rw [← hv] at HT2 ⊢
        clear hv hc
        obtain ⟨r, hr⟩ : ∃ r : Nat, (v : Int) % 1000000000 = (r : Int) ∧ v % 1000000000 = r := ⟨v % 1000000000, by omega, rfl⟩
        have HT3 := HT2.out
        rw [Bs_eq, hr.2] at HT3
        have HT4 := Lib.hid HT3
        have HR := Lib.hid hr
        clear hr HT3
        go_wp2_with (at_builtin; refine wpList_append1 _ rfl (.tmp 43) (.tmp 46) 133 rfl w.heap.size 144 i0 (.int .u32 0) 4 Tryd.underlying133 hi hz0 hz1 hz2 rfl _ _ _ rfl (HO.out.alloc _) ⟨wr.heap.size, 0, none⟩ 1 (.int .u32 (r : Int)) rfl ?c1 rfl ?c3 ?c4 ?c5 ?_)
        case c1 => simp [HR.out.1]
        case c3 => unfold maxLen; omega
        case c4 => omega
        case c5 => have := HBL.out.size; simp; omega
        intro v1 w2 ho2 hg2 hne2 hpl2
        have n2 : Below w.heap.size w w2 := (HBL.out.alloc HBL.out.size _).grown hg2 (by have := HBL.out.size; simp; omega) (fun k hk => (HO.out.lt k hk).1)
        rw [nums_snoc] at ho2
        have HO2 := Lib.hid ho2
        have N2 := Lib.hid n2
        clear ho2 n2 hg2 hne2 hpl2
        go_wp2_with fail
        go_roundw
        case rel => exact ⟨k + 1, v / 1000000000, out ++ [r], by omega, by go_num, rfl, HO2.out, HT4.out, N2.out⟩
        case measure => simp [intOf] <;> omega
    · obtain rfl : k = n := by omega
      have hv := plus_end la lb out cr (by rw [HLA.out, HLB.out]; omega) (by rw [HLA.out]; exact HT.out)
      have HV := Lib.hid hv
      clear hv
      go_wp2_with (at_builtin; refine wpList_append1 _ rfl (.tmp 49) (.tmp 51) 133 rfl w.heap.size 144 i0 (.int .u32 0) 4 Tryd.underlying133 hi hz0 hz1 hz2 rfl _ _ _ rfl (HO.out.alloc _) ⟨wr.heap.size, 0, none⟩ 1 (.int .u32 cr) rfl ?c1 rfl ?c3 ?c4 ?c5 ?_)
      case c1 => simp
      case c3 => unfold maxLen; omega
      case c4 => omega
      case c5 => have := HBL.out.size; simp; omega
      intro v1 w2 ho2 hg2 hne2 hpl2
      have n2 : Below w.heap.size w w2 := (HBL.out.alloc HBL.out.size _).grown hg2 (by have := HBL.out.size; simp; omega) (fun k hk => (HO.out.lt k hk).1)
      rw [nums_snoc] at ho2
      have htr := trim_own ho2 (by omega) HV.out.1
      rw [HV.out.2] at htr
      have HTR := Lib.hid htr
      have N2 := Lib.hid n2
      clear ho2 n2 hg2 hne2 hpl2 htr
      go_wp2_with fail
      refine HTR.out.mono ?_
      rintro e w' ⟨⟨v2, l2, rfl, ho2, hr2⟩, rfl⟩
      have HO2 := Lib.hid ho2
      have HR2 := Lib.hid hr2
      clear ho2 hr2
      go_wp2_with fail
      go_ret
      exact ⟨_, l2, rfl, HO2.out, HR2.out, N2.out⟩


set_option maxHeartbeats 2000000 in
set_option maxRecDepth 100000 in
theorem plus_lt (a b : Option Addr) (n m c d : Nat) (la lb : List Nat) (w : World) (hla : la.length = n) (hlb : lb.length = m) (hn : n ≤ 900000) (hmn : m < n)
    (da : ∀ x ∈ la, x < Bs) (db : ∀ x ∈ lb, x < Bs) (ha : Nums .u32 w a la) (hb : Nums .u32 w b lb) :
    Calls Tryd.prog 97 #[.slice b m d, .slice a n c] w (MagNew w (val la + val lb)) := by
  obtain ⟨i0, hi, hz0, hz1, hz2⟩ := info_parts infoU32
  have t0 : decide ((m : Int) < (n : Int)) = true := by simp; omega
  have HLA := Lib.hid hla
  have HLB := Lib.hid hlb
  have HA := Lib.hid ha
  have HB := Lib.hid hb
  have DA := Lib.hid da
  have DB := Lib.hid db
  clear hla hlb ha hb da db
  go_enter Tryd.func97, Tryd.ntmps97
  go_wp2_with (at_make; refine wpList_make_own _ rfl _ _ 133 rfl w.heap.size 144 i0 (.int .u32 0) 1 Tryd.underlying133 hi hz0 hz1 .i64 .i64 _ (n + 1) rfl rfl rfl ?b2 ?b3 ?b4 ?_)
  case b2 => rw [hz2]; omega
  case b3 => unfold maxLen; omega
  case b4 => exact Nat.le_refl _
  intro w1 ho1 hg1
  have hst : AddR w la lb n (.slice (some ⟨w.heap.size, 0, none⟩) 0 (n + 1)) (.int .u32 0) (.int .i64 0) w1 := ⟨0, 0, [], Nat.zero_le _, rfl, rfl, ho1, plus_start _ _, (Below.refl _ _).grown hg1 (Nat.le_refl _) (fun k hk => by cases hk)⟩
  have HST := Lib.hid hst
  clear ho1 hg1 hst t0
  go_wp2_with fail
  go_loopw [5, 6, 23] (AddR w la lb n) (fun _ _ i _ => n - (intOf i).toNat)
  case atStart => exact HST.out
  case round =>
    obtain ⟨k, cr, out, hk, rfl, rfl, ho, hat, hbl⟩ := hrel
    have HO := Lib.hid ho
    have HT := Lib.hid hat
    have HBL := Lib.hid hbl
    clear ho hat hbl HST
    by_cases hlt : k < n
    · obtain ⟨x, hx⟩ : ∃ x, x = la.getD k 0 := ⟨_, rfl⟩
      obtain ⟨y, hy⟩ : ∃ y, y = lb.getD k 0 := ⟨_, rfl⟩
      obtain ⟨g, og, rfl, hg, hc⟩ := HA.out.below HBL.out k (by have := HLA.out; omega)
      rw [← hx] at hc
      have hx10 : x < 1000000000 := by rw [hx]; exact getD_lt la k DA.out
      have hy10 : y < 1000000000 := by rw [hy]; exact getD_lt lb k DB.out
      have hcr : cr ≤ 1 := HT.out.2.2.1
      have hat2 := plus_step la lb out k cr DA.out DB.out HT.out
      rw [← hx, ← hy] at hat2
      have HX := Lib.hid hx
      have HY := Lib.hid hy
      have HT2 := Lib.hid hat2
      clear hx hy hat2
      go_upto_if 34 with (fail)
      go_cut [9] (fun s wx => s = .int .u32 ((x + cr + y : Nat) : Int) ∧ wr = wx)
      case first => as_aux_lemma =>
        by_cases hkm : k < m
        · obtain ⟨gb, ob, rfl, hgb, hcb⟩ := HB.out.below HBL.out k (by have := HLB.out; omega)
          rw [← HY.out] at hcb
          go_wp2_with fail
          go_meet
          exact ⟨by congr 1, rfl⟩
        · have hy0 : y = 0 := by rw [HY.out, getD_out (by have := HLB.out; omega)]
          have HY0 := Lib.hid hy0
          clear hy0
          go_wp2_with fail
          go_meet
          exact ⟨by rw [HY0.out]; rfl, rfl⟩
      case rest => as_aux_lemma =>
        obtain ⟨rfl, rfl⟩ := hcut
        obtain ⟨v, hv⟩ : ∃ v, v = x + cr + y := ⟨_, rfl⟩
        have hv10 : v < 2000000001 := by omega
        rw [← hv] at HT2 ⊢
        clear hv hc
        obtain ⟨r, hr⟩ : ∃ r : Nat, (v : Int) % 1000000000 = (r : Int) ∧ v % 1000000000 = r := ⟨v % 1000000000, by omega, rfl⟩
        have HT3 := HT2.out
        rw [Bs_eq, hr.2] at HT3
        have HT4 := Lib.hid HT3
        have HR := Lib.hid hr
        clear hr HT3
        go_wp2_with (at_builtin; refine wpList_append1 _ rfl (.tmp 43) (.tmp 46) 133 rfl w.heap.size 144 i0 (.int .u32 0) 4 Tryd.underlying133 hi hz0 hz1 hz2 rfl _ _ _ rfl (HO.out.alloc _) ⟨wr.heap.size, 0, none⟩ 1 (.int .u32 (r : Int)) rfl ?c1 rfl ?c3 ?c4 ?c5 ?_)
        case c1 => simp [HR.out.1]
        case c3 => unfold maxLen; omega
        case c4 => omega
        case c5 => have := HBL.out.size; simp; omega
        intro v1 w2 ho2 hg2 hne2 hpl2
        have n2 : Below w.heap.size w w2 := (HBL.out.alloc HBL.out.size _).grown hg2 (by have := HBL.out.size; simp; omega) (fun k hk => (HO.out.lt k hk).1)
        rw [nums_snoc] at ho2
        have HO2 := Lib.hid ho2
        have N2 := Lib.hid n2
        clear ho2 n2 hg2 hne2 hpl2
        go_wp2_with fail
        go_roundw
        case rel => exact ⟨k + 1, v / 1000000000, out ++ [r], by omega, by go_num, rfl, HO2.out, HT4.out, N2.out⟩
        case measure => simp [intOf] <;> omega
    · obtain rfl : k = n := by omega
      have hv := plus_end la lb out cr (by rw [HLA.out, HLB.out]; omega) (by rw [HLA.out]; exact HT.out)
      have HV := Lib.hid hv
      clear hv
      go_wp2_with (at_builtin; refine wpList_append1 _ rfl (.tmp 49) (.tmp 51) 133 rfl w.heap.size 144 i0 (.int .u32 0) 4 Tryd.underlying133 hi hz0 hz1 hz2 rfl _ _ _ rfl (HO.out.alloc _) ⟨wr.heap.size, 0, none⟩ 1 (.int .u32 cr) rfl ?c1 rfl ?c3 ?c4 ?c5 ?_)
      case c1 => simp
      case c3 => unfold maxLen; omega
      case c4 => omega
      case c5 => have := HBL.out.size; simp; omega
      intro v1 w2 ho2 hg2 hne2 hpl2
      have n2 : Below w.heap.size w w2 := (HBL.out.alloc HBL.out.size _).grown hg2 (by have := HBL.out.size; simp; omega) (fun k hk => (HO.out.lt k hk).1)
      rw [nums_snoc] at ho2
      have htr := trim_own ho2 (by omega) HV.out.1
      rw [HV.out.2] at htr
      have HTR := Lib.hid htr
      have N2 := Lib.hid n2
      clear ho2 n2 hg2 hne2 hpl2 htr
      go_wp2_with fail
      refine HTR.out.mono ?_
      rintro e w' ⟨⟨v2, l2, rfl, ho2, hr2⟩, rfl⟩
      have HO2 := Lib.hid ho2
      have HR2 := Lib.hid hr2
      clear ho2 hr2
      go_wp2_with fail
      go_ret
      exact ⟨_, l2, rfl, HO2.out, HR2.out, N2.out⟩


/-- The program's addition, of any two magnitudes. -/
theorem plus_any (a b : Option Addr) (n m c d : Nat) (la lb : List Nat) (w : World) (hla : la.length = n) (hlb : lb.length = m) (hn : n ≤ 900000) (hm : m ≤ 900000)
    (da : ∀ x ∈ la, x < Bs) (db : ∀ x ∈ lb, x < Bs) (ha : Nums .u32 w a la) (hb : Nums .u32 w b lb) :
    Calls Tryd.prog 97 #[.slice a n c, .slice b m d] w (MagNew w (val la + val lb)) := by
  by_cases h : m ≤ n
  · exact plus_ge a b n m c d la lb w hla hlb hn h da db ha hb
  · have := plus_lt b a m n d c lb la w hlb hla hm (by omega) db da hb ha
    rwa [Nat.add_comm] at this

end Go.Proofs.YtnikhbdjlipcbaaDoor

namespace Go.Proofs.YtnikhbdjlipcbaaDoor
open Go.RowKit

/-- A number, as a value of the program's. -/
def NumAt (w : World) (v : Value) (z : Int) : Prop :=
  ∃ a c l, v = .agg #[.bool (decide (z < 0)), .slice a (l : List Nat).length c] ∧ l.length ≤ c ∧ Nums .u32 w a l ∧ Rep l z.natAbs
theorem NumAt.below {w w' : World} {v : Value} {z : Int} (h : NumAt w v z) (hb : Below w.heap.size w w') : NumAt w' v z := by
  obtain ⟨a, c, l, h1, h2, h3, h4⟩ := h
  exact ⟨a, c, l, h1, h2, h3.below hb, h4⟩
/-- A magnitude that is handed back, put into a number. -/
theorem natAbs_sum_same {x y : Int} (h : (decide (x < 0) == decide (y < 0)) = true) : (x + y).natAbs = x.natAbs + y.natAbs ∧ (decide (x < 0) && decide (0 < (x + y).natAbs)) = decide (x + y < 0) := by
  by_cases hx : x < 0 <;> by_cases hy : y < 0 <;> simp [hx, hy] at h <;> exact ⟨by omega, by rw [Bool.eq_iff_iff, Bool.and_eq_true, decide_eq_true_eq, decide_eq_true_eq, decide_eq_true_eq]; omega⟩
theorem natAbs_sum_ge {x y : Int} (h : (decide (x < 0) == decide (y < 0)) = false) (hc : y.natAbs ≤ x.natAbs) : (x + y).natAbs = x.natAbs - y.natAbs ∧ (decide (x < 0) && decide (0 < (x + y).natAbs)) = decide (x + y < 0) := by
  by_cases hx : x < 0 <;> by_cases hy : y < 0 <;> simp [hx, hy] at h <;> exact ⟨by omega, by rw [Bool.eq_iff_iff, Bool.and_eq_true, decide_eq_true_eq, decide_eq_true_eq, decide_eq_true_eq]; omega⟩
theorem natAbs_sum_lt {x y : Int} (h : (decide (x < 0) == decide (y < 0)) = false) (hc : x.natAbs < y.natAbs) : (x + y).natAbs = y.natAbs - x.natAbs ∧ (decide (y < 0) && decide (0 < (x + y).natAbs)) = decide (x + y < 0) := by
  by_cases hx : x < 0 <;> by_cases hy : y < 0 <;> simp [hx, hy] at h <;> exact ⟨by omega, by rw [Bool.eq_iff_iff, Bool.and_eq_true, decide_eq_true_eq, decide_eq_true_eq, decide_eq_true_eq]; omega⟩
theorem rep_len_pos {l : List Nat} {N : Nat} (h : Rep l N) : 0 < l.length ↔ 0 < N := by
  constructor
  · intro hl
    have := val_pos l h.2.1 (by intro e; rw [e] at hl; cases hl)
    rwa [h.2.2] at this
  · intro hN
    cases l with
    | nil => have := h.2.2; simp [val] at this; omega
    | cons a l => simp

set_option maxHeartbeats 1000000 in
set_option maxRecDepth 100000 in
theorem keepf_any (g : Bool) (a : Option Addr) (n c : Nat) (w : World) (hn : n ≤ 1000000) :
    Calls Tryd.prog 127 #[.bool g, .slice a n c] w fun e w' => e = .returned (.agg #[.bool (g && decide (0 < n)), .slice a n c]) ∧ Below w.heap.size w w' := by
  obtain ⟨q, hq⟩ : ∃ q, q = (g && decide (0 < n)) := ⟨_, rfl⟩
  rw [← hq]
  have HQ := Lib.hid hq
  clear hq
  cases g with
  | false =>
    have e : q = false := HQ.out
    subst e
    clear HQ
    go_enter Tryd.func127, Tryd.ntmps127
    go_wp2_with fail
    exact bodyPost_ret (v := .agg #[.bool false, .slice a n c]) (by simp [results, Tryd.results127, go_sem]) rfl ⟨rfl, ((Below.refl _ _).alloc (Nat.le_refl _) _)⟩
  | true =>
    by_cases h0 : 0 < n
    · have e : q = true := by rw [HQ.out]; simp [h0]
      subst e
      clear HQ
      have t1 : decide ((0 : Int) < (n : Int)) = true := by simp; omega
      go_enter Tryd.func127, Tryd.ntmps127
      go_wp2_with fail
      exact bodyPost_ret (v := .agg #[.bool true, .slice a n c]) (by simp [results, Tryd.results127, go_sem]) rfl ⟨rfl, ((Below.refl _ _).alloc (Nat.le_refl _) _)⟩
    · have e : q = false := by rw [HQ.out]; simp [h0]
      subst e
      clear HQ
      have t1 : decide ((0 : Int) < (n : Int)) = false := by simp; omega
      go_enter Tryd.func127, Tryd.ntmps127
      go_wp2_with fail
      exact bodyPost_ret (v := .agg #[.bool false, .slice a n c]) (by simp [results, Tryd.results127, go_sem]) rfl ⟨rfl, ((Below.refl _ _).alloc (Nat.le_refl _) _)⟩

/-- The three boxes of sum. -/
def W3 (w : World) (v1 v2 : Array Value) : World := ((w.alloc (.cells v1 135)).alloc (.cells v2 135)).alloc (.cells #[.bool false, .slice none 0 0] 135)
theorem W3_box (w : World) (nx ny : Bool) (v1 v2 : Value) : Box2 (W3 w #[.bool nx, v1] #[.bool ny, v2]) w.heap.size nx v1 ∧ Box2 (W3 w #[.bool nx, v1] #[.bool ny, v2]) (w.heap.size + 1) ny v2 ∧ Box2 (W3 w #[.bool nx, v1] #[.bool ny, v2]) (w.heap.size + 1 + 1) false (.slice none 0 0) ∧ Below w.heap.size w (W3 w #[.bool nx, v1] #[.bool ny, v2]) := by
  refine ⟨?_, ?_, ?_, ?_⟩
  · exact Box2.alloc (Box2.alloc (show Box2 (w.alloc _) w.heap.size nx v1 from World.alloc_heap_new w _) _) _
  · have h := World.alloc_heap_new (w.alloc (.cells #[.bool nx, v1] 135)) (.cells #[.bool ny, v2] 135)
    rw [World.size_alloc] at h
    exact Box2.alloc (show Box2 _ (w.heap.size + 1) ny v2 from h) _
  · have h := World.alloc_heap_new ((w.alloc (.cells #[.bool nx, v1] 135)).alloc (.cells #[.bool ny, v2] 135)) (.cells #[.bool false, .slice none 0 0] 135)
    rw [World.size_alloc, World.size_alloc] at h
    exact h
  · exact (((Below.refl _ w).alloc (Nat.le_refl _) _).alloc (by simp) _).alloc (by simp; omega) _

/-- A number is handed back; the world has drawn, no more. -/
def DrI (W : World) (n : Int) (e : Ending) (w' : World) : Prop := e = .returned (.int .i64 n) ∧ ∃ k, w' = W.drewN k
def SumPost (w : World) (z : Int) (e : Ending) (w' : World) : Prop := ∃ v, e = .returned v ∧ NumAt w' v z ∧ Below w.heap.size w w'

set_option maxHeartbeats 4000000 in
set_option maxRecDepth 100000 in
theorem sum_same (nx ny : Bool) (a b : Option Addr) (n m c d : Nat) (z : Int) (w : World) (t1 : (nx == ny) = true)
    (HP : Hid (∀ W, Below w.heap.size w W → Calls Tryd.prog 97 #[.slice a n c, .slice b m d] W (MagNew W z.natAbs)))
    (HZ : Hid ((nx && decide (0 < z.natAbs)) = decide (z < 0))) (K : Nat) (hK : K ≤ 1000) (HB : Hid (z.natAbs < Bs ^ K)) :
    Calls Tryd.prog 99 #[.agg #[.bool nx, .slice a n c], .agg #[.bool ny, .slice b m d]] w (SumPost w z) := by
  go_enter Tryd.func99, Tryd.ntmps99
  go_wp2_with fail
  obtain ⟨h1, h2, h3, h4⟩ := W3_box w nx ny (.slice a n c) (.slice b m d)
  obtain ⟨W0, hW0⟩ : ∃ W0, W0 = W3 w #[.bool nx, .slice a n c] #[.bool ny, .slice b m d] := ⟨_, rfl⟩
  unfold W3 at hW0
  rw [← hW0]
  rw [show W3 w #[.bool nx, .slice a n c] #[.bool ny, .slice b m d] = W0 from hW0.symm] at h1 h2 h3 h4
  have c10 := h1.cell0
  have c11 := h1.cell1
  have c20 := h2.cell0
  have c21 := h2.cell1
  have H1 := Lib.hid h1
  have H2 := Lib.hid h2
  have H3 := Lib.hid h3
  have H4 := Lib.hid h4
  have HALL : Hid (∀ W : World, W0.grownBy W (some (w.heap.size + 1 + 1)) → W.cell? ⟨w.heap.size, 0, none⟩ = some (.bool nx) ∧ W.cell? ⟨w.heap.size, 1, none⟩ = some (.slice a n c) ∧ W.cell? ⟨w.heap.size + 1, 1, none⟩ = some (.slice b m d) ∧ W0.grownBy W (some (w.heap.size + 1 + 1))) := fun W h => ⟨(h1.kept h (by intro e; injection e with e; omega)).cell0, (h1.kept h (by intro e; injection e with e; omega)).cell1, (h2.kept h (by intro e; injection e with e; omega)).cell1, h⟩
  have HST : Hid (W0.grownBy W0.drew (some (w.heap.size + 1 + 1))) := only_drewN (only_refl _ _) 1
  clear h1 h2 h3 h4 hW0 c10 c20
  go_region_held3 (fun W => W.cell? ⟨w.heap.size, 0, none⟩ = some (.bool nx) ∧ W.cell? ⟨w.heap.size, 1, none⟩ = some (.slice a n c) ∧ W.cell? ⟨w.heap.size + 1, 1, none⟩ = some (.slice b m d) ∧ W0.grownBy W (some (w.heap.size + 1 + 1)))
    ((first | with_reducible exact HALL.out _ HST.out | with_reducible exact HALL.out _ (only_refl _ _) | with_reducible exact HALL.out _ (HG2.out) | with_reducible exact HALL.out _ (HG1.out) | with_reducible exact HALL.out _ (only_setCell HG2.out (.inl rfl) _) | with_reducible exact HALL.out _ (only_setCell (only_setCell HG2.out (.inl rfl) _) (.inl rfl) _)))
    ((first
      | (go_at_call 97; refine (HP.out _ H4.out.drew).mono ?_; rintro e wp ⟨v, l, rfl, ho, hr, hb⟩; obtain ⟨a', c', rfl, hl, hc, hnn⟩ := nums_of_owns ho; have hl1 := rep_len_of l _ K hr HB.out; obtain ⟨k, hk⟩ : ∃ k, k = l.length := ⟨_, rfl⟩; rw [← hk] at hl1 hc ⊢; have HG1 : Hid (W0.grownBy wp (some (w.heap.size + 1 + 1))) := only_trans HST.out (only_of_below hb _); have HBP : Hid (Below w.heap.size w wp) := H4.out.drew.trans (hb.mono H4.out.drew.size); have HP3 : Hid (Box2 wp (w.heap.size + 1 + 1) false (.slice none 0 0)) := (hb.block _ H3.out.lt).trans H3.out; have HN := Lib.hid hnn; have HR := Lib.hid hr; have HK := Lib.hid hk; have HC := Lib.hid hc; clear ho hr hb hl hc hnn hk)
      | (go_at_call 127; refine (keepf_any _ _ _ _ _ (by omega)).mono ?_; rintro e wk ⟨rfl, hb⟩; obtain ⟨B, hB⟩ : ∃ B, B = (nx && decide (0 < k)) := ⟨_, rfl⟩; rw [← hB]; have HQ := Lib.hid hB; have HG2 : Hid (W0.grownBy wk (some (w.heap.size + 1 + 1))) := only_trans HG1.out (only_of_below hb _); have HBK := Lib.hid (HBP.out.trans (hb.mono HBP.out.size)); have HKK := Lib.hid hb; have hbx : Box2 wk (w.heap.size + 1 + 1) false (.slice none 0 0) := (hb.block _ HP3.out.lt).trans HP3.out; have d0 := hbx.cell0; have d1 := hbx.cell1; have df0 := hbx.frozen 0; have df1 := hbx.frozen 1; have HBX := Lib.hid hbx; clear hb hB hbx)))
  all_goals
    go_wp2_with fail
    have s0 := (HBX.out.set0 B).cell0
    have s1 := ((HBX.out.set0 B).set1 (.slice a' k c')).cell1
    refine bodyPost_ret (v := .agg #[.bool B, .slice a' k c']) (by simp [results, Tryd.results99, go_sem, s0, s1]) rfl ?_
    refine ⟨_, rfl, ⟨a', c', l, ?_, by rw [← HK.out]; exact HC.out, ?_, HR.out⟩, ?_⟩
    · rw [HQ.out, HK.out, ← HZ.out]
      have e : decide (0 < l.length) = decide (0 < z.natAbs) := by
        rw [Bool.eq_iff_iff, decide_eq_true_eq, decide_eq_true_eq]; exact rep_len_pos HR.out
      rw [e]
    · have hn1 := HN.out.below HKK.out
      exact nums_box (HBX.out.set0 B) (nums_box HBX.out hn1 _ _) _ _
    · exact (HBK.out.setCell (p := ⟨w.heap.size + 1 + 1, 0, none⟩) (by show w.heap.size ≤ w.heap.size + 1 + 1; omega) _).setCell (p := ⟨w.heap.size + 1 + 1, 1, none⟩) (by show w.heap.size ≤ w.heap.size + 1 + 1; omega) _

set_option maxHeartbeats 4000000 in
set_option maxRecDepth 100000 in
theorem sum_ge (nx ny : Bool) (a b : Option Addr) (n m c d : Nat) (z : Int) (w : World) (t1 : (nx == ny) = false)
    (q : Int) (t2 : decide ((0 : Int) ≤ q) = true) (HC : Hid (∀ W, Below w.heap.size w W → Calls Tryd.prog 100 #[.slice a n c, .slice b m d] W (DrI W q)))
    (HP : Hid (∀ W, Below w.heap.size w W → Calls Tryd.prog 98 #[.slice a n c, .slice b m d] W (MagNew W z.natAbs)))
    (HZ : Hid ((nx && decide (0 < z.natAbs)) = decide (z < 0))) (K : Nat) (hK : K ≤ 1000) (HB : Hid (z.natAbs < Bs ^ K)) :
    Calls Tryd.prog 99 #[.agg #[.bool nx, .slice a n c], .agg #[.bool ny, .slice b m d]] w (SumPost w z) := by
  go_enter Tryd.func99, Tryd.ntmps99
  go_wp2_with fail
  obtain ⟨h1, h2, h3, h4⟩ := W3_box w nx ny (.slice a n c) (.slice b m d)
  obtain ⟨W0, hW0⟩ : ∃ W0, W0 = W3 w #[.bool nx, .slice a n c] #[.bool ny, .slice b m d] := ⟨_, rfl⟩
  unfold W3 at hW0
  rw [← hW0]
  rw [show W3 w #[.bool nx, .slice a n c] #[.bool ny, .slice b m d] = W0 from hW0.symm] at h1 h2 h3 h4
  have c10 := h1.cell0
  have c11 := h1.cell1
  have c20 := h2.cell0
  have c21 := h2.cell1
  have HH := Lib.hid (And.intro h1 (And.intro h2 (And.intro h3 h4)))
  clear h1 h2 h3 h4
  go_wp2_with fail
  refine (HC.out _ HH.out.2.2.2).mono ?_
  rintro e w' ⟨rfl, kq, rfl⟩
  have h1 := HH.out.1.drewN kq
  have h2 := HH.out.2.1.drewN kq
  have h3 := HH.out.2.2.1.drewN kq
  have h4 := below_drewN HH.out.2.2.2 kq
  clear c10 c11 c20 c21
  obtain ⟨WD, hWD⟩ : ∃ WD, WD = W0.drewN kq := ⟨_, rfl⟩
  rw [← hWD] at h1 h2 h3 h4 ⊢
  clear hWD
  have c10 := h1.cell0
  have c11 := h1.cell1
  have c20 := h2.cell0
  have c21 := h2.cell1
  have H1 := Lib.hid h1
  have H2 := Lib.hid h2
  have H3 := Lib.hid h3
  have H4 := Lib.hid h4
  have HALL : Hid (∀ W : World, WD.grownBy W (some (w.heap.size + 1 + 1)) → W.cell? ⟨w.heap.size, 0, none⟩ = some (.bool nx) ∧ W.cell? ⟨w.heap.size, 1, none⟩ = some (.slice a n c) ∧ W.cell? ⟨w.heap.size + 1, 1, none⟩ = some (.slice b m d) ∧ WD.grownBy W (some (w.heap.size + 1 + 1))) := fun W h => ⟨(h1.kept h (by intro e; injection e with e; omega)).cell0, (h1.kept h (by intro e; injection e with e; omega)).cell1, (h2.kept h (by intro e; injection e with e; omega)).cell1, h⟩
  have HST : Hid (WD.grownBy WD.drew (some (w.heap.size + 1 + 1))) := only_drewN (only_refl _ _) 1
  clear h1 h2 h3 h4 c10 c20
  go_wp2_with fail
  go_region_held3 (fun W => W.cell? ⟨w.heap.size, 0, none⟩ = some (.bool nx) ∧ W.cell? ⟨w.heap.size, 1, none⟩ = some (.slice a n c) ∧ W.cell? ⟨w.heap.size + 1, 1, none⟩ = some (.slice b m d) ∧ WD.grownBy W (some (w.heap.size + 1 + 1)))
    ((first | with_reducible exact HALL.out _ HST.out | with_reducible exact HALL.out _ (only_refl _ _) | with_reducible exact HALL.out _ (HG2.out) | with_reducible exact HALL.out _ (HG1.out) | with_reducible exact HALL.out _ (only_setCell HG2.out (.inl rfl) _) | with_reducible exact HALL.out _ (only_setCell (only_setCell HG2.out (.inl rfl) _) (.inl rfl) _)))
    ((first
      | (go_at_call 98; refine (HP.out _ H4.out.drew).mono ?_; rintro e wp ⟨v, l, rfl, ho, hr, hb⟩; obtain ⟨a', c', rfl, hl, hc, hnn⟩ := nums_of_owns ho; have hl1 := rep_len_of l _ K hr HB.out; obtain ⟨k, hk⟩ : ∃ k, k = l.length := ⟨_, rfl⟩; rw [← hk] at hl1 hc ⊢; have HG1 : Hid (WD.grownBy wp (some (w.heap.size + 1 + 1))) := only_trans HST.out (only_of_below hb _); have HBP : Hid (Below w.heap.size w wp) := H4.out.drew.trans (hb.mono H4.out.drew.size); have HP3 : Hid (Box2 wp (w.heap.size + 1 + 1) false (.slice none 0 0)) := (hb.block _ H3.out.lt).trans H3.out; have HN := Lib.hid hnn; have HR := Lib.hid hr; have HK := Lib.hid hk; have HC := Lib.hid hc; clear ho hr hb hl hc hnn hk)
      | (go_at_call 127; refine (keepf_any _ _ _ _ _ (by omega)).mono ?_; rintro e wk ⟨rfl, hb⟩; obtain ⟨B, hB⟩ : ∃ B, B = (nx && decide (0 < k)) := ⟨_, rfl⟩; rw [← hB]; have HQ := Lib.hid hB; have HG2 : Hid (WD.grownBy wk (some (w.heap.size + 1 + 1))) := only_trans HG1.out (only_of_below hb _); have HBK := Lib.hid (HBP.out.trans (hb.mono HBP.out.size)); have HKK := Lib.hid hb; have hbx : Box2 wk (w.heap.size + 1 + 1) false (.slice none 0 0) := (hb.block _ HP3.out.lt).trans HP3.out; have d0 := hbx.cell0; have d1 := hbx.cell1; have df0 := hbx.frozen 0; have df1 := hbx.frozen 1; have HBX := Lib.hid hbx; clear hb hB hbx)))
  all_goals
    go_wp2_with fail
    have s0 := (HBX.out.set0 B).cell0
    have s1 := ((HBX.out.set0 B).set1 (.slice a' k c')).cell1
    refine bodyPost_ret (v := .agg #[.bool B, .slice a' k c']) (by simp [results, Tryd.results99, go_sem, s0, s1]) rfl ?_
    refine ⟨_, rfl, ⟨a', c', l, ?_, by rw [← HK.out]; exact HC.out, ?_, HR.out⟩, ?_⟩
    · rw [HQ.out, HK.out, ← HZ.out]
      have e : decide (0 < l.length) = decide (0 < z.natAbs) := by
        rw [Bool.eq_iff_iff, decide_eq_true_eq, decide_eq_true_eq]; exact rep_len_pos HR.out
      rw [e]
    · have hn1 := HN.out.below HKK.out
      exact nums_box (HBX.out.set0 B) (nums_box HBX.out hn1 _ _) _ _
    · exact (HBK.out.setCell (p := ⟨w.heap.size + 1 + 1, 0, none⟩) (by show w.heap.size ≤ w.heap.size + 1 + 1; omega) _).setCell (p := ⟨w.heap.size + 1 + 1, 1, none⟩) (by show w.heap.size ≤ w.heap.size + 1 + 1; omega) _

set_option maxHeartbeats 4000000 in
set_option maxRecDepth 100000 in
theorem sum_lt (nx ny : Bool) (a b : Option Addr) (n m c d : Nat) (z : Int) (w : World) (t1 : (nx == ny) = false)
    (q : Int) (t2 : decide ((0 : Int) ≤ q) = false) (HC : Hid (∀ W, Below w.heap.size w W → Calls Tryd.prog 100 #[.slice a n c, .slice b m d] W (DrI W q)))
    (HP : Hid (∀ W, Below w.heap.size w W → Calls Tryd.prog 98 #[.slice b m d, .slice a n c] W (MagNew W z.natAbs)))
    (HZ : Hid ((ny && decide (0 < z.natAbs)) = decide (z < 0))) (K : Nat) (hK : K ≤ 1000) (HB : Hid (z.natAbs < Bs ^ K)) :
    Calls Tryd.prog 99 #[.agg #[.bool nx, .slice a n c], .agg #[.bool ny, .slice b m d]] w (SumPost w z) := by
  go_enter Tryd.func99, Tryd.ntmps99
  go_wp2_with fail
  obtain ⟨h1, h2, h3, h4⟩ := W3_box w nx ny (.slice a n c) (.slice b m d)
  obtain ⟨W0, hW0⟩ : ∃ W0, W0 = W3 w #[.bool nx, .slice a n c] #[.bool ny, .slice b m d] := ⟨_, rfl⟩
  unfold W3 at hW0
  rw [← hW0]
  rw [show W3 w #[.bool nx, .slice a n c] #[.bool ny, .slice b m d] = W0 from hW0.symm] at h1 h2 h3 h4
  have c10 := h1.cell0
  have c11 := h1.cell1
  have c20 := h2.cell0
  have c21 := h2.cell1
  have HH := Lib.hid (And.intro h1 (And.intro h2 (And.intro h3 h4)))
  clear h1 h2 h3 h4
  go_wp2_with fail
  refine (HC.out _ HH.out.2.2.2).mono ?_
  rintro e w' ⟨rfl, kq, rfl⟩
  have h1 := HH.out.1.drewN kq
  have h2 := HH.out.2.1.drewN kq
  have h3 := HH.out.2.2.1.drewN kq
  have h4 := below_drewN HH.out.2.2.2 kq
  clear c10 c11 c20 c21
  obtain ⟨WD, hWD⟩ : ∃ WD, WD = W0.drewN kq := ⟨_, rfl⟩
  rw [← hWD] at h1 h2 h3 h4 ⊢
  clear hWD
  have c10 := h2.cell0
  have c11 := h1.cell1
  have c20 := h2.cell0
  have c21 := h2.cell1
  have H1 := Lib.hid h1
  have H2 := Lib.hid h2
  have H3 := Lib.hid h3
  have H4 := Lib.hid h4
  have HALL : Hid (∀ W : World, WD.grownBy W (some (w.heap.size + 1 + 1)) → W.cell? ⟨w.heap.size + 1, 0, none⟩ = some (.bool ny) ∧ W.cell? ⟨w.heap.size, 1, none⟩ = some (.slice a n c) ∧ W.cell? ⟨w.heap.size + 1, 1, none⟩ = some (.slice b m d) ∧ WD.grownBy W (some (w.heap.size + 1 + 1))) := fun W h => ⟨(h2.kept h (by intro e; injection e with e; omega)).cell0, (h1.kept h (by intro e; injection e with e; omega)).cell1, (h2.kept h (by intro e; injection e with e; omega)).cell1, h⟩
  have HST : Hid (WD.grownBy WD.drew (some (w.heap.size + 1 + 1))) := only_drewN (only_refl _ _) 1
  clear h1 h2 h3 h4 c10 c20
  go_wp2_with fail
  go_region_held3 (fun W => W.cell? ⟨w.heap.size + 1, 0, none⟩ = some (.bool ny) ∧ W.cell? ⟨w.heap.size, 1, none⟩ = some (.slice a n c) ∧ W.cell? ⟨w.heap.size + 1, 1, none⟩ = some (.slice b m d) ∧ WD.grownBy W (some (w.heap.size + 1 + 1)))
    ((first | with_reducible exact HALL.out _ HST.out | with_reducible exact HALL.out _ (only_refl _ _) | with_reducible exact HALL.out _ (HG2.out) | with_reducible exact HALL.out _ (HG1.out) | with_reducible exact HALL.out _ (only_setCell HG2.out (.inl rfl) _) | with_reducible exact HALL.out _ (only_setCell (only_setCell HG2.out (.inl rfl) _) (.inl rfl) _)))
    ((first
      | (go_at_call 98; refine (HP.out _ H4.out.drew).mono ?_; rintro e wp ⟨v, l, rfl, ho, hr, hb⟩; obtain ⟨a', c', rfl, hl, hc, hnn⟩ := nums_of_owns ho; have hl1 := rep_len_of l _ K hr HB.out; obtain ⟨k, hk⟩ : ∃ k, k = l.length := ⟨_, rfl⟩; rw [← hk] at hl1 hc ⊢; have HG1 : Hid (WD.grownBy wp (some (w.heap.size + 1 + 1))) := only_trans HST.out (only_of_below hb _); have HBP : Hid (Below w.heap.size w wp) := H4.out.drew.trans (hb.mono H4.out.drew.size); have HP3 : Hid (Box2 wp (w.heap.size + 1 + 1) false (.slice none 0 0)) := (hb.block _ H3.out.lt).trans H3.out; have HN := Lib.hid hnn; have HR := Lib.hid hr; have HK := Lib.hid hk; have HC := Lib.hid hc; clear ho hr hb hl hc hnn hk)
      | (go_at_call 127; refine (keepf_any _ _ _ _ _ (by omega)).mono ?_; rintro e wk ⟨rfl, hb⟩; obtain ⟨B, hB⟩ : ∃ B, B = (ny && decide (0 < k)) := ⟨_, rfl⟩; rw [← hB]; have HQ := Lib.hid hB; have HG2 : Hid (WD.grownBy wk (some (w.heap.size + 1 + 1))) := only_trans HG1.out (only_of_below hb _); have HBK := Lib.hid (HBP.out.trans (hb.mono HBP.out.size)); have HKK := Lib.hid hb; have hbx : Box2 wk (w.heap.size + 1 + 1) false (.slice none 0 0) := (hb.block _ HP3.out.lt).trans HP3.out; have d0 := hbx.cell0; have d1 := hbx.cell1; have df0 := hbx.frozen 0; have df1 := hbx.frozen 1; have HBX := Lib.hid hbx; clear hb hB hbx)))
  all_goals
    go_wp2_with fail
    have s0 := (HBX.out.set0 B).cell0
    have s1 := ((HBX.out.set0 B).set1 (.slice a' k c')).cell1
    refine bodyPost_ret (v := .agg #[.bool B, .slice a' k c']) (by simp [results, Tryd.results99, go_sem, s0, s1]) rfl ?_
    refine ⟨_, rfl, ⟨a', c', l, ?_, by rw [← HK.out]; exact HC.out, ?_, HR.out⟩, ?_⟩
    · rw [HQ.out, HK.out, ← HZ.out]
      have e : decide (0 < l.length) = decide (0 < z.natAbs) := by
        rw [Bool.eq_iff_iff, decide_eq_true_eq, decide_eq_true_eq]; exact rep_len_pos HR.out
      rw [e]
    · have hn1 := HN.out.below HKK.out
      exact nums_box (HBX.out.set0 B) (nums_box HBX.out hn1 _ _) _ _
    · exact (HBK.out.setCell (p := ⟨w.heap.size + 1 + 1, 0, none⟩) (by show w.heap.size ≤ w.heap.size + 1 + 1; omega) _).setCell (p := ⟨w.heap.size + 1 + 1, 1, none⟩) (by show w.heap.size ≤ w.heap.size + 1 + 1; omega) _

theorem two_pow (k : Nat) (hk : 1 ≤ k) : Bs ^ k + Bs ^ k ≤ Bs ^ k * Bs ^ k := by
  have h : 2 ≤ Bs ^ k := Nat.le_trans (by decide : 2 ≤ Bs ^ 1) (Nat.pow_le_pow_right (by decide) hk)
  rw [← Nat.mul_two]
  exact Nat.mul_le_mul_left _ h
theorem sum_any (x y : Int) (vx vy : Value) (w : World) (hx : NumAt w vx x) (hy : NumAt w vy y) (k : Nat) (k1 : 1 ≤ k) (k2 : k ≤ 400) (bx : x.natAbs < Bs ^ k) (bb : y.natAbs < Bs ^ k) :
    Calls Tryd.prog 99 #[vx, vy] w (SumPost w (x + y)) := by
  obtain ⟨a, c, la, rfl, hlc, hna, hra⟩ := hx
  obtain ⟨b, d, lb, rfl, hld, hnb, hrb⟩ := hy
  have la1 := rep_len_of la _ k hra bx
  have lb1 := rep_len_of lb _ k hrb bb
  have hz : (x + y).natAbs < Bs ^ (k + k) := by
    refine Nat.lt_of_le_of_lt (Int.natAbs_add_le x y) (Nat.lt_of_lt_of_le (Nat.add_lt_add bx bb) ?_)
    rw [Nat.pow_add]
    exact two_pow k k1
  have v1 := hra.2.2
  have v2 := hrb.2.2
  by_cases ht : (decide (x < 0) == decide (y < 0)) = true
  · obtain ⟨e1, e2⟩ := natAbs_sum_same ht
    refine sum_same _ _ a b la.length lb.length c d (x + y) w ht (Lib.hid fun W hW => ?_) (Lib.hid e2) _ (by omega) (Lib.hid hz)
    have := plus_any a b la.length lb.length c d la lb W rfl rfl (by omega) (by omega) hra.1 hrb.1 (hna.below hW) (hnb.below hW)
    rwa [v1, v2, ← e1] at this
  · have ht : (decide (x < 0) == decide (y < 0)) = false := by simpa using ht
    have hcm : ∀ W, Below w.heap.size w W → Calls Tryd.prog 100 #[.slice a la.length c, .slice b lb.length d] W (DrI W (cmpN x.natAbs y.natAbs)) := fun W hW => by
      refine (mcmp_any a b la.length lb.length c d x.natAbs y.natAbs la lb W rfl rfl (by omega) (by omega) hra hrb (hna.below hW) (hnb.below hW)).mono fun e w' h => ?_
      exact h
    by_cases hc : y.natAbs ≤ x.natAbs
    · obtain ⟨e1, e2⟩ := natAbs_sum_ge ht hc
      have hq : decide ((0 : Int) ≤ cmpN x.natAbs y.natAbs) = true := by unfold cmpN; rw [if_neg (by omega)]; split <;> rfl
      refine sum_ge _ _ a b la.length lb.length c d (x + y) w ht _ hq (Lib.hid hcm) (Lib.hid fun W hW => ?_) (Lib.hid e2) _ (by omega) (Lib.hid hz)
      have := minus_any a b la.length lb.length c d la lb W rfl rfl (by omega) (rep_len_le la lb _ _ hra hrb hc) hra.1 hrb.1 (by rw [v1, v2]; exact hc) (hna.below hW) (hnb.below hW)
      rwa [v1, v2, ← e1] at this
    · obtain ⟨e1, e2⟩ := natAbs_sum_lt ht (by omega)
      have hq : decide ((0 : Int) ≤ cmpN x.natAbs y.natAbs) = false := by unfold cmpN; rw [if_pos (by omega)]; rfl
      refine sum_lt _ _ a b la.length lb.length c d (x + y) w ht _ hq (Lib.hid hcm) (Lib.hid fun W hW => ?_) (Lib.hid e2) _ (by omega) (Lib.hid hz)
      have := minus_any b a lb.length la.length d c lb la W rfl rfl (by omega) (rep_len_le lb la _ _ hrb hra (by omega)) hrb.1 hra.1 (by rw [v1, v2]; omega) (hnb.below hW) (hna.below hW)
      rwa [v1, v2, ← e1] at this

end Go.Proofs.YtnikhbdjlipcbaaDoor
