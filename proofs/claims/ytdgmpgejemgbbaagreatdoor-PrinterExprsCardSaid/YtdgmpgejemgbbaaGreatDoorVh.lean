/-
  Magnitudes of the program: trim, compare. No condition. Magnitudes of the program: minus, plus. No condition. Magnitudes of the program: times. No condition.
-/
import Derived.Test.YtdgmpgejemgbbaaGreatDoorVe
namespace Go.Proofs.YtdgmpgejemgbbaaGreatDoor
open Go.RowKit

theorem infoU32 : (Tryz.prog.info? 133).map (fun i => (i.zero, i.size, i.bytes)) = some (some (.int .u32 0), 1, 4) := by kernel_rfl
theorem ownsRow_take {w : World} {B e : Nat} {a : Option Addr} {n c k : Nat} {xs : List Value} (h : w.ownsRow B e 1 (.slice a n c) n xs) (hk : k ≤ n) : w.ownsRow B e 1 (.slice a k c) k (xs.take k) := by
  obtain ⟨h1, h2⟩ := h
  refine ⟨by rw [List.length_take]; omega, ?_⟩
  rcases h2 with ⟨h, _⟩ | ⟨g, cap, cur, h, hb, hg, hnc, hcm, hcs, htake⟩
  · injection h with e1 e2 e3
    subst e1 e2 e3
    exact .inl ⟨by rw [show k = 0 by omega], by omega⟩
  · injection h with e1 _ e3
    subst e1 e3
    refine .inr ⟨g, c, cur, rfl, hb, hg, by omega, hcm, hcs, ?_⟩
    rw [← htake, List.take_take]
    congr 1; omega
theorem nums_take (k : IntKind) (l : List Nat) (n : Nat) : (nums k l).take n = nums k (l.take n) := by simp [nums, List.map_take]

/-- trim hands back a prefix. -/
def TrimPost (w : World) (a : Option Addr) (n c : Nat) (l : List Nat) (e : Ending) (w' : World) : Prop :=
  (∃ k, k ≤ n ∧ e = .returned (.slice a k c) ∧ Rep (l.take k) (val l)) ∧ w = w'
def TrimM (a : Option Addr) (n c : Nat) (l : List Nat) (v : Value) : Prop := ∃ k : Nat, k ≤ n ∧ v = .slice a k c ∧ val (l.take k) = val l

set_option maxHeartbeats 1000000 in
set_option maxRecDepth 100000 in
theorem trim_any (a : Option Addr) (n c : Nat) (l : List Nat) (w : World) (hl : l.length = n) (hn : n ≤ 1000000) (hc : n ≤ c) (d : ∀ x ∈ l, x < Bs) (ha : Nums .u32 w a l) :
    Calls Tryz.prog 91 #[.slice a n c] w (TrimPost w a n c l) := by
  have HL := Lib.hid hl
  have HA := Lib.hid ha
  have HD := Lib.hid d
  clear hl ha d
  go_enter Tryz.func91, Tryz.ntmps91
  go_wp2_with fail
  go_loop [0] (TrimM a n c l) (fun v => match v with | .slice _ k _ => k | _ => 0)
  case atStart => exact ⟨n, Nat.le_refl _, rfl, by rw [List.take_of_length_le (by have := HL.out; omega)]⟩
  case round =>
    obtain ⟨k, hk, rfl, hv⟩ := hrel
    have HV := Lib.hid hv
    clear hv
    by_cases hk0 : 1 ≤ k
    · obtain ⟨j, rfl⟩ : ∃ j, k = j + 1 := ⟨k - 1, by omega⟩
      obtain ⟨g, o, rfl, hg, hcl⟩ := HA.out j (by have := HL.out; omega)
      obtain ⟨y, hy⟩ : ∃ y, y = l.getD j 0 := ⟨_, rfl⟩
      rw [← hy] at hcl
      by_cases hy0 : y = 0
      · have hn2 := trim_step l j (by rw [← hy]; exact hy0)
        have t1 : ((y : Int) == 0) = true := by rw [beq_iff_eq]; omega
        have HN := Lib.hid (hn2.symm.trans HV.out)
        clear hn2 hy hy0
        go_wp2_with fail
        go_round
        case rel => exact ⟨j, by omega, rfl, HN.out⟩
        case measure => simp
      · have hr := trim_end l (j + 1) HD.out (by have := HL.out; omega) (.inr (by rw [Nat.add_sub_cancel, ← hy]; exact hy0)) HV.out
        have t1 : ((y : Int) == 0) = false := by rw [beq_eq_false_iff_ne]; omega
        have HR := Lib.hid hr
        clear hr hy hy0
        go_wp2_with fail
        go_ret
        exact ⟨⟨j + 1, hk, rfl, HR.out⟩, rfl⟩
    · obtain rfl : k = 0 := by omega
      have hr := Lib.hid (trim_end l 0 HD.out (Nat.zero_le _) (.inl rfl) HV.out)
      go_wp2_with fail
      go_ret
      exact ⟨⟨0, Nat.zero_le _, rfl, hr.out⟩, rfl⟩

theorem drop_of_getD {a b : List Nat} {i : Nat} (hl : a.length = b.length) (h : ∀ j, i ≤ j → a.getD j 0 = b.getD j 0) : a.drop i = b.drop i := by
  apply List.ext_getElem
  · simp [hl]
  · intro j h1 h2
    rw [List.length_drop] at h1 h2
    have := h (i + j) (by omega)
    rw [List.getD_eq_getElem?_getD, List.getD_eq_getElem?_getD, List.getElem?_eq_getElem (by omega), List.getElem?_eq_getElem (by omega)] at this
    simpa using this

def CmR (la lb : List Nat) (n : Nat) (i : Value) : Prop := ∃ k : Int, -1 ≤ k ∧ k < n ∧ i = .int .i64 k ∧ ∀ j : Nat, k < j → la.getD j 0 = lb.getD j 0

set_option maxHeartbeats 1000000 in
set_option maxRecDepth 100000 in
theorem mcmp_len (a b : Option Addr) (n m c d : Nat) (w : World) (hn : n ≤ 1000000) (hm : m ≤ 1000000) (h : n ≠ m) :
    Calls Tryz.prog 89 #[.slice a n c, .slice b m d] w fun e w' => e = .returned (.int .i64 (cmpN n m)) ∧ ∃ q, w' = w.drewN q := by
  rcases Nat.lt_or_ge n m with h1 | h1
  · have t1 : ((n : Int) != (m : Int)) = true := by rw [bne_iff_ne]; omega
    have HC := Lib.hid (cmpN_lt h1)
    have HN := Lib.hid h
    clear h
    go_enter Tryz.func89, Tryz.ntmps89
    go_wp2_with fail
    all_goals
      go_ret
      exact ⟨ret_int (by rw [HC.out]), 0, rfl⟩
  · have h2 : m < n := by omega
    have t1 : ((n : Int) != (m : Int)) = true := by rw [bne_iff_ne]; omega
    have HC := Lib.hid (cmpN_gt h2)
    have HN := Lib.hid h
    clear h
    go_enter Tryz.func89, Tryz.ntmps89
    go_wp2_with fail
    all_goals
      go_ret
      exact ⟨ret_int (by rw [HC.out]), 0, rfl⟩

set_option maxHeartbeats 1000000 in
set_option maxRecDepth 100000 in
theorem mcmp_same (a b : Option Addr) (n c d : Nat) (la lb : List Nat) (w : World) (hla : la.length = n) (hlb : lb.length = n) (hn : n ≤ 1000000)
    (da : ∀ x ∈ la, x < Bs) (db : ∀ x ∈ lb, x < Bs) (ha : Nums .u32 w a la) (hb : Nums .u32 w b lb) :
    Calls Tryz.prog 89 #[.slice a n c, .slice b n d] w fun e w' => e = .returned (.int .i64 (cmpN (val la) (val lb))) ∧ ∃ q, w' = w.drewN q := by
  have HLA := Lib.hid hla
  have HLB := Lib.hid hlb
  have HA := Lib.hid ha
  have HB := Lib.hid hb
  have DA := Lib.hid da
  have DB := Lib.hid db
  clear hla hlb ha hb da db
  go_enter Tryz.func89, Tryz.ntmps89
  go_wp2_with fail
  go_loopw [5] (fun i wr => CmR la lb n i ∧ ∃ q, wr = w.drewN q) (fun i _ => (intOf i + 1).toNat)
  case atStart => exact ⟨⟨(n : Int) - 1, by omega, by omega, rfl, fun j hj => by rw [getD_out (by have := HLA.out; omega), getD_out (by have := HLB.out; omega)]⟩, 0, rfl⟩
  case round =>
    obtain ⟨⟨k, hk1, hk2, rfl, he⟩, q, rfl⟩ := hrel
    have HE := Lib.hid he
    clear he
    by_cases hk : 0 ≤ k
    · obtain ⟨j, rfl⟩ := Int.eq_ofNat_of_zero_le hk
      obtain ⟨ga, oa, rfl, hga, hca⟩ := HA.out j (by have := HLA.out; omega)
      obtain ⟨gb, ob, rfl, hgb, hcb⟩ := HB.out j (by have := HLB.out; omega)
      obtain ⟨x, hx⟩ : ∃ x, x = la.getD j 0 := ⟨_, rfl⟩
      obtain ⟨y, hy⟩ : ∃ y, y = lb.getD j 0 := ⟨_, rfl⟩
      rw [← hx] at hca
      rw [← hy] at hcb
      have HX := Lib.hid hx
      have HY := Lib.hid hy
      have hlen : la.length = lb.length := by rw [HLA.out, HLB.out]
      have hr : (x = y → ∀ i : Nat, (j : Int) - 1 < i → la.getD i 0 = lb.getD i 0) ∧ (y < x → cmpN (val la) (val lb) = 1) ∧ (x < y → cmpN (val la) (val lb) = -1) := by
        refine ⟨fun e => fun i hi => ?_, fun h => cmpN_gt (cmp_top lb la j hlen.symm (by have := HLB.out; omega) DB.out (drop_of_getD hlen.symm fun i hi => (HE.out i (by omega)).symm) (by rw [← HX.out, ← HY.out]; exact h)), fun h => cmpN_lt (cmp_top la lb j hlen (by have := HLA.out; omega) DA.out (drop_of_getD hlen fun i hi => HE.out i (by omega)) (by rw [← HX.out, ← HY.out]; exact h))⟩
        by_cases hij : i = j
        · rw [hij, ← HX.out, ← HY.out, e]
        · exact HE.out i (by omega)
      have HR := Lib.hid hr
      clear hr hx hy hlen
      rcases Nat.lt_trichotomy x y with h | h | h
      · have t1 : ((x : Int) != (y : Int)) = true := by rw [bne_iff_ne]; omega
        have t2 : decide ((x : Int) < (y : Int)) = true := by simp; omega
        have HQ := Lib.hid (HR.out.2.2 h)
        go_wp2_with fail
        go_quiet (fail)
        go_wp2_with fail
        go_quiet (fail)
        go_wp2_with fail
        go_ret
        exact ⟨ret_int HQ.out.symm, _, by rw [World.drewN_drewN, World.drewN_drewN]⟩
      · have HQ := Lib.hid (HR.out.1 h)
        have t1 : ((x : Int) != (y : Int)) = false := by rw [h]; simp
        have HXY := Lib.hid h
        clear h
        go_wp2_with fail
        go_quiet (fail)
        go_wp2_with fail
        go_roundw
        case rel => exact ⟨⟨(j : Int) - 1, by omega, by omega, rfl, HQ.out⟩, _, rfl⟩
        case measure => simp [intOf] <;> omega
      · have t1 : ((x : Int) != (y : Int)) = true := by rw [bne_iff_ne]; omega
        have t2 : decide ((x : Int) < (y : Int)) = false := by simp; omega
        have HQ := Lib.hid (HR.out.2.1 h)
        go_wp2_with fail
        go_quiet (fail)
        go_wp2_with fail
        go_quiet (fail)
        go_wp2_with fail
        go_ret
        exact ⟨ret_int HQ.out.symm, _, by rw [World.drewN_drewN, World.drewN_drewN]⟩
    · have hv : val la = val lb := by
        have : la = lb := by
          have := drop_of_getD (a := la) (b := lb) (i := 0) (by rw [HLA.out, HLB.out]) (fun j _ => HE.out j (by omega))
          simpa using this
        rw [this]
      have HQ := Lib.hid (cmpN_eq hv)
      clear hv
      go_wp2_with fail
      go_ret
      exact ⟨ret_int HQ.out.symm, _, rfl⟩

/-- compare, at canonical magnitudes. -/
theorem mcmp_any (a b : Option Addr) (n m c d A B : Nat) (la lb : List Nat) (w : World) (hla : la.length = n) (hlb : lb.length = m) (hn : n ≤ 1000000) (hm : m ≤ 1000000)
    (ra : Rep la A) (rb : Rep lb B) (ha : Nums .u32 w a la) (hb : Nums .u32 w b lb) :
    Calls Tryz.prog 89 #[.slice a n c, .slice b m d] w fun e w' => e = .returned (.int .i64 (cmpN A B)) ∧ ∃ q, w' = w.drewN q := by
  by_cases h : n = m
  · subst h
    have := mcmp_same a b n c d la lb w hla hlb hn ra.1 rb.1 ha hb
    rwa [ra.2.2, rb.2.2] at this
  · have := mcmp_len a b n m c d w hn hm h
    have e : cmpN n m = cmpN A B := by
      rcases Nat.lt_or_ge n m with h1 | h1
      · rw [cmpN_lt h1, cmpN_lt (rep_len_lt la lb A B ra rb (by omega))]
      · rw [cmpN_gt (by omega), cmpN_gt (rep_len_lt lb la B A rb ra (by omega))]
    rwa [e] at this

end Go.Proofs.YtdgmpgejemgbbaaGreatDoor

namespace Go.Proofs.YtdgmpgejemgbbaaGreatDoor
open Go.RowKit

/-- A new canonical magnitude is handed back. -/
def MagNew (w : World) (N : Nat) (e : Ending) (w' : World) : Prop := NewNums .u32 133 w (fun l => Rep l N) e w'
/-- trim of a slice of the call's own. -/
theorem trim_own {w : World} {B : Nat} {v : Value} {n : Nat} {l : List Nat} (h : w.ownsRow B 133 1 v n (nums .u32 l)) (hn : n ≤ 1000000) (d : ∀ x ∈ l, x < Bs) :
    Calls Tryz.prog 91 #[v] w fun e w' => (∃ v2 l2, e = .returned v2 ∧ w.ownsRow B 133 1 v2 l2.length (nums .u32 l2) ∧ Rep l2 (val l)) ∧ w = w' := by
  obtain ⟨a, c, rfl, hl, hc, ha⟩ := nums_of_owns h
  refine (trim_any a n c l w hl hn hc d ha).mono fun e w' ⟨⟨k, hk, e1, e2⟩, e3⟩ => ⟨⟨_, l.take k, e1, ?_, e2⟩, e3⟩
  have := ownsRow_take h hk
  rw [nums_take] at this
  rwa [List.length_take, show min k l.length = k by omega]

/-- The program's subtraction. -/
def SubR (w : World) (la lb : List Nat) (n : Nat) (o b i : Value) (wr : World) : Prop :=
  ∃ (k br : Nat) (out : List Nat), k ≤ n ∧ i = .int .i64 k ∧ b = .int .u32 br ∧ wr.ownsRow w.heap.size 133 1 o k (nums .u32 out) ∧ MinusAt la lb out k br ∧ Below w.heap.size w wr
/-- A round: the digit to come, and the borrow. -/
def SubC (la lb out : List Nat) (k : Nat) (y : Nat) (xv bv : Value) : Prop :=
  ∃ x br : Nat, xv = .int .u32 x ∧ bv = .int .u32 br ∧ y ≤ x ∧ x < 2000000000 ∧ MinusAt la lb (out ++ [x - y]) (k + 1) br

set_option maxHeartbeats 2000000 in
set_option maxRecDepth 100000 in
theorem minus_any (a b : Option Addr) (n m c d : Nat) (la lb : List Nat) (w : World) (hla : la.length = n) (hlb : lb.length = m) (hn : n ≤ 900000) (hmn : m ≤ n)
    (da : ∀ x ∈ la, x < Bs) (db : ∀ x ∈ lb, x < Bs) (hle : val lb ≤ val la) (ha : Nums .u32 w a la) (hb : Nums .u32 w b lb) :
    Calls Tryz.prog 94 #[.slice a n c, .slice b m d] w (MagNew w (val la - val lb)) := by
  obtain ⟨i0, hi, hz0, hz1, hz2⟩ := info_parts infoU32
  have HLA := Lib.hid hla
  have HLB := Lib.hid hlb
  have HA := Lib.hid ha
  have HB := Lib.hid hb
  have DA := Lib.hid da
  have DB := Lib.hid db
  have HLE := Lib.hid hle
  clear hla hlb ha hb da db hle
  go_enter Tryz.func94, Tryz.ntmps94
  go_wp2_with (at_make; refine wpList_make_own _ rfl _ _ 119 rfl w.heap.size 133 i0 (.int .u32 0) 1 Tryz.underlying119 hi hz0 hz1 .i64 .i64 _ n rfl rfl rfl ?b2 ?b3 ?b4 ?_)
  case b2 => rw [hz2]; omega
  case b3 => unfold maxLen; omega
  case b4 => exact Nat.le_refl _
  intro w1 ho1 hg1
  have hst : SubR w la lb n (.slice (some ⟨w.heap.size, 0, none⟩) 0 n) (.int .u32 0) (.int .i64 0) w1 := ⟨0, 0, [], Nat.zero_le _, rfl, rfl, ho1, minus_start _ _, (Below.refl _ _).grown hg1 (Nat.le_refl _) (fun k hk => by cases hk)⟩
  have HST := Lib.hid hst
  clear ho1 hg1 hst
  go_wp2_with fail
  go_loopw [5, 6, 15] (SubR w la lb n) (fun _ _ i _ => n - (intOf i).toNat)
  case atStart => exact HST.out
  case round =>
    obtain ⟨k, br, out, hk, rfl, rfl, ho, hat, hbl⟩ := hrel
    have HO := Lib.hid ho
    have HT := Lib.hid hat
    have HBL := Lib.hid hbl
    clear ho hat hbl HST
    by_cases hlt : k < n
    · obtain ⟨x, hx⟩ : ∃ x, x = la.getD k 0 := ⟨_, rfl⟩
      obtain ⟨y, hy⟩ : ∃ y, y = lb.getD k 0 := ⟨_, rfl⟩
      obtain ⟨g, og, rfl, hg, hc⟩ := HA.out.below HBL.out k (by have := HLA.out; omega)
      rw [← hx] at hc
      have hx10 : x < 1000000000 := by rw [hx]; exact getD_lt la k DA.out
      have hy10 : y < 1000000000 := by rw [hy]; exact getD_lt lb k DB.out
      have hbr : br ≤ 1 := HT.out.2.2.1
      have HX := Lib.hid hx
      have HY := Lib.hid hy
      clear hx hy
      go_upto_if 24 with (fail)
      go_cut [9] (fun s wx => s = .int .u32 ((br + y : Nat) : Int) ∧ wr = wx)
      case first => as_aux_lemma =>
        by_cases hkm : k < m
        · obtain ⟨gb, ob, rfl, hgb, hcb⟩ := HB.out.below HBL.out k (by have := HLB.out; omega)
          rw [← HY.out] at hcb
          go_wp2_with fail
          go_meet
          exact ⟨by congr 1, rfl⟩
        · have hy0 : y = 0 := by rw [HY.out, getD_out (by have := HLB.out; omega)]
          have HY0 := Lib.hid hy0
          clear hy0
          go_wp2_with fail
          go_meet
          exact ⟨by rw [HY0.out]; rfl, rfl⟩
      case rest => as_aux_lemma =>
        obtain ⟨rfl, rfl⟩ := hcut
        have hcs : (br + y ≤ x → SubC la lb out k (br + y) (.int .u32 x) (.int .u32 0)) ∧ (x < br + y → SubC la lb out k (br + y) (.int .u32 ((x + 1000000000 : Nat) : Int)) (.int .u32 1)) := by
          refine ⟨fun h => ⟨x, 0, rfl, rfl, h, by omega, ?_⟩, fun h => ⟨x + 1000000000, 1, rfl, rfl, by omega, by omega, ?_⟩⟩
          · have := minus_step0 la lb out k br DA.out HT.out (by rw [← HX.out, ← HY.out]; exact h)
            rwa [← HX.out, ← HY.out] at this
          · have := minus_step1 la lb out k br DB.out HT.out (by rw [← HX.out, ← HY.out]; exact h)
            rwa [← HX.out, ← HY.out] at this
        have HCS := Lib.hid hcs
        clear hcs hc
        obtain ⟨z, hz⟩ : ∃ z, z = br + y := ⟨_, rfl⟩
        have hz10 : z ≤ 1000000000 := by omega
        rw [← hz] at HCS ⊢
        clear hz
        go_upto_if 33 with (fail)
        go_cut [6, 8] (fun b x wx => SubC la lb out k z x b ∧ wr = wx)
        case first => as_aux_lemma =>
          by_cases hxz : z ≤ x
          · have t1 : decide ((x : Int) < (z : Int)) = false := by simp; omega
            have HQ := Lib.hid (HCS.out.1 hxz)
            go_wp2_with fail
            go_meet
            exact ⟨HQ.out, rfl⟩
          · have t1 : decide ((x : Int) < (z : Int)) = true := by simp; omega
            have HQ := Lib.hid (HCS.out.2 (by omega))
            go_wp2_with fail
            go_meet
            exact ⟨HQ.out, rfl⟩
        case rest => as_aux_lemma =>
          obtain ⟨⟨x2, b2, rfl, rfl, hle2, hx2, hat2⟩, rfl⟩ := hcut
          have HT2 := Lib.hid hat2
          obtain ⟨r, hr⟩ : ∃ r : Nat, (x2 : Int) - (z : Int) = (r : Int) ∧ x2 - z = r := ⟨x2 - z, by omega, rfl⟩
          rw [hr.2] at HT2
          have HR := Lib.hid hr
          clear hat2 hr HCS
          go_wp2_with (at_builtin; refine wpList_append1 _ rfl (.tmp 36) (.tmp 40) 119 rfl w.heap.size 133 i0 (.int .u32 0) 4 Tryz.underlying119 hi hz0 hz1 hz2 rfl _ _ _ rfl (HO.out.alloc _) ⟨wr.heap.size, 0, none⟩ 1 (.int .u32 r) rfl ?c1 rfl ?c3 ?c4 ?c5 ?_)
          case c1 => simp [HR.out.1]
          case c3 => unfold maxLen; omega
          case c4 => omega
          case c5 => have := HBL.out.size; simp; omega
          intro v1 w2 ho2 hg2 hne2 hpl2
          have n2 : Below w.heap.size w w2 := (HBL.out.alloc HBL.out.size _).grown hg2 (by have := HBL.out.size; simp; omega) (fun k hk => (HO.out.lt k hk).1)
          rw [nums_snoc] at ho2
          have HO2 := Lib.hid ho2
          have N2 := Lib.hid n2
          clear ho2 n2 hg2 hne2 hpl2
          go_wp2_with fail
          go_roundw
          case rel => exact ⟨k + 1, b2, out ++ [r], by omega, by go_num, rfl, HO2.out, HT2.out, N2.out⟩
          case measure => simp [intOf] <;> omega
    · obtain rfl : k = n := by omega
      have hv := minus_end la lb out br (by rw [HLA.out, HLB.out]; exact hmn) HLE.out (by rw [HLA.out]; exact HT.out)
      have htr := trim_own HO.out (by omega) HT.out.2.1
      rw [hv] at htr
      have HTR := Lib.hid htr
      clear hv htr
      go_wp2_with fail
      refine HTR.out.mono ?_
      rintro e w' ⟨⟨v2, l2, rfl, ho2, hr2⟩, rfl⟩
      have HO2 := Lib.hid ho2
      have HR2 := Lib.hid hr2
      clear ho2 hr2
      go_wp2_with fail
      go_ret
      exact ⟨_, l2, rfl, HO2.out, HR2.out, HBL.out⟩

end Go.Proofs.YtdgmpgejemgbbaaGreatDoor

namespace Go.Proofs.YtdgmpgejemgbbaaGreatDoor
open Go.RowKit

theorem nums_zero_made (n : Nat) : (madeCells #[Value.int .u32 0] n).toList = nums .u32 (List.replicate n 0) := by
  apply List.ext_getElem
  · simp [nums, size_madeCells]
  · intro i h1 h2
    simp [nums, madeCells, Nat.mod_one]

def MulR (w : World) (la lb : List Nat) (n N : Nat) (iv : Value) (wr : World) : Prop :=
  ∃ (i : Nat) (out : List Nat), i ≤ n ∧ iv = .int .i64 i ∧ wr.ownsRow w.heap.size 133 1 (.slice (some ⟨w.heap.size, 0, none⟩) N N) N (nums .u32 out) ∧ TimesAt la lb out i ∧ Below w.heap.size w wr
def MulI (w : World) (la lb : List Nat) (i m N : Nat) (cv jv : Value) (wr : World) : Prop :=
  ∃ (j c : Nat) (out : List Nat), j ≤ m ∧ jv = .int .i64 j ∧ cv = .int .u64 c ∧ wr.ownsRow w.heap.size 133 1 (.slice (some ⟨w.heap.size, 0, none⟩) N N) N (nums .u32 out) ∧ TimesIn la lb out i j c ∧ Below w.heap.size w wr
theorem mul_bound {x y : Nat} (hx : x < 1000000000) (hy : y < 1000000000) : x * y ≤ 999999998000000001 := by
  have : x * y ≤ 999999999 * 999999999 := Nat.mul_le_mul (by omega) (by omega)
  omega

set_option maxHeartbeats 2000000 in
set_option maxRecDepth 100000 in
theorem times_any (a b : Option Addr) (n m c d : Nat) (la lb : List Nat) (w : World) (hla : la.length = n) (hlb : lb.length = m) (hn : n ≤ 400000) (hm : m ≤ 400000)
    (da : ∀ x ∈ la, x < Bs) (db : ∀ x ∈ lb, x < Bs) (ha : Nums .u32 w a la) (hb : Nums .u32 w b lb) :
    Calls Tryz.prog 92 #[.slice a n c, .slice b m d] w (MagNew w (val la * val lb)) := by
  obtain ⟨i0, hi, hz0, hz1, hz2⟩ := info_parts infoU32
  obtain ⟨N, hN⟩ : ∃ N, N = n + m := ⟨_, rfl⟩
  have hNI : ((n : Int) + (m : Int)) = (N : Int) := by omega
  have HNN := Lib.hid hN
  have hN1 : n + m ≤ N := by omega
  have hN2 : N ≤ n + m := by omega
  have HLA := Lib.hid hla
  have HLB := Lib.hid hlb
  have HA := Lib.hid ha
  have HB := Lib.hid hb
  have DA := Lib.hid da
  have DB := Lib.hid db
  clear hla hlb ha hb da db hN
  go_enter Tryz.func92, Tryz.ntmps92
  go_wp2_with (at_make; refine wpList_make_full _ rfl _ _ 119 rfl w.heap.size 133 i0 (.int .u32 0) 1 Tryz.underlying119 hi hz0 hz1 .i64 .i64 _ _ N rfl rfl ?b0 ?b1 ?b2 ?b3 ?b4 ?_)
  case b0 => omega
  case b1 => omega
  case b2 => rw [hz2]; omega
  case b3 => unfold maxLen; omega
  case b4 => exact Nat.le_refl _
  intro w1 ho1 hg1
  rw [nums_zero_made] at ho1
  have hst : MulR w la lb n N (.int .i64 0) w1 := ⟨0, List.replicate N 0, Nat.zero_le _, rfl, ho1, by have := times_start la lb; rwa [HLA.out, HLB.out, ← HNN.out] at this, (Below.refl _ _).grown hg1 (Nat.le_refl _) (fun k hk => by cases hk)⟩
  have HST := Lib.hid hst
  clear ho1 hg1 hst hNI
  go_wp2_with fail
  go_loopw [20] (MulR w la lb n N) (fun i _ => n - (intOf i).toNat)
  case atStart => exact HST.out
  case round =>
    obtain ⟨w2, rfl⟩ : ∃ w2 : World, w2 = wr := ⟨_, rfl⟩
    obtain ⟨i, out, hin, rfl, ho, hat, hbl⟩ := hrel
    have HO := Lib.hid ho
    have HT := Lib.hid hat
    have HBL := Lib.hid hbl
    clear ho hat hbl HST
    by_cases hlt : i < n
    · obtain ⟨x, hx⟩ : ∃ x, x = la.getD i 0 := ⟨_, rfl⟩
      obtain ⟨g, og, rfl, hg, hc⟩ := HA.out.below HBL.out i (by have := HLA.out; omega)
      rw [← hx] at hc
      have hx10 : x < 1000000000 := by rw [hx]; exact getD_lt la i DA.out
      have HX := Lib.hid hx
      have hst : MulI w la lb i m N (.int .u64 0) (.int .i64 0) w2 := ⟨0, 0, out, Nat.zero_le _, rfl, rfl, HO.out, times_in_start la lb out i HT.out, HBL.out⟩
      have HST := Lib.hid hst
      clear hx hst HO HT HBL
      go_wp2_with fail
      go_loopw [8, 27] (MulI w la lb i m N) (fun _ j _ => m - (intOf j).toNat)
      case atStart => exact HST.out
      case round =>
        obtain ⟨j, cy, out, hjm, rfl, rfl, ho, hat, hbl⟩ := hrel
        have HO := Lib.hid ho
        have HT := Lib.hid hat
        have HBL := Lib.hid hbl
        have hcy : cy < 1000000000 := hat.2.2.1
        clear ho hat hbl HST
        by_cases hlt2 : j < m
        · obtain ⟨y, hy⟩ : ∃ y, y = lb.getD j 0 := ⟨_, rfl⟩
          obtain ⟨gb, ob, rfl, hgb, hcb⟩ := HB.out.below HBL.out j (by have := HLB.out; omega)
          rw [← hy] at hcb
          have hy10 : y < 1000000000 := by rw [hy]; exact getD_lt lb j DB.out
          obtain ⟨o, hoo⟩ : ∃ o, o = out.getD (i + j) 0 := ⟨_, rfl⟩
          have ho10 : o < 1000000000 := by rw [hoo]; exact getD_lt out (i + j) HT.out.2.1
          have hco : wr.cell? ⟨w.heap.size, i + j, none⟩ = some (.int .u32 (o : Int)) := by
            have hlen : out.length = N := by have := HT.out.1; rw [HLA.out, HLB.out] at this; have := HNN.out; omega
            rw [HO.out.cellAt (i + j) (by omega), nums_get _ _ _ (by omega), ← hoo]
          have hfz : wr.frozen? ⟨w.heap.size, i + j, none⟩ = false := HO.out.frozenAt (i + j)
          have hstp := times_in_step la lb out i j cy (by have := HLA.out; omega) (by have := HLB.out; omega) HT.out DA.out DB.out
          rw [← HX.out, ← hy, ← hoo] at hstp
          obtain ⟨p, hp⟩ : ∃ p, p = x * y := ⟨_, rfl⟩
          have hpI : (x : Int) * (y : Int) = (p : Int) := by rw [hp]; simp
          have hpb : p ≤ 999999998000000001 := by rw [hp]; exact mul_bound hx10 hy10
          rw [← hp] at hstp
          obtain ⟨r, hr⟩ : ∃ r, r = (p + o + cy) % Bs := ⟨_, rfl⟩
          obtain ⟨q, hq⟩ : ∃ q, q = (p + o + cy) / Bs := ⟨_, rfl⟩
          rw [← hr, ← hq] at hstp
          rw [Bs_eq] at hr hq
          have hrI : ((p : Int) + (o : Int) + (cy : Int)) % 1000000000 = (r : Int) := by omega
          have hqI : ((p : Int) + (o : Int) + (cy : Int)) / 1000000000 = (q : Int) := by omega
          have hrb : r < 1000000000 := by omega
          have hqb : q < 1000000000 := by omega
          have HSTP := Lib.hid hstp
          have hij : i + j < N := by omega
          have hji : ((i : Int) + (j : Int)).toNat = i + j := by omega
          clear hy hoo hp hr hq hstp
          go_wp2_with fail
          go_roundw
          case rel => exact ⟨j + 1, q, out.set (i + j) r, by omega, by go_num, by rw [hqI], by rw [← nums_set]; exact (HO.out.stored (i + j) _).1, HSTP.out, HBL.out.setCell (p := ⟨w.heap.size, i + j, none⟩) (Nat.le_refl _) _⟩
          case measure => simp [intOf] <;> omega
        · obtain rfl : j = m := by omega
          obtain ⟨o, hoo⟩ : ∃ o, o = out.getD (i + j) 0 := ⟨_, rfl⟩
          have ho0 : o < 1 := by
            have := HT.out.2.2.2.1 (i + j) (by rw [HLB.out]; omega)
            omega
          have hco : wr.cell? ⟨w.heap.size, i + j, none⟩ = some (.int .u32 (o : Int)) := by
            have hlen : out.length = N := by have := HT.out.1; rw [HLA.out, HLB.out] at this; have := HNN.out; omega
            rw [HO.out.cellAt (i + j) (by omega), nums_get _ _ _ (by omega), ← hoo]
          have hfz : wr.frozen? ⟨w.heap.size, i + j, none⟩ = false := HO.out.frozenAt (i + j)
          have hend := times_in_end la lb out i cy (by have := HLA.out; omega) (by rw [HLB.out]; exact HT.out)
          rw [HLB.out, ← hoo] at hend
          have HEND := Lib.hid hend
          have hij : i + j < N := by omega
          have hji : ((i : Int) + (j : Int)).toNat = i + j := by omega
          clear hoo hend
          go_wp2_with fail
          go_roundw
          case rel =>
            have e1 : ((o : Int) + (cy : Int)) = ((o + cy : Nat) : Int) := by omega
            exact ⟨i + 1, out.set (i + j) (o + cy), by omega, by go_num, by rw [← nums_set, ← e1]; exact (HO.out.stored (i + j) _).1, HEND.out, HBL.out.setCell (p := ⟨w.heap.size, i + j, none⟩) (Nat.le_refl _) _⟩
          case measure => simp [intOf] <;> omega
    · obtain rfl : i = n := by omega
      have hv := times_end la lb out (by rw [HLA.out]; exact HT.out)
      have htr := trim_own HO.out (by omega) hv.1
      rw [hv.2] at htr
      have HTR := Lib.hid htr
      clear hv htr
      go_wp2_with fail
      refine HTR.out.mono ?_
      rintro e w' ⟨⟨v2, l2, rfl, ho2, hr2⟩, rfl⟩
      have HO2 := Lib.hid ho2
      have HR2 := Lib.hid hr2
      clear ho2 hr2
      go_wp2_with fail
      go_ret
      exact ⟨_, l2, rfl, HO2.out, HR2.out, HBL.out⟩

end Go.Proofs.YtdgmpgejemgbbaaGreatDoor
