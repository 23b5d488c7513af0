/-
  The reference's digits: at, Greater, Zero, Minus. No condition. The reference's digits: Minus, Plus. No condition. The reference's division. No condition.
-/
import Derived.Test.YtdgmpgejemgbbaaGreatDoorVd
import Derived.Laws.OwnMore
import Derived.Test.YtdgmpgejemgbbaaGreatDoorVa
import Derived.Deep.OwnRows
import Derived.Deep.LoopGhost
import Derived.Deep.DeepCutAuto
namespace Go.Proofs.YtdgmpgejemgbbaaGreatDoor
open Go.RowKit

/-- A slice of numbers of kind k, as it lies in memory. -/
def Nums (k : IntKind) (w : World) (a : Option Addr) (l : List Nat) : Prop :=
  ∀ i, i < l.length → ∃ g o, a = some ⟨g, o, none⟩ ∧ g < w.heap.size ∧ w.cell? ⟨g, o + i, none⟩ = some (.int k ((l.getD i 0 : Nat) : Int))
theorem Nums.below {k : IntKind} {w w' : World} {a : Option Addr} {l : List Nat} (h : Nums k w a l) (hb : Below w.heap.size w w') : Nums k w' a l := fun i hi => by
  obtain ⟨g, o, e, hg, hc⟩ := h i hi
  exact ⟨g, o, e, Nat.lt_of_lt_of_le hg hb.size, (hb.cell (p := ⟨g, o + i, none⟩) hg).trans hc⟩
theorem Nums.drewN {k : IntKind} {w : World} {a : Option Addr} {l : List Nat} (h : Nums k w a l) (n : Nat) : Nums k (w.drewN n) a l := h
theorem Nums.nil (k : IntKind) (w : World) (a : Option Addr) : Nums k w a [] := fun _ hi => absurd hi (Nat.not_lt_zero _)
theorem Nums.take {k : IntKind} {w : World} {a : Option Addr} {l : List Nat} (h : Nums k w a l) (n : Nat) : Nums k w a (l.take n) := fun i hi => by
  rw [List.length_take] at hi
  obtain ⟨g, o, e, hg, hc⟩ := h i (by omega)
  refine ⟨g, o, e, hg, hc.trans ?_⟩
  rw [List.getD_eq_getElem?_getD, List.getD_eq_getElem?_getD, List.getElem?_take_of_lt (by omega)]

set_option maxHeartbeats 400000 in
theorem at_any (a : Option Addr) (n c i : Nat) (l : List Nat) (w : World) (hl : l.length = n) (_hn : n ≤ 1000000) (h : Nums .i64 w a l) :
    Calls Tryz.prog 96 #[.slice a n c, .int .i64 i] w fun e w' => e = .returned (.int .i64 ((l.getD i 0 : Nat) : Int)) ∧ w = w' := by
  by_cases hi : i < n
  · obtain ⟨g, o, rfl, hg, hc⟩ := h i (by omega)
    obtain ⟨x, hx⟩ : ∃ x, x = l.getD i 0 := ⟨_, rfl⟩
    rw [← hx] at hc ⊢
    clear h hl hg hx
    go_enter Tryz.func96, Tryz.ntmps96
    go_wp2
    go_ret
    exact ⟨rfl, rfl⟩
  · have hx : l.getD i 0 = 0 := by rw [List.getD_eq_getElem?_getD, List.getElem?_eq_none (by omega)]; rfl
    rw [hx]
    clear h hl hx
    go_enter Tryz.func96, Tryz.ntmps96
    go_wp2
    go_ret
    exact ⟨rfl, rfl⟩

theorem getD_out {l : List Nat} {i : Nat} (h : l.length ≤ i) : l.getD i 0 = 0 := by
  rw [List.getD_eq_getElem?_getD, List.getElem?_eq_none h]; rfl

/-- From the top down: what is above place i agrees. -/
def GrR (la lb : List Nat) (M : Nat) (i : Value) : Prop := ∃ k : Int, -1 ≤ k ∧ k < M ∧ i = .int .i64 k ∧ ∀ j : Nat, k < j → la.getD j 0 = lb.getD j 0
theorem grR_start (la lb : List Nat) (M : Nat) (h1 : la.length ≤ M) (h2 : lb.length ≤ M) : GrR la lb M (.int .i64 ((M : Int) - 1)) :=
  ⟨(M : Int) - 1, by omega, by omega, rfl, fun j hj => by rw [getD_out (by omega), getD_out (by omega)]⟩

set_option maxHeartbeats 1000000 in
theorem greater_l (a b : Option Addr) (n m c d : Nat) (la lb : List Nat) (w : World) (hla : la.length = n) (hlb : lb.length = m) (hn : n ≤ 1000000) (hm : m ≤ 1000000)
    (da : ∀ x ∈ la, x < 10) (db : ∀ x ∈ lb, x < 10) (ha : Nums .i64 w a la) (hb : Nums .i64 w b lb) (hle : m ≤ n) :
    Calls Tryz.prog 83 #[.slice a n c, .slice b m d] w fun e w' => e = .returned (.int .i64 (cmpN (dval la) (dval lb))) ∧ w = w' := by
  have HS := Lib.hid (grR_start la lb n (by omega) (by omega))
  have hA : ∀ j : Nat, Calls Tryz.prog 96 #[.slice a n c, .int .i64 j] w fun e w' => e = .returned (.int .i64 ((la.getD j 0 : Nat) : Int)) ∧ w = w' := fun j => at_any a n c j la w hla hn ha
  have hB : ∀ j : Nat, Calls Tryz.prog 96 #[.slice b m d, .int .i64 j] w fun e w' => e = .returned (.int .i64 ((lb.getD j 0 : Nat) : Int)) ∧ w = w' := fun j => at_any b m d j lb w hlb hm hb
  have HA := Lib.hid hA
  have HB := Lib.hid hB
  have DA := Lib.hid da
  have DB := Lib.hid db
  clear hla hlb ha hb da db hA hB
  go_enter Tryz.func83, Tryz.ntmps83
  go_wp2_with fail
  go_loop [5] (fun i => GrR la lb n i) (fun i => (intOf i + 1).toNat)
  case atStart => exact HS.out
  case round =>
    obtain ⟨k, hk1, hk2, rfl, he⟩ := hrel
    have HE := Lib.hid he
    clear he
    by_cases hk : 0 ≤ k
    · obtain ⟨j, rfl⟩ := Int.eq_ofNat_of_zero_le hk
      obtain ⟨x, hx⟩ : ∃ x, x = la.getD j 0 := ⟨_, rfl⟩
      obtain ⟨y, hy⟩ : ∃ y, y = lb.getD j 0 := ⟨_, rfl⟩
      have cA := HA.out j
      have cB := HB.out j
      rw [← hx] at cA
      rw [← hy] at cB
      have CA := Lib.hid cA
      have CB := Lib.hid cB
      have HX := Lib.hid hx
      have HY := Lib.hid hy
      clear hx hy cA cB
      have hr : (x = y → cmpN (dval la) (dval lb) = cmpN (dval la) (dval lb) ∧ ∀ i : Nat, (j : Int) - 1 < i → la.getD i 0 = lb.getD i 0) ∧ (y < x → cmpN (dval la) (dval lb) = 1) ∧ (x < y → cmpN (dval la) (dval lb) = -1) := by
        refine ⟨fun e => ⟨rfl, fun i hi => ?_⟩, fun h => cmpN_gt (dcmp_top lb la j DB.out (fun i hi => (HE.out i (by omega)).symm) (by rw [← HX.out, ← HY.out]; exact h)), fun h => cmpN_lt (dcmp_top la lb j DA.out (fun i hi => HE.out i (by omega)) (by rw [← HX.out, ← HY.out]; exact h))⟩
        by_cases hij : i = j
        · rw [hij, ← HX.out, ← HY.out, e]
        · exact HE.out i (by omega)
      have HR := Lib.hid hr
      clear hr
      rcases Nat.lt_trichotomy x y with h | h | h
      · have t1 : ((x : Int) != (y : Int)) = true := by rw [bne_iff_ne]; omega
        have HQ := Lib.hid (HR.out.2.2 h)
        go_wp2_with fail
        refine CA.out.mono ?_
        rintro e w' ⟨rfl, rfl⟩
        go_wp2_with fail
        refine CB.out.mono ?_
        rintro e w' ⟨rfl, rfl⟩
        go_wp2_with fail
        refine CA.out.mono ?_
        rintro e w' ⟨rfl, rfl⟩
        go_wp2_with fail
        refine CB.out.mono ?_
        rintro e w' ⟨rfl, rfl⟩
        go_wp2_with fail
        go_ret
        exact ⟨ret_int HQ.out.symm, rfl⟩
      · have HQ := Lib.hid (HR.out.1 h).2
        have HXY := Lib.hid h
        have t1 : ((x : Int) != (y : Int)) = false := by rw [h]; simp
        clear h
        go_wp2_with fail
        refine CA.out.mono ?_
        rintro e w' ⟨rfl, rfl⟩
        go_wp2_with fail
        refine CB.out.mono ?_
        rintro e w' ⟨rfl, rfl⟩
        go_wp2_with fail
        go_round
        case rel => exact ⟨(j : Int) - 1, by omega, by omega, rfl, HQ.out⟩
        case measure => simp [intOf] <;> omega
      · have t1 : ((x : Int) != (y : Int)) = true := by rw [bne_iff_ne]; omega
        have HQ := Lib.hid (HR.out.2.1 h)
        go_wp2_with fail
        refine CA.out.mono ?_
        rintro e w' ⟨rfl, rfl⟩
        go_wp2_with fail
        refine CB.out.mono ?_
        rintro e w' ⟨rfl, rfl⟩
        go_wp2_with fail
        refine CA.out.mono ?_
        rintro e w' ⟨rfl, rfl⟩
        go_wp2_with fail
        refine CB.out.mono ?_
        rintro e w' ⟨rfl, rfl⟩
        go_wp2_with fail
        go_ret
        exact ⟨ret_int HQ.out.symm, rfl⟩
    · have HQ := Lib.hid (cmpN_eq (dval_ext la lb fun j => HE.out j (by omega)))
      go_wp2_with fail
      go_ret
      exact ⟨ret_int HQ.out.symm, rfl⟩
set_option maxHeartbeats 1000000 in
theorem greater_r (a b : Option Addr) (n m c d : Nat) (la lb : List Nat) (w : World) (hla : la.length = n) (hlb : lb.length = m) (hn : n ≤ 1000000) (hm : m ≤ 1000000)
    (da : ∀ x ∈ la, x < 10) (db : ∀ x ∈ lb, x < 10) (ha : Nums .i64 w a la) (hb : Nums .i64 w b lb) (hle : n < m) :
    Calls Tryz.prog 83 #[.slice a n c, .slice b m d] w fun e w' => e = .returned (.int .i64 (cmpN (dval la) (dval lb))) ∧ w = w' := by
  have HS := Lib.hid (grR_start la lb m (by omega) (by omega))
  have hA : ∀ j : Nat, Calls Tryz.prog 96 #[.slice a n c, .int .i64 j] w fun e w' => e = .returned (.int .i64 ((la.getD j 0 : Nat) : Int)) ∧ w = w' := fun j => at_any a n c j la w hla hn ha
  have hB : ∀ j : Nat, Calls Tryz.prog 96 #[.slice b m d, .int .i64 j] w fun e w' => e = .returned (.int .i64 ((lb.getD j 0 : Nat) : Int)) ∧ w = w' := fun j => at_any b m d j lb w hlb hm hb
  have HA := Lib.hid hA
  have HB := Lib.hid hB
  have DA := Lib.hid da
  have DB := Lib.hid db
  clear hla hlb ha hb da db hA hB
  go_enter Tryz.func83, Tryz.ntmps83
  go_wp2_with fail
  go_loop [5] (fun i => GrR la lb m i) (fun i => (intOf i + 1).toNat)
  case atStart => exact HS.out
  case round =>
    obtain ⟨k, hk1, hk2, rfl, he⟩ := hrel
    have HE := Lib.hid he
    clear he
    by_cases hk : 0 ≤ k
    · obtain ⟨j, rfl⟩ := Int.eq_ofNat_of_zero_le hk
      obtain ⟨x, hx⟩ : ∃ x, x = la.getD j 0 := ⟨_, rfl⟩
      obtain ⟨y, hy⟩ : ∃ y, y = lb.getD j 0 := ⟨_, rfl⟩
      have cA := HA.out j
      have cB := HB.out j
      rw [← hx] at cA
      rw [← hy] at cB
      have CA := Lib.hid cA
      have CB := Lib.hid cB
      have HX := Lib.hid hx
      have HY := Lib.hid hy
      clear hx hy cA cB
      have hr : (x = y → cmpN (dval la) (dval lb) = cmpN (dval la) (dval lb) ∧ ∀ i : Nat, (j : Int) - 1 < i → la.getD i 0 = lb.getD i 0) ∧ (y < x → cmpN (dval la) (dval lb) = 1) ∧ (x < y → cmpN (dval la) (dval lb) = -1) := by
        refine ⟨fun e => ⟨rfl, fun i hi => ?_⟩, fun h => cmpN_gt (dcmp_top lb la j DB.out (fun i hi => (HE.out i (by omega)).symm) (by rw [← HX.out, ← HY.out]; exact h)), fun h => cmpN_lt (dcmp_top la lb j DA.out (fun i hi => HE.out i (by omega)) (by rw [← HX.out, ← HY.out]; exact h))⟩
        by_cases hij : i = j
        · rw [hij, ← HX.out, ← HY.out, e]
        · exact HE.out i (by omega)
      have HR := Lib.hid hr
      clear hr
      rcases Nat.lt_trichotomy x y with h | h | h
      · have t1 : ((x : Int) != (y : Int)) = true := by rw [bne_iff_ne]; omega
        have HQ := Lib.hid (HR.out.2.2 h)
        go_wp2_with fail
        refine CA.out.mono ?_
        rintro e w' ⟨rfl, rfl⟩
        go_wp2_with fail
        refine CB.out.mono ?_
        rintro e w' ⟨rfl, rfl⟩
        go_wp2_with fail
        refine CA.out.mono ?_
        rintro e w' ⟨rfl, rfl⟩
        go_wp2_with fail
        refine CB.out.mono ?_
        rintro e w' ⟨rfl, rfl⟩
        go_wp2_with fail
        go_ret
        exact ⟨ret_int HQ.out.symm, rfl⟩
      · have HQ := Lib.hid (HR.out.1 h).2
        have HXY := Lib.hid h
        have t1 : ((x : Int) != (y : Int)) = false := by rw [h]; simp
        clear h
        go_wp2_with fail
        refine CA.out.mono ?_
        rintro e w' ⟨rfl, rfl⟩
        go_wp2_with fail
        refine CB.out.mono ?_
        rintro e w' ⟨rfl, rfl⟩
        go_wp2_with fail
        go_round
        case rel => exact ⟨(j : Int) - 1, by omega, by omega, rfl, HQ.out⟩
        case measure => simp [intOf] <;> omega
      · have t1 : ((x : Int) != (y : Int)) = true := by rw [bne_iff_ne]; omega
        have HQ := Lib.hid (HR.out.2.1 h)
        go_wp2_with fail
        refine CA.out.mono ?_
        rintro e w' ⟨rfl, rfl⟩
        go_wp2_with fail
        refine CB.out.mono ?_
        rintro e w' ⟨rfl, rfl⟩
        go_wp2_with fail
        refine CA.out.mono ?_
        rintro e w' ⟨rfl, rfl⟩
        go_wp2_with fail
        refine CB.out.mono ?_
        rintro e w' ⟨rfl, rfl⟩
        go_wp2_with fail
        go_ret
        exact ⟨ret_int HQ.out.symm, rfl⟩
    · have HQ := Lib.hid (cmpN_eq (dval_ext la lb fun j => HE.out j (by omega)))
      go_wp2_with fail
      go_ret
      exact ⟨ret_int HQ.out.symm, rfl⟩
theorem greater_any (a b : Option Addr) (n m c d : Nat) (la lb : List Nat) (w : World) (hla : la.length = n) (hlb : lb.length = m) (hn : n ≤ 1000000) (hm : m ≤ 1000000)
    (da : ∀ x ∈ la, x < 10) (db : ∀ x ∈ lb, x < 10) (ha : Nums .i64 w a la) (hb : Nums .i64 w b lb) :
    Calls Tryz.prog 83 #[.slice a n c, .slice b m d] w fun e w' => e = .returned (.int .i64 (cmpN (dval la) (dval lb))) ∧ w = w' := by
  rcases Nat.lt_or_ge n m with h | h
  · exact greater_r a b n m c d la lb w hla hlb hn hm da db ha hb h
  · exact greater_l a b n m c d la lb w hla hlb hn hm da db ha hb h

set_option maxHeartbeats 1000000 in
theorem zero_any (a : Option Addr) (n c : Nat) (la : List Nat) (w : World) (hla : la.length = n) (hn : n ≤ 1000000) (da : ∀ x ∈ la, x < 10) (ha : Nums .i64 w a la) :
    Calls Tryz.prog 70 #[.slice a n c] w fun e w' => e = .returned (.bool (decide (dval la = 0))) ∧ w = w' := by
  have hg := greater_any a none n 0 c 0 la [] w hla rfl hn (by omega) da (by simp) ha (Nums.nil _ _ _)
  by_cases h : dval la = 0
  · have e : cmpN (dval la) (dval []) = 0 := cmpN_eq h
    have e2 : decide (dval la = 0) = true := by simpa using h
    rw [e] at hg
    rw [e2]
    have HG := Lib.hid hg
    clear hg e e2 h hla da ha
    go_enter Tryz.func70, Tryz.ntmps70
    go_wp2_with fail
    refine HG.out.mono ?_
    rintro e w' ⟨rfl, rfl⟩
    go_wp2_with fail
    go_ret
    exact ⟨rfl, rfl⟩
  · have e : cmpN (dval la) (dval []) = 1 := cmpN_gt (by show 0 < _; omega)
    have e2 : decide (dval la = 0) = false := by simpa using h
    rw [e] at hg
    rw [e2]
    have HG := Lib.hid hg
    clear hg e e2 h hla da ha
    go_enter Tryz.func70, Tryz.ntmps70
    go_wp2_with fail
    refine HG.out.mono ?_
    rintro e w' ⟨rfl, rfl⟩
    go_wp2_with fail
    go_ret
    exact ⟨rfl, rfl⟩

end Go.Proofs.YtdgmpgejemgbbaaGreatDoor

namespace Go.Proofs.YtdgmpgejemgbbaaGreatDoor
open Go.RowKit

theorem infoInt : (Tryz.prog.info? 3).map (fun i => (i.zero, i.size, i.bytes)) = some (some (.int .i64 0), 1, 8) := by kernel_rfl
/-- Numbers as cells. -/
def nums (k : IntKind) (l : List Nat) : List Value := l.map fun x : Nat => Value.int k (x : Int)
theorem nums_length (k : IntKind) (l : List Nat) : (nums k l).length = l.length := by simp [nums]
theorem nums_snoc (k : IntKind) (l : List Nat) (x : Nat) : nums k l ++ [.int k (x : Int)] = nums k (l ++ [x]) := by simp [nums]
theorem nums_get (k : IntKind) (l : List Nat) (i : Nat) (h : i < l.length) : (nums k l)[i]? = some (.int k ((l.getD i 0 : Nat) : Int)) := by
  simp [nums, List.getElem?_eq_getElem h]
/-- A slice of the call's own that holds numbers. -/
theorem nums_of_owns {k : IntKind} {w : World} {B e : Nat} {v : Value} {n : Nat} {l : List Nat} (h : w.ownsRow B e 1 v n (nums k l)) :
    ∃ a c, v = .slice a n c ∧ l.length = n ∧ n ≤ c ∧ Nums k w a l := by
  have hn : l.length = n := by have := h.1; rw [nums_length] at this; omega
  rcases rowAt_of_owns h with ⟨rfl, rfl, _⟩ | ⟨g, c, rfl, _, hc, _, _, hr⟩
  · exact ⟨none, 0, rfl, hn, Nat.le_refl _, fun i hi => by omega⟩
  · refine ⟨_, c, rfl, hn, hc, fun i hi => ⟨g, 0, rfl, hr.lt, ?_⟩⟩
    rw [Nat.zero_add, hr.cell (by rw [nums_length]; exact hi), nums_get k l i hi]
/-- A new slice of numbers is handed back. -/
def NewNums (k : IntKind) (T : TypeId) (w : World) (P : List Nat → Prop) (e : Ending) (w' : World) : Prop :=
  ∃ v l, e = .returned v ∧ w'.ownsRow w.heap.size T 1 v l.length (nums k l) ∧ P l ∧ Below w.heap.size w w'

/-- The loop of the reference's subtraction. -/
def MinR (w : World) (la lb : List Nat) (n : Nat) (o b i : Value) (wr : World) : Prop :=
  ∃ (k br : Nat) (out : List Nat), k ≤ n ∧ i = .int .i64 k ∧ b = .int .i64 br ∧ wr.ownsRow w.heap.size 3 1 o k (nums .i64 out) ∧ DMinusAt la lb out k br ∧ Below w.heap.size w wr

set_option maxHeartbeats 1000000 in
set_option maxRecDepth 100000 in
theorem dminus_any (a b : Option Addr) (n m c d : Nat) (la lb : List Nat) (w : World) (hla : la.length = n) (hlb : lb.length = m) (hn : n ≤ 1000000) (hm : m ≤ 1000000)
    (da : ∀ x ∈ la, x < 10) (db : ∀ x ∈ lb, x < 10) (hle : dval lb ≤ dval la) (ha : Nums .i64 w a la) (hb : Nums .i64 w b lb) :
    Calls Tryz.prog 84 #[.slice a n c, .slice b m d] w (NewNums .i64 3 w fun l => l.length = n ∧ (∀ x ∈ l, x < 10) ∧ dval l = dval la - dval lb) := by
  obtain ⟨i0, hi, hz0, hz1, hz2⟩ := info_parts infoInt
  have HLA := Lib.hid hla
  have HA := Lib.hid ha
  have HB := Lib.hid hb
  have DA := Lib.hid da
  have DB := Lib.hid db
  have HLE := Lib.hid hle
  have HLB := Lib.hid hlb
  clear hla hlb ha hb da db hle
  go_enter Tryz.func84, Tryz.ntmps84
  go_wp2_with fail
  go_loopw [5, 6, 7] (MinR w la lb n) (fun _ _ i _ => n - (intOf i).toNat)
  case atStart => exact ⟨0, 0, [], Nat.zero_le _, rfl, rfl, World.ownsRow_nil _ _ _ _, dminus_start _ _, Below.refl _ _⟩
  case round =>
    obtain ⟨k, br, out, hk, rfl, rfl, ho, hat, hbl⟩ := hrel
    have HO := Lib.hid ho
    have HT := Lib.hid hat
    have HBL := Lib.hid hbl
    clear ho hat hbl
    by_cases hlt : k < n
    · obtain ⟨x, hx⟩ : ∃ x, x = la.getD k 0 := ⟨_, rfl⟩
      obtain ⟨y, hy⟩ : ∃ y, y = lb.getD k 0 := ⟨_, rfl⟩
      obtain ⟨g, og, rfl, hg, hc⟩ := HA.out.below HBL.out k (by have := HLA.out; omega)
      have cB := fun q => at_any b m d k lb (wr.drewN q) HLB.out hm ((HB.out.below HBL.out).drewN q)
      rw [← hx] at hc
      rw [← hy] at cB
      have hx10 : x < 10 := by rw [hx]; exact digD_lt la k DA.out
      have hy10 : y < 10 := by rw [hy]; exact digD_lt lb k DB.out
      have hbr : br ≤ 1 := HT.out.2.2.1
      have CB := Lib.hid cB
      have HX := Lib.hid hx
      have HY := Lib.hid hy
      clear hx hy cB
      have w1 : IntKind.i64.wrap ((x : Int) - (y : Int)) = (x : Int) - (y : Int) := by rw [IntKind.wrap_i64]; omega
      have w2 : IntKind.i64.wrap ((x : Int) - (y : Int) - (br : Int)) = (x : Int) - (y : Int) - (br : Int) := by rw [IntKind.wrap_i64]; omega
      go_wp2_with fail
      go_quiet ((go_at_call 96; exact quiet_left (CB.out _)))
      clear w1 w2
      by_cases hs : y + br ≤ x
      · have st := dminus_step0 la lb out k br DA.out HT.out (by rw [← HX.out, ← HY.out]; exact hs)
        rw [← HX.out, ← HY.out] at st
        obtain ⟨z, hz⟩ : ∃ z : Nat, (x : Int) - (y : Int) - (br : Int) = z ∧ x - y - br = z := ⟨x - y - br, by omega, rfl⟩
        rw [hz.2] at st
        have ST := Lib.hid st
        have t1 : ((x : Int) - (y : Int) - (br : Int) < 0) = False := by simp; omega
        have HZ := Lib.hid hz
        clear st hz
        rw [HZ.out.1] at t1 ⊢
        obtain ⟨wq, hwq⟩ : ∃ wq, wq = wr.drewN nq := ⟨_, rfl⟩
        have HOq : Hid (wq.ownsRow w.heap.size 3 1 u5 k (nums .i64 out)) := by rw [hwq]; exact HO.out
        have HBq : Hid (Below w.heap.size w wq) := by rw [hwq]; exact below_drewN HBL.out nq
        rw [← hwq]
        clear hwq hc t1
        go_wp2_with (at_builtin; refine wpList_append1 _ rfl (.tmp 29) (.tmp 31) 78 rfl w.heap.size 3 i0 (.int .i64 0) 8 Tryz.underlying78 hi hz0 hz1 hz2 rfl _ _ _ rfl (HOq.out.alloc _) ⟨wq.heap.size, 0, none⟩ 1 (.int .i64 z) rfl ?c1 rfl ?c3 ?c4 ?c5 ?_)
        case c1 => simp
        case c3 => unfold maxLen; omega
        case c4 => omega
        case c5 => have := HBq.out.size; simp; omega
        intro v1 w1 ho1 hg1 hne1 hpl1
        have n1 : Below w.heap.size w w1 := (HBq.out.alloc HBq.out.size _).grown hg1 (by have := HBq.out.size; simp; omega) (fun k hk => (HOq.out.lt k hk).1)
        rw [nums_snoc] at ho1
        have HO1 := Lib.hid ho1
        have N1 := Lib.hid n1
        clear ho1 n1 hg1 hne1 hpl1
        go_wp2_with fail
        go_roundw
        case rel => exact ⟨k + 1, 0, out ++ [z], by omega, by go_num, rfl, HO1.out, ST.out, N1.out⟩
        case measure => simp [intOf] <;> omega
      · have st := dminus_step1 la lb out k br DB.out HT.out (by rw [← HX.out, ← HY.out]; omega)
        rw [← HX.out, ← HY.out] at st
        obtain ⟨z, hz⟩ : ∃ z : Nat, (x : Int) - (y : Int) - (br : Int) = (z : Int) - 10 ∧ x + 10 - y - br = z := ⟨x + 10 - y - br, by omega, rfl⟩
        have hz10 : (z : Int) < 10 := by omega
        rw [hz.2] at st
        have ST := Lib.hid st
        have HZ := Lib.hid hz
        clear st hz
        rw [HZ.out.1]
        obtain ⟨wq, hwq⟩ : ∃ wq, wq = wr.drewN nq := ⟨_, rfl⟩
        have HOq : Hid (wq.ownsRow w.heap.size 3 1 u5 k (nums .i64 out)) := by rw [hwq]; exact HO.out
        have HBq : Hid (Below w.heap.size w wq) := by rw [hwq]; exact below_drewN HBL.out nq
        rw [← hwq]
        clear hwq hc
        go_wp2_with (at_builtin; refine wpList_append1 _ rfl (.tmp 29) (.tmp 31) 78 rfl w.heap.size 3 i0 (.int .i64 0) 8 Tryz.underlying78 hi hz0 hz1 hz2 rfl _ _ _ rfl (HOq.out.alloc _) ⟨wq.heap.size, 0, none⟩ 1 (.int .i64 z) rfl ?c1 rfl ?c3 ?c4 ?c5 ?_)
        case c1 => simp
        case c3 => unfold maxLen; omega
        case c4 => omega
        case c5 => have := HBq.out.size; simp; omega
        intro v1 w1 ho1 hg1 hne1 hpl1
        have n1 : Below w.heap.size w w1 := (HBq.out.alloc HBq.out.size _).grown hg1 (by have := HBq.out.size; simp; omega) (fun k hk => (HOq.out.lt k hk).1)
        rw [nums_snoc] at ho1
        have HO1 := Lib.hid ho1
        have N1 := Lib.hid n1
        clear ho1 n1 hg1 hne1 hpl1
        go_wp2_with fail
        go_roundw
        case rel => exact ⟨k + 1, 1, out ++ [z], by omega, by go_num, rfl, HO1.out, ST.out, N1.out⟩
        case measure => simp [intOf] <;> omega
    · have hkn : k = n := by omega
      subst hkn
      have hv := dminus_end la lb out br DA.out HLE.out (by rw [HLA.out]; exact HT.out)
      have HV := Lib.hid hv
      clear hv
      go_wp2_with fail
      go_ret
      have ho := HO.out
      rw [← HT.out.1] at ho
      exact ⟨_, out, rfl, ho, ⟨HT.out.1, HT.out.2.1, HV.out⟩, HBL.out⟩

end Go.Proofs.YtdgmpgejemgbbaaGreatDoor

namespace Go.Proofs.YtdgmpgejemgbbaaGreatDoor
open Go.RowKit

/-- The rest, as it lies in memory: beyond block gq. -/
def Rest (w : World) (gq : Nat) (v : Value) (r : List Nat) : Prop :=
  (v = .slice none 0 0 ∧ r = []) ∨
  ∃ g o c, v = .slice (some ⟨g, o, none⟩) r.length c ∧ 1 ≤ r.length ∧ r.length ≤ c ∧ gq < g ∧ g < w.heap.size ∧ ∀ i, i < r.length → w.cell? ⟨g, o + i, none⟩ = some (.int .i64 ((r.getD i 0 : Nat) : Int))
theorem Rest.read {w : World} {gq : Nat} {v : Value} {r : List Nat} (h : Rest w gq v r) : ∃ a c, v = .slice a r.length c ∧ r.length ≤ c ∧ Nums .i64 w a r := by
  rcases h with ⟨rfl, rfl⟩ | ⟨g, o, c, rfl, _, hc, _, hg, hcell⟩
  · exact ⟨none, 0, rfl, Nat.le_refl _, Nums.nil _ _ _⟩
  · exact ⟨_, c, rfl, hc, fun i hi => ⟨g, o, rfl, hg, hcell i hi⟩⟩
theorem Rest.of_owns {w : World} {gq B e : Nat} {v : Value} {n : Nat} {r : List Nat} (h : w.ownsRow B e 1 v n (nums .i64 r)) (hB : gq < B) (hn : 1 ≤ n) : Rest w gq v r := by
  have hl : r.length = n := by have := h.1; rw [nums_length] at this; omega
  rcases rowAt_of_owns h with ⟨rfl, h0, _⟩ | ⟨g, c, rfl, hb, hc, _, _, hr⟩
  · omega
  · refine .inr ⟨g, 0, c, by rw [hl], by omega, by omega, by omega, hr.lt, fun i hi => ?_⟩
    rw [Nat.zero_add, hr.cell (by rw [nums_length]; exact hi), nums_get _ r i hi]
theorem Rest.kept {w w' : World} {gq : Nat} {v : Value} {r : List Nat} (h : Rest w gq v r) (hg : w.grownBy w' (some gq)) : Rest w' gq v r := by
  rcases h with h | ⟨g, o, c, e, h1, hc, hq, hlt, hcell⟩
  · exact .inl h
  · refine .inr ⟨g, o, c, e, h1, hc, hq, Nat.lt_of_lt_of_le hlt hg.size, fun i hi => ?_⟩
    refine hg.cell (a := ⟨g, o + i, none⟩) (hcell i hi) ?_
    intro e
    injection e with e
    simp at e; omega

theorem nums_one (k : IntKind) (l : List Nat) : ∀ u ∈ nums k l, u.oneCell' = true := by
  intro u hu
  unfold nums at hu
  obtain ⟨x, _, rfl⟩ := List.mem_map.1 hu
  rfl
theorem add_plain (g o n : Nat) : (⟨g, o, none⟩ : Addr).add n = ⟨g, o + n, none⟩ := by
  unfold Addr.add
  split
  · rename_i h; subst h; rfl
  · rfl

theorem nums_set (k : IntKind) (l : List Nat) (i x : Nat) : (nums k l).set i (.int k (x : Int)) = nums k (l.set i x) := by simp [nums, List.map_set]

/-- The quotient and the rest are handed back. -/
def DivPost (w : World) (V n : Nat) (A : Nat) (e : Ending) (w' : World) : Prop :=
  ∃ a1 c1 q a2 c2 r, e = .returned (.tuple #[.slice a1 n c1, .slice a2 r.length c2]) ∧ n ≤ c1 ∧ r.length ≤ c2 ∧ q.length = n ∧ Nums .i64 w' a1 q ∧ Nums .i64 w' a2 r ∧
    (∀ x ∈ q, x < 10) ∧ (∀ x ∈ r, x < 10) ∧ dval q = A / V ∧ dval r = A % V ∧ r.length ≤ (decN V).length + 1 ∧ Below w.heap.size w w'

def TrimR (lb : List Nat) (m : Nat) (v : Value) : Prop := ∃ j : Nat, j + 1 ≤ m ∧ v = .int .i64 ((j : Int) + 1) ∧ dval (lb.take (j + 1)) = dval lb

/-- The outer loop: the places from i on are done. -/
def DivR (w : World) (gq k n : Nat) (la lb : List Nat) (rv iv : Value) (wr : World) : Prop :=
  ∃ (i : Nat) (q r : List Nat), i ≤ n ∧ iv = .int .i64 ((i : Int) - 1) ∧ Rest wr gq rv r ∧ RowAt wr gq 3 (nums .i64 q) ∧ DDivAt la lb q r i ∧ r.length ≤ k + 2 ∧ Below w.heap.size w wr
/-- The inner loop. -/
def DivI (w : World) (gq k : Nat) (la lb : List Nat) (i : Nat) (gk : Nat) (rv : Value) (wr : World) : Prop :=
  ∃ (c : Nat) (q r : List Nat), gk = dval r ∧ Rest wr gq rv r ∧ RowAt wr gq 3 (nums .i64 q) ∧ DDivIn la lb q r i c ∧ 1 ≤ r.length ∧ r.length ≤ k + 2 ∧ Below w.heap.size w wr

theorem nums_zeros (n : Nat) (w : World) (t : TypeId) : RowAt (w.alloc (.cells (madeCells #[.int .i64 0] n) t)) w.heap.size t (nums .i64 (List.replicate n 0)) := by
  refine rowAt_alloc rfl ?_
  apply List.ext_getElem
  · simp [nums, size_madeCells]
  · intro i h1 h2
    simp [nums, madeCells, Nat.mod_one]

/-- Behind the append of a digit. -/
def CutA (w : World) (x : Nat) (q r : List Nat) (v : Value) (wx : World) : Prop :=
  Rest wx w.heap.size v (x :: r) ∧ RowAt wx w.heap.size 3 (nums .i64 q) ∧ Below w.heap.size w wx
/-- Behind the cut of the rest. -/
def CutB (w : World) (la lb q : List Nat) (i j : Nat) (v : Value) (wx : World) : Prop :=
  ∃ r, Rest wx w.heap.size v r ∧ RowAt wx w.heap.size 3 (nums .i64 q) ∧ Below w.heap.size w wx ∧ DDivIn la lb q r i 0 ∧ 1 ≤ r.length ∧ r.length ≤ j + 2

set_option maxHeartbeats 2000000 in
set_option maxRecDepth 100000 in
theorem ddivide_any (a b : Option Addr) (n m c d : Nat) (la lb : List Nat) (w : World) (hla : la.length = n) (hlb : lb.length = m) (hn : n ≤ 900000) (hm : m ≤ 900000) (hmd : m ≤ d)
    (da : ∀ x ∈ la, x < 10) (db : ∀ x ∈ lb, x < 10) (h0 : 0 < dval lb) (ha : Nums .i64 w a la) (hb : Nums .i64 w b lb) :
    Calls Tryz.prog 71 #[.slice a n c, .slice b m d] w (DivPost w (dval lb) n (dval la)) := by
  obtain ⟨i0, hi, hz0, hz1, hz2⟩ := info_parts infoInt
  have hm1 : 1 ≤ m := by
    rcases Nat.eq_zero_or_pos m with h | h
    · rw [h] at hlb; rw [List.eq_nil_of_length_eq_zero hlb] at h0; simp [dval] at h0
    · exact h
  obtain ⟨gb, ob, rfl, hgb, _⟩ := hb 0 (by omega)
  have hbc : ∀ j, j < m → w.cell? ⟨gb, ob + j, none⟩ = some (.int .i64 ((lb.getD j 0 : Nat) : Int)) := fun j hj => by
    obtain ⟨g, o, e, _, hc⟩ := hb j (by omega)
    injection e with e; injection e with e1 e2
    subst e1 e2; exact hc
  have HLA := Lib.hid hla
  have HA := Lib.hid ha
  have HB := Lib.hid hb
  have HBC := Lib.hid hbc
  have DA := Lib.hid da
  have DB := Lib.hid db
  have H0 := Lib.hid h0
  have HLB := Lib.hid hlb
  clear hla hlb ha hb da db h0 hbc
  go_enter Tryz.func71, Tryz.ntmps71
  go_wp2_with fail
  go_loop [6] (TrimR lb m) (fun v => (intOf v).toNat)
  case atStart => exact ⟨m - 1, by omega, by congr 1; omega, by rw [List.take_of_length_le (by have := HLB.out; omega)]⟩
  case round =>
    obtain ⟨j, hj, rfl, hv⟩ := hrel
    have HV := Lib.hid hv
    clear hv
    have hcj := HBC.out j (by omega)
    obtain ⟨y, hy⟩ : ∃ y, y = lb.getD j 0 := ⟨_, rfl⟩
    rw [← hy] at hcj
    have HY := Lib.hid hy
    clear hy
    obtain ⟨B, hB⟩ : ∃ B : Bool, B = decide (1 ≤ j ∧ y = 0) := ⟨_, rfl⟩
    have HBB := Lib.hid hB
    clear hB
    go_upto_region 2 with (fail)
    go_cut [21] (fun s wx => s = .bool B ∧ w = wx)
    case first => as_aux_lemma =>
      by_cases hz : j < 1
      · have e : B = false := by rw [HBB.out]; simp; omega
        have E := Lib.hid e
        clear e
        go_wp2_with fail
        go_meet
        exact ⟨by rw [E.out], rfl⟩
      · by_cases hy : y = 0
        · have e : B = true := by rw [HBB.out]; simp; omega
          have t1 : ((y : Int) == 0) = true := by rw [beq_iff_eq]; omega
          have E := Lib.hid e
          clear e hy
          go_wp2_with fail
          go_meet
          exact ⟨by rw [E.out], rfl⟩
        · have e : B = false := by rw [HBB.out]; simp; omega
          have t1 : ((y : Int) == 0) = false := by rw [beq_eq_false_iff_ne]; omega
          have E := Lib.hid e
          clear e hy
          go_wp2_with fail
          go_meet
          exact ⟨by rw [E.out], rfl⟩
    case rest => as_aux_lemma =>
      obtain ⟨rfl, rfl⟩ := hcut
      cases B with
      | true =>
        have hgo : 1 ≤ j ∧ y = 0 := by have := HBB.out; simpa using this.symm
        have hn := dtrim_step lb j HV.out (by rw [← HY.out]; exact hgo.2)
        obtain ⟨jp, rfl⟩ : ∃ jp, j = jp + 1 := ⟨j - 1, by omega⟩
        have HN := Lib.hid hn
        clear hn hgo
        go_wp2_with fail
        go_round
        case rel => exact ⟨jp, by omega, by simp, HN.out⟩
        case measure => simp [intOf] <;> omega
      | false =>
        have hgo : ¬ (1 ≤ j ∧ y = 0) := by have := HBB.out; simpa using this.symm
        have hlen := dtrim_len lb j (by have := HLB.out; omega) DB.out HV.out (by
          rcases Nat.eq_zero_or_pos j with h | h
          · exact .inl h
          · right; rw [← HY.out]; intro h2; exact hgo ⟨h, h2⟩)
        have HLEN := Lib.hid hlen
        clear hgo hlen hcj HY
        have hjd : j + 1 ≤ d := by omega
        have hbt : ∀ W, Below w.heap.size w W → Nums .i64 W (some ⟨gb, ob, none⟩) (lb.take (j + 1)) := fun W hW => (HB.out.below hW).take _
        have HBT := Lib.hid hbt
        have hbl : (lb.take (j + 1)).length = j + 1 := by rw [List.length_take]; have := HLB.out; omega
        have HBL := Lib.hid hbl
        clear hbt hbl
        go_wp2_with (at_make; refine wpList_make_row _ rfl _ _ 78 rfl 3 i0 (.int .i64 0) Tryz.underlying78 hi hz0 hz1 rfl .i64 .i64 n rfl rfl ?m1 ?m2 ?_)
        case m1 => omega
        case m2 => omega
        obtain ⟨W0, hW0⟩ : ∃ W0, W0 = w.alloc (.cells (madeCells #[.int .i64 0] n) 3) := ⟨_, rfl⟩
        have hst : DivR w w.heap.size j n la lb (.slice none 0 0) (.int .i64 ((n : Int) - 1)) W0 := by
          rw [hW0]
          exact ⟨n, List.replicate n 0, [], Nat.le_refl _, rfl, .inl ⟨rfl, rfl⟩, nums_zeros n w _, by have := ddiv_start la lb H0.out; rwa [HLA.out] at this, by simp, (Below.refl _ _).alloc (Nat.le_refl _) _⟩
        have HST := Lib.hid hst
        rw [← hW0]
        clear hst hW0
        go_loopw [8, 9] (DivR w w.heap.size j n la lb) (fun _ i _ => (intOf i + 1).toNat)
        case atStart => exact HST.out
        case round =>
          obtain ⟨i, q, r, hin, rfl, hrest, hrow, hat, hrl, hbel⟩ := hrel
          have HR := Lib.hid hrest
          have HQ := Lib.hid hrow
          have HAT := Lib.hid hat
          have HBEL := Lib.hid hbel
          clear hrest hrow hat hbel
          by_cases hi0 : 1 ≤ i
          · obtain ⟨ip, rfl⟩ : ∃ ip, i = ip + 1 := ⟨i - 1, by omega⟩
            obtain ⟨x, hx⟩ : ∃ x, x = la.getD ip 0 := ⟨_, rfl⟩
            obtain ⟨ga, oa, rfl, hga, hca⟩ := HA.out.below HBEL.out ip (by have := HLA.out; omega)
            rw [← hx] at hca
            have hin1 := ddiv_in la lb q r ip DA.out HAT.out
            rw [← hx] at hin1
            have HIN := Lib.hid hin1
            have hlit : (wr.alloc (.cells #[.int .i64 (x : Int)] 3)).ownsRow wr.heap.size 3 1 (.slice (some ⟨wr.heap.size, 0, none⟩) 1 1) 1 [.int .i64 (x : Int)] :=
              World.ownsRow_lit wr #[.int .i64 (x : Int)] 1 (Nat.le_refl _) (by unfold maxLen; omega) (by simp)
            have HLIT := Lib.hid hlit
            clear hx hin1 hlit
            rw [show (((ip + 1 : Nat) : Int) - 1) = (ip : Int) by omega]
            go_upto_region 10 with (fail)
            go_cut [8] (fun v wx => CutA w x q r v wx)
            case first => as_aux_lemma =>
              rcases HR.out with ⟨rfl, rfl⟩ | ⟨g, o, cr, rfl, h1, h2, h3, h4, h5⟩
              · go_wp2_with (at_builtin; refine wpList_append_own_none rfl (.tmp 41) (.tmp 42) 78 rfl wr.heap.size 3 i0 1 Tryz.underlying78 hi _ _ _ rfl HLIT.out rfl ?_)
                go_meet
                refine ⟨Rest.of_owns (B := wr.heap.size) (e := 3) (n := 1) HLIT.out (Nat.lt_of_lt_of_le HQ.out.lt (Nat.le_refl _)) (Nat.le_refl _), HQ.out.alloc _, HBEL.out.alloc HBEL.out.size _⟩
              · have H5 := Lib.hid h5
                clear h5
                go_wp2_with (at_builtin; refine wpList_append_own _ rfl (.tmp 41) (.tmp 42) 78 rfl wr.heap.size 3 i0 (.int .i64 0) 1 8 Tryz.underlying78 hi hz0 hz1 hz2 rfl (by decide) _ _ _ rfl HLIT.out ⟨g, o, none⟩ r.length cr (nums .i64 r) rfl ?c0 ?c1 ?c2 ?c3 ?c4 ?c5 ?_)
                case c0 => rw [nums_length]; omega
                case c1 =>
                  intro e u he
                  have hel : e < r.length := by rw [← nums_length .i64 r]; exact (List.getElem?_eq_some_iff.1 he).1
                  rw [add_plain, World.cell?_alloc_past _ _ _ (by show g < _; exact h4)]
                  rw [nums_get _ _ _ hel] at he
                  rw [H5.out e hel]; exact he
                case c2 => exact nums_one _ _
                case c3 => unfold maxLen; omega
                case c4 => omega
                case c5 => simp
                intro v7 w7 ho hgr _
                have n1 : Below w.heap.size w w7 := (HBEL.out.alloc HBEL.out.size _).grown hgr (by simp; have := HBEL.out.size; omega) (fun k hk => by simp [Value.ownBlock] at hk; have := HBEL.out.size; omega)
                have R7 : Hid (Rest w7 w.heap.size v7 (x :: r)) := Rest.of_owns (B := wr.heap.size) (e := 3) (n := 1 + r.length) ho HQ.out.lt (by omega)
                have Q7 : Hid (RowAt w7 w.heap.size 3 (nums .i64 q)) := (HQ.out.alloc _).kept hgr (by simp [Value.ownBlock]; have := HQ.out.lt; omega)
                have N7 := Lib.hid n1
                clear ho hgr n1
                go_wp2_with fail
                go_meet
                exact ⟨R7.out, Q7.out, N7.out⟩
            case rest => as_aux_lemma =>
              obtain ⟨ra, qa, ba⟩ := hcut
              have RA := Lib.hid ra
              have QA := Lib.hid qa
              have BA := Lib.hid ba
              clear ra qa ba HR HQ HBEL HLIT hca
              have hb10 : dval lb < 10 ^ (j + 1) := by
                have h := dval_lt (lb.take (j + 1)) (fun x hx => DB.out x (List.mem_of_mem_take hx))
                rw [HV.out, HBL.out] at h
                exact h
              have hcutB : ∀ v wx, Rest wx w.heap.size v ((x :: r).take (j + 1 + 1)) → RowAt wx w.heap.size 3 (nums .i64 q) → Below w.heap.size w wx → CutB w la lb q ip j v wx := fun v wx h1 h2 h3 =>
                ⟨_, h1, h2, h3, ddiv_cut la lb q (x :: r) ip 0 (j + 1) hb10 HIN.out, by rw [List.length_take]; simp, by rw [List.length_take]; omega⟩
              have HCB := Lib.hid hcutB
              clear hcutB hb10
              rcases RA.out with ⟨_, h0⟩ | ⟨g, o, cr, rfl, h1, h2, h3, h4, h5⟩
              · cases h0
              rw [List.length_cons] at h2 ⊢
              have H5 := Lib.hid h5
              clear h1 h5
              go_upto_if 48 with (fail)
              go_cut [8] (fun v wx => CutB w la lb q ip j v wx)
              case first => as_aux_lemma =>
                by_cases hlong : j + 2 < r.length + 1
                · go_wp2_with fail
                  go_meet
                  refine HCB.out _ _ (.inr ⟨g, o, cr, ?_, ?_, ?_, h3, h4, fun e he => ?_⟩) QA.out BA.out
                  · congr 1; rw [List.length_take, List.length_cons]; omega
                  · rw [List.length_take, List.length_cons]; omega
                  · rw [List.length_take, List.length_cons]; omega
                  · rw [List.length_take] at he
                    rw [List.getD_eq_getElem?_getD, List.getElem?_take_of_lt (by omega), ← List.getD_eq_getElem?_getD]
                    exact H5.out e (by omega)
                · go_wp2_with fail
                  go_meet
                  refine HCB.out _ _ ?_ QA.out BA.out
                  rw [List.take_of_length_le (by rw [List.length_cons]; omega)]
                  exact RA.out
              case rest => as_aux_lemma =>
                clear HCB RA QA BA H5 HIN h2 h3 h4
                obtain ⟨r2, rb, qb, bb, ib, l1, l2⟩ := hcut
                have HST2 : Hid (DivI w w.heap.size j la lb ip (dval r2) u8 wc) := ⟨0, q, r2, rfl, rb, qb, ib, l1, l2, bb⟩
                clear rb qb bb ib l1 l2
                go_wp2_with fail
                go_loopg [8] (dval r2) (fun k v wr => DivI w w.heap.size j la lb ip k v wr)
                case atStart => exact HST2.out
                case round =>
                  obtain ⟨w1, rfl⟩ : ∃ w1 : World, w1 = wr := ⟨_, rfl⟩
                  obtain ⟨cc, q, r, rfl, rb, qb, ib, l1, l2, bb⟩ := hrel
                  have RB := Lib.hid rb
                  obtain ⟨ar, cr, rfl, hcr, hnr⟩ := rb.read
                  have QB := Lib.hid qb
                  have BB := Lib.hid bb
                  have IB := Lib.hid ib
                  have dr := Lib.hid ib.2.2.1
                  have hV : dval (lb.take (j + 1)) = dval lb := HV.out
                  have hg := greater_any ar (some ⟨gb, ob, none⟩) r.length (j + 1) cr d r (lb.take (j + 1)) w1 rfl HBL.out (by omega) (by omega) dr.out (fun x hx => DB.out x (List.mem_of_mem_take hx)) hnr (HBT.out _ bb)
                  rw [hV] at hg
                  by_cases hle : dval lb ≤ dval r
                  · obtain ⟨z, hz, hz0⟩ : ∃ z, z = cmpN (dval r) (dval lb) ∧ 0 ≤ z := ⟨_, rfl, by
                      rcases Nat.lt_or_ge (dval lb) (dval r) with h | h
                      · rw [cmpN_gt h]; omega
                      · rw [cmpN_eq (by omega)]; omega⟩
                    rw [← hz] at hg
                    have hmn := dminus_any ar (some ⟨gb, ob, none⟩) r.length (j + 1) cr d r (lb.take (j + 1)) w1 rfl HBL.out (by omega) (by omega) dr.out (fun x hx => DB.out x (List.mem_of_mem_take hx)) (by rw [hV]; exact hle) hnr (HBT.out _ bb)
                    rw [hV] at hmn
                    have HG := Lib.hid hg
                    have HM := Lib.hid hmn
                    have HLE := Lib.hid hle
                    have hql : q.length = n := by rw [ib.1]; exact HLA.out
                    have hqc : q.getD ip 0 = cc := ib.2.2.2.2.1
                    have hcc : cc < 10 := by rw [← hqc]; exact digD_lt q ip ib.2.1
                    have HQL := Lib.hid hql
                    have HQC := Lib.hid hqc
                    clear rb qb bb ib hnr hV hg hmn hle hz hql hqc
                    go_wp2_with fail
                    refine HG.out.mono ?_
                    rintro e w' ⟨rfl, rfl⟩
                    go_wp2_with fail
                    refine HM.out.mono ?_
                    rintro e w2 ⟨v2, rl, rfl, ho, ⟨hl1, hl2, hl3⟩, hb2⟩
                    have q2 := QB.out.below hb2 QB.out.lt
                    have R2 : Hid (Rest w2 w.heap.size v2 rl) := Rest.of_owns (B := w1.heap.size) (e := 3) ho QB.out.lt (by omega)
                    have B2 : Hid (Below w.heap.size w w2) := BB.out.trans (hb2.mono BB.out.size)
                    have cq : w2.cell? ⟨w.heap.size, ip, none⟩ = some (.int .i64 (cc : Int)) := by
                      rw [q2.cell (by rw [nums_length]; have := HQL.out; omega), nums_get _ _ _ (by have := HQL.out; omega), HQC.out]
                    have fq := q2.frozen ip
                    have Q2 := Lib.hid q2
                    have I2 := Lib.hid (ddiv_sub la lb q r rl ip cc (by have := HLA.out; omega) HLE.out hl2 hl3 IB.out)
                    have HL3 := Lib.hid hl3
                    clear ho hb2 q2 hl2 hl3
                    go_wp2_with fail
                    go_roundg (dval rl)
                    case measure => rw [HL3.out]; have := HLE.out; have := H0.out; omega
                    case rel =>
                      have e1 : ((cc : Int) + 1) = ((cc + 1 : Nat) : Int) := by omega
                      refine ⟨cc + 1, q.set ip (cc + 1), rl, rfl, R2.out.kept (only_setCell (only_refl _ _) (.inl rfl) _), ?_, I2.out, by omega, by omega, B2.out.setCell (p := ⟨w.heap.size, ip, none⟩) (Nat.le_refl _) _⟩
                      rw [e1, ← nums_set]
                      exact Q2.out.set ip _
                  · have hz : cmpN (dval r) (dval lb) = -1 := cmpN_lt (by omega)
                    rw [hz] at hg
                    have HG := Lib.hid hg
                    have HO := Lib.hid (ddiv_out la lb q r ip cc (by omega) ib)
                    clear rb qb bb ib hnr hV hg hle hz
                    go_wp2_with fail
                    refine HG.out.mono ?_
                    rintro e w' ⟨rfl, rfl⟩
                    go_wp2_with fail
                    go_roundw
                    case rel => exact ⟨ip, q, r, by omega, rfl, RB.out, QB.out, HO.out, l2, BB.out⟩
                    case measure => simp [intOf] <;> omega
          · obtain rfl : i = 0 := by omega
            have hend := ddiv_end la lb q r HAT.out
            have HE := Lib.hid hend
            clear hend
            obtain ⟨ar, cr, rfl, hcr, hnr⟩ := HR.out.read
            have HN := Lib.hid hnr
            clear hnr
            go_wp2_with fail
            go_ret2
            refine ⟨some ⟨w.heap.size, 0, none⟩, n, q, ar, cr, r, rfl, Nat.le_refl _, hcr, HAT.out.1.trans HLA.out, fun e he => ⟨_, 0, rfl, HQ.out.lt, ?_⟩, HN.out, HAT.out.2.1, HAT.out.2.2.1, HE.out.1, HE.out.2, by have := HLEN.out; omega, HBEL.out⟩
            rw [Nat.zero_add, HQ.out.cell (by rw [nums_length]; exact he), nums_get _ _ _ he]

end Go.Proofs.YtdgmpgejemgbbaaGreatDoor
