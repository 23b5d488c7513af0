/-
  The reference's digits: at, Greater, Zero, Minus. No condition.
-/
import Derived.Test.YtnikhbdjlipcbaaDoorIa
namespace Go.Proofs.YtnikhbdjlipcbaaDoor
open Go.RowKit

/-- A slice of numbers of kind k, as it lies in memory. -/
def Nums (k : IntKind) (w : World) (a : Option Addr) (l : List Nat) : Prop :=
  ∀ i, i < l.length → ∃ g o, a = some ⟨g, o, none⟩ ∧ g < w.heap.size ∧ w.cell? ⟨g, o + i, none⟩ = some (.int k ((l.getD i 0 : Nat) : Int))
theorem Nums.below {k : IntKind} {w w' : World} {a : Option Addr} {l : List Nat} (h : Nums k w a l) (hb : Below w.heap.size w w') : Nums k w' a l := fun i hi => by
  obtain ⟨g, o, e, hg, hc⟩ := h i hi
  exact ⟨g, o, e, Nat.lt_of_lt_of_le hg hb.size, (hb.cell (p := ⟨g, o + i, none⟩) hg).trans hc⟩
theorem Nums.drewN {k : IntKind} {w : World} {a : Option Addr} {l : List Nat} (h : Nums k w a l) (n : Nat) : Nums k (w.drewN n) a l := h
theorem Nums.nil (k : IntKind) (w : World) (a : Option Addr) : Nums k w a [] := fun _ hi => absurd hi (Nat.not_lt_zero _)
theorem Nums.take {k : IntKind} {w : World} {a : Option Addr} {l : List Nat} (h : Nums k w a l) (n : Nat) : Nums k w a (l.take n) := fun i hi => by
  rw [List.length_take] at hi
  obtain ⟨g, o, e, hg, hc⟩ := h i (by omega)
  refine ⟨g, o, e, hg, hc.trans ?_⟩
  rw [List.getD_eq_getElem?_getD, List.getD_eq_getElem?_getD, List.getElem?_take_of_lt (by omega)]

set_option maxHeartbeats 400000 in
theorem at_any (a : Option Addr) (n c i : Nat) (l : List Nat) (w : World) (hl : l.length = n) (_hn : n ≤ 1000000) (h : Nums .i64 w a l) :
    Calls Tryd.prog 107 #[.slice a n c, .int .i64 i] w fun e w' => e = .returned (.int .i64 ((l.getD i 0 : Nat) : Int)) ∧ w = w' := by
  by_cases hi : i < n
  · obtain ⟨g, o, rfl, hg, hc⟩ := h i (by omega)
    obtain ⟨x, hx⟩ : ∃ x, x = l.getD i 0 := ⟨_, rfl⟩
    rw [← hx] at hc ⊢
    clear h hl hg hx
    go_enter Tryd.func107, Tryd.ntmps107
    go_wp2
    go_ret
    exact ⟨rfl, rfl⟩
  · have hx : l.getD i 0 = 0 := by rw [List.getD_eq_getElem?_getD, List.getElem?_eq_none (by omega)]; rfl
    rw [hx]
    clear h hl hx
    go_enter Tryd.func107, Tryd.ntmps107
    go_wp2
    go_ret
    exact ⟨rfl, rfl⟩

theorem getD_out {l : List Nat} {i : Nat} (h : l.length ≤ i) : l.getD i 0 = 0 := by
  rw [List.getD_eq_getElem?_getD, List.getElem?_eq_none h]; rfl

/-- From the top down: what is above place i agrees. -/
def GrR (la lb : List Nat) (M : Nat) (i : Value) : Prop := ∃ k : Int, -1 ≤ k ∧ k < M ∧ i = .int .i64 k ∧ ∀ j : Nat, k < j → la.getD j 0 = lb.getD j 0
theorem grR_start (la lb : List Nat) (M : Nat) (h1 : la.length ≤ M) (h2 : lb.length ≤ M) : GrR la lb M (.int .i64 ((M : Int) - 1)) :=
  ⟨(M : Int) - 1, by omega, by omega, rfl, fun j hj => by rw [getD_out (by omega), getD_out (by omega)]⟩

set_option maxHeartbeats 1000000 in
theorem greater_l (a b : Option Addr) (n m c d : Nat) (la lb : List Nat) (w : World) (hla : la.length = n) (hlb : lb.length = m) (hn : n ≤ 1000000) (hm : m ≤ 1000000)
    (da : ∀ x ∈ la, x < 10) (db : ∀ x ∈ lb, x < 10) (ha : Nums .i64 w a la) (hb : Nums .i64 w b lb) (hle : m ≤ n) :
    Calls Tryd.prog 66 #[.slice a n c, .slice b m d] w fun e w' => e = .returned (.int .i64 (cmpN (dval la) (dval lb))) ∧ w = w' := by
  have HS := Lib.hid (grR_start la lb n (by omega) (by omega))
  have hA : ∀ j : Nat, Calls Tryd.prog 107 #[.slice a n c, .int .i64 j] w fun e w' => e = .returned (.int .i64 ((la.getD j 0 : Nat) : Int)) ∧ w = w' := fun j => at_any a n c j la w hla hn ha
  have hB : ∀ j : Nat, Calls Tryd.prog 107 #[.slice b m d, .int .i64 j] w fun e w' => e = .returned (.int .i64 ((lb.getD j 0 : Nat) : Int)) ∧ w = w' := fun j => at_any b m d j lb w hlb hm hb
  have HA := Lib.hid hA
  have HB := Lib.hid hB
  have DA := Lib.hid da
  have DB := Lib.hid db
  clear hla hlb ha hb da db hA hB
  go_enter Tryd.func66, Tryd.ntmps66
  go_wp2_with fail
  go_loop [5] (fun i => GrR la lb n i) (fun i => (intOf i + 1).toNat)
  case atStart => exact HS.out
  case round =>
    obtain ⟨k, hk1, hk2, rfl, he⟩ := hrel
    have HE := Lib.hid he
    clear he
    by_cases hk : 0 ≤ k
    · obtain ⟨j, rfl⟩ := Int.eq_ofNat_of_zero_le hk
      obtain ⟨x, hx⟩ : ∃ x, x = la.getD j 0 := ⟨_, rfl⟩
      obtain ⟨y, hy⟩ : ∃ y, y = lb.getD j 0 := ⟨_, rfl⟩
      have cA := HA.out j
      have cB := HB.out j
      rw [← hx] at cA
      rw [← hy] at cB
      have CA := Lib.hid cA
      have CB := Lib.hid cB
      have HX := Lib.hid hx
      have HY := Lib.hid hy
      clear hx hy cA cB
      have hr : (x = y → cmpN (dval la) (dval lb) = cmpN (dval la) (dval lb) ∧ ∀ i : Nat, (j : Int) - 1 < i → la.getD i 0 = lb.getD i 0) ∧ (y < x → cmpN (dval la) (dval lb) = 1) ∧ (x < y → cmpN (dval la) (dval lb) = -1) := by
        refine ⟨fun e => ⟨rfl, fun i hi => ?_⟩, fun h => cmpN_gt (dcmp_top lb la j DB.out (fun i hi => (HE.out i (by omega)).symm) (by rw [← HX.out, ← HY.out]; exact h)), fun h => cmpN_lt (dcmp_top la lb j DA.out (fun i hi => HE.out i (by omega)) (by rw [← HX.out, ← HY.out]; exact h))⟩
        by_cases hij : i = j
        · rw [hij, ← HX.out, ← HY.out, e]
        · exact HE.out i (by omega)
      have HR := Lib.hid hr
      clear hr
      rcases Nat.lt_trichotomy x y with h | h | h
      · have t1 : ((x : Int) != (y : Int)) = true := by rw [bne_iff_ne]; omega
        have HQ := Lib.hid (HR.out.2.2 h)
        go_wp2_with fail
        refine CA.out.mono ?_
        rintro e w' ⟨rfl, rfl⟩
        go_wp2_with fail
        refine CB.out.mono ?_
        rintro e w' ⟨rfl, rfl⟩
        go_wp2_with fail
        refine CA.out.mono ?_
        rintro e w' ⟨rfl, rfl⟩
        go_wp2_with fail
        refine CB.out.mono ?_
        rintro e w' ⟨rfl, rfl⟩
        go_wp2_with fail
        go_ret
        exact ⟨ret_int HQ.out.symm, rfl⟩
      · have HQ := Lib.hid (HR.out.1 h).2
        have HXY := Lib.hid h
        have t1 : ((x : Int) != (y : Int)) = false := by rw [h]; simp
        clear h
        go_wp2_with fail
        refine CA.out.mono ?_
        rintro e w' ⟨rfl, rfl⟩
        go_wp2_with fail
        refine CB.out.mono ?_
        rintro e w' ⟨rfl, rfl⟩
        go_wp2_with fail
        go_round
        case rel => exact ⟨(j : Int) - 1, by omega, by omega, rfl, HQ.out⟩
        case measure => simp [intOf] <;> omega
      · have t1 : ((x : Int) != (y : Int)) = true := by rw [bne_iff_ne]; omega
        have HQ := Lib.hid (HR.out.2.1 h)
        go_wp2_with fail
        refine CA.out.mono ?_
        rintro e w' ⟨rfl, rfl⟩
        go_wp2_with fail
        refine CB.out.mono ?_
        rintro e w' ⟨rfl, rfl⟩
        go_wp2_with fail
        refine CA.out.mono ?_
        rintro e w' ⟨rfl, rfl⟩
        go_wp2_with fail
        refine CB.out.mono ?_
        rintro e w' ⟨rfl, rfl⟩
        go_wp2_with fail
        go_ret
        exact ⟨ret_int HQ.out.symm, rfl⟩
    · have HQ := Lib.hid (cmpN_eq (dval_ext la lb fun j => HE.out j (by omega)))
      go_wp2_with fail
      go_ret
      exact ⟨ret_int HQ.out.symm, rfl⟩
set_option maxHeartbeats 1000000 in
theorem greater_r (a b : Option Addr) (n m c d : Nat) (la lb : List Nat) (w : World) (hla : la.length = n) (hlb : lb.length = m) (hn : n ≤ 1000000) (hm : m ≤ 1000000)
    (da : ∀ x ∈ la, x < 10) (db : ∀ x ∈ lb, x < 10) (ha : Nums .i64 w a la) (hb : Nums .i64 w b lb) (hle : n < m) :
    Calls Tryd.prog 66 #[.slice a n c, .slice b m d] w fun e w' => e = .returned (.int .i64 (cmpN (dval la) (dval lb))) ∧ w = w' := by
  have HS := Lib.hid (grR_start la lb m (by omega) (by omega))
  have hA : ∀ j : Nat, Calls Tryd.prog 107 #[.slice a n c, .int .i64 j] w fun e w' => e = .returned (.int .i64 ((la.getD j 0 : Nat) : Int)) ∧ w = w' := fun j => at_any a n c j la w hla hn ha
  have hB : ∀ j : Nat, Calls Tryd.prog 107 #[.slice b m d, .int .i64 j] w fun e w' => e = .returned (.int .i64 ((lb.getD j 0 : Nat) : Int)) ∧ w = w' := fun j => at_any b m d j lb w hlb hm hb
  have HA := Lib.hid hA
  have HB := Lib.hid hB
  have DA := Lib.hid da
  have DB := Lib.hid db
  clear hla hlb ha hb da db hA hB
  go_enter Tryd.func66, Tryd.ntmps66
  go_wp2_with fail
  go_loop [5] (fun i => GrR la lb m i) (fun i => (intOf i + 1).toNat)
  case atStart => exact HS.out
  case round =>
    obtain ⟨k, hk1, hk2, rfl, he⟩ := hrel
    have HE := Lib.hid he
    clear he
    by_cases hk : 0 ≤ k
    · obtain ⟨j, rfl⟩ := Int.eq_ofNat_of_zero_le hk
      obtain ⟨x, hx⟩ : ∃ x, x = la.getD j 0 := ⟨_, rfl⟩
      obtain ⟨y, hy⟩ : ∃ y, y = lb.getD j 0 := ⟨_, rfl⟩
      have cA := HA.out j
      have cB := HB.out j
      rw [← hx] at cA
      rw [← hy] at cB
      have CA := Lib.hid cA
      have CB := Lib.hid cB
      have HX := Lib.hid hx
      have HY := Lib.hid hy
      clear hx hy cA cB
      have hr : (x = y → cmpN (dval la) (dval lb) = cmpN (dval la) (dval lb) ∧ ∀ i : Nat, (j : Int) - 1 < i → la.getD i 0 = lb.getD i 0) ∧ (y < x → cmpN (dval la) (dval lb) = 1) ∧ (x < y → cmpN (dval la) (dval lb) = -1) := by
        refine ⟨fun e => ⟨rfl, fun i hi => ?_⟩, fun h => cmpN_gt (dcmp_top lb la j DB.out (fun i hi => (HE.out i (by omega)).symm) (by rw [← HX.out, ← HY.out]; exact h)), fun h => cmpN_lt (dcmp_top la lb j DA.out (fun i hi => HE.out i (by omega)) (by rw [← HX.out, ← HY.out]; exact h))⟩
        by_cases hij : i = j
        · rw [hij, ← HX.out, ← HY.out, e]
        · exact HE.out i (by omega)
      have HR := Lib.hid hr
      clear hr
      rcases Nat.lt_trichotomy x y with h | h | h
      · have t1 : ((x : Int) != (y : Int)) = true := by rw [bne_iff_ne]; omega
        have HQ := Lib.hid (HR.out.2.2 h)
        go_wp2_with fail
        refine CA.out.mono ?_
        rintro e w' ⟨rfl, rfl⟩
        go_wp2_with fail
        refine CB.out.mono ?_
        rintro e w' ⟨rfl, rfl⟩
        go_wp2_with fail
        refine CA.out.mono ?_
        rintro e w' ⟨rfl, rfl⟩
        go_wp2_with fail
        refine CB.out.mono ?_
        rintro e w' ⟨rfl, rfl⟩
        go_wp2_with fail
        go_ret
        exact ⟨ret_int HQ.out.symm, rfl⟩
      · have HQ := Lib.hid (HR.out.1 h).2
        have HXY := Lib.hid h
        have t1 : ((x : Int) != (y : Int)) = false := by rw [h]; simp
        clear h
        go_wp2_with fail
        refine CA.out.mono ?_
        rintro e w' ⟨rfl, rfl⟩
        go_wp2_with fail
        refine CB.out.mono ?_
        rintro e w' ⟨rfl, rfl⟩
        go_wp2_with fail
        go_round
        case rel => exact ⟨(j : Int) - 1, by omega, by omega, rfl, HQ.out⟩
        case measure => simp [intOf] <;> omega
      · have t1 : ((x : Int) != (y : Int)) = true := by rw [bne_iff_ne]; omega
        have HQ := Lib.hid (HR.out.2.1 h)
        go_wp2_with fail
        refine CA.out.mono ?_
        rintro e w' ⟨rfl, rfl⟩
        go_wp2_with fail
        refine CB.out.mono ?_
        rintro e w' ⟨rfl, rfl⟩
        go_wp2_with fail
        refine CA.out.mono ?_
        rintro e w' ⟨rfl, rfl⟩
        go_wp2_with fail
        refine CB.out.mono ?_
        rintro e w' ⟨rfl, rfl⟩
        go_wp2_with fail
        go_ret
        exact ⟨ret_int HQ.out.symm, rfl⟩
    · have HQ := Lib.hid (cmpN_eq (dval_ext la lb fun j => HE.out j (by omega)))
      go_wp2_with fail
      go_ret
      exact ⟨ret_int HQ.out.symm, rfl⟩
theorem greater_any (a b : Option Addr) (n m c d : Nat) (la lb : List Nat) (w : World) (hla : la.length = n) (hlb : lb.length = m) (hn : n ≤ 1000000) (hm : m ≤ 1000000)
    (da : ∀ x ∈ la, x < 10) (db : ∀ x ∈ lb, x < 10) (ha : Nums .i64 w a la) (hb : Nums .i64 w b lb) :
    Calls Tryd.prog 66 #[.slice a n c, .slice b m d] w fun e w' => e = .returned (.int .i64 (cmpN (dval la) (dval lb))) ∧ w = w' := by
  rcases Nat.lt_or_ge n m with h | h
  · exact greater_r a b n m c d la lb w hla hlb hn hm da db ha hb h
  · exact greater_l a b n m c d la lb w hla hlb hn hm da db ha hb h

set_option maxHeartbeats 1000000 in
theorem zero_any (a : Option Addr) (n c : Nat) (la : List Nat) (w : World) (hla : la.length = n) (hn : n ≤ 1000000) (da : ∀ x ∈ la, x < 10) (ha : Nums .i64 w a la) :
    Calls Tryd.prog 102 #[.slice a n c] w fun e w' => e = .returned (.bool (decide (dval la = 0))) ∧ w = w' := by
  have hg := greater_any a none n 0 c 0 la [] w hla rfl hn (by omega) da (by simp) ha (Nums.nil _ _ _)
  by_cases h : dval la = 0
  · have e : cmpN (dval la) (dval []) = 0 := cmpN_eq h
    have e2 : decide (dval la = 0) = true := by simpa using h
    rw [e] at hg
    rw [e2]
    have HG := Lib.hid hg
    clear hg e e2 h hla da ha
    go_enter Tryd.func102, Tryd.ntmps102
    go_wp2_with fail
    refine HG.out.mono ?_
    rintro e w' ⟨rfl, rfl⟩
    go_wp2_with fail
    go_ret
    exact ⟨rfl, rfl⟩
  · have e : cmpN (dval la) (dval []) = 1 := cmpN_gt (by show 0 < _; omega)
    have e2 : decide (dval la = 0) = false := by simpa using h
    rw [e] at hg
    rw [e2]
    have HG := Lib.hid hg
    clear hg e e2 h hla da ha
    go_enter Tryd.func102, Tryd.ntmps102
    go_wp2_with fail
    refine HG.out.mono ?_
    rintro e w' ⟨rfl, rfl⟩
    go_wp2_with fail
    go_ret
    exact ⟨rfl, rfl⟩

end Go.Proofs.YtnikhbdjlipcbaaDoor
