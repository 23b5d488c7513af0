/-
  Plain laws of a stable merge sort by a key: blocks of a list. No program in sight. slices.swapRangeCmpFunc and slices.rotateCmpFunc at ints: blocks change places. slices.insertionSortCmpFunc at ints, by a key.
-/
import Derived.Test.YtnikhbdjlipcbaaGreatDoorWb
import Derived.RegionTactic
import Derived.ChangeAlike
import Derived.BigRegion
namespace Go.Proofs.YtnikhbdjlipcbaaGreatDoor.Spl

section
variable (key : Int → Int)
/-- Sorted by the key; equal keys stand in the order of the values. -/
def Srt (l : List Int) : Prop := l.Pairwise fun x y => key x ≤ key y
def Stb (l : List Int) : Prop := l.Pairwise fun x y => key x = key y → x < y
variable {key}

theorem srt_append {l m : List Int} : Srt key (l ++ m) ↔ Srt key l ∧ Srt key m ∧ ∀ x ∈ l, ∀ y ∈ m, key x ≤ key y := List.pairwise_append
theorem stb_append {l m : List Int} : Stb key (l ++ m) ↔ Stb key l ∧ Stb key m ∧ ∀ x ∈ l, ∀ y ∈ m, key x = key y → x < y := List.pairwise_append
theorem srt_nil : Srt key [] := List.Pairwise.nil
theorem srt_one (x : Int) : Srt key [x] := List.pairwise_singleton _ _

theorem stb_perm_left {A M N Z : List Int} (h : Stb key (A ++ M ++ Z)) (hp : N.Perm M) (hN : Stb key N) : Stb key (A ++ N ++ Z) := by
  rw [List.append_assoc, stb_append, stb_append] at h ⊢
  obtain ⟨h1, ⟨h2, h3, h4⟩, h5⟩ := h
  refine ⟨h1, ⟨hN, h3, fun x hx y hy => h4 x (hp.mem_iff.1 hx) y hy⟩, fun x hx y hy => ?_⟩
  rw [List.mem_append] at hy
  exact h5 x hx y (by rw [List.mem_append]; exact hy.imp hp.mem_iff.1 id)
theorem stb_mid {A M Z : List Int} (h : Stb key (A ++ M ++ Z)) : Stb key M := by
  rw [List.append_assoc, stb_append, stb_append] at h
  exact h.2.1.1
/-- Two blocks change places, all of the second below all of the first. -/
theorem stb_rot {A U V Z : List Int} (h : Stb key (A ++ (U ++ V) ++ Z)) (hlt : ∀ x ∈ U, ∀ y ∈ V, key y < key x) : Stb key (A ++ (V ++ U) ++ Z) := by
  refine stb_perm_left h List.perm_append_comm ?_
  have := stb_mid h
  rw [stb_append] at this ⊢
  exact ⟨this.2.1, this.1, fun x hx y hy e => by have := hlt y hy x hx; omega⟩

/-- One element goes into a sorted block. -/
theorem srt_insert {P Q : List Int} {x : Int} (h : Srt key (P ++ Q)) (h1 : ∀ y ∈ P, key y ≤ key x) (h2 : ∀ y ∈ Q, key x ≤ key y) : Srt key (P ++ ([x] ++ Q)) := by
  rw [srt_append] at h ⊢
  obtain ⟨a, b, c⟩ := h
  refine ⟨a, srt_append.2 ⟨srt_one x, b, fun y hy z hz => by simp at hy; subst hy; exact h2 z hz⟩, fun y hy z hz => ?_⟩
  rw [List.mem_append] at hz
  rcases hz with hz | hz
  · simp at hz; subst hz; exact h1 y hy
  · exact c y hy z hz

/-- The four blocks of a merge. -/
theorem srt_merge {X1 X2 Y1 Y2 M1 M2 : List Int} (hX : Srt key (X1 ++ X2)) (hY : Srt key (Y1 ++ Y2)) (h1 : ∀ x ∈ X2, ∀ y ∈ Y1, key y < key x) (h2 : ∀ x ∈ X1, ∀ y ∈ Y2, key x ≤ key y)
    (p1 : M1.Perm (X1 ++ Y1)) (p2 : M2.Perm (X2 ++ Y2)) (s1 : Srt key M1) (s2 : Srt key M2) : Srt key (M1 ++ M2) ∧ (M1 ++ M2).Perm (X1 ++ X2 ++ (Y1 ++ Y2)) := by
  rw [srt_append] at hX hY
  constructor
  · rw [srt_append]
    refine ⟨s1, s2, fun x hx y hy => ?_⟩
    have hx := p1.mem_iff.1 hx
    have hy := p2.mem_iff.1 hy
    rw [List.mem_append] at hx hy
    rcases hx with hx | hx <;> rcases hy with hy | hy
    · exact hX.2.2 x hx y hy
    · exact h2 x hx y hy
    · exact Int.le_of_lt (h1 y hy x hx)
    · exact hY.2.2 x hx y hy
  · refine (p1.append p2).trans ?_
    simp only [List.append_assoc]
    refine List.Perm.append_left _ ?_
    rw [← List.append_assoc, ← List.append_assoc]
    exact List.Perm.append_right _ List.perm_append_comm

/-- From one end to the whole block. -/
theorem srt_last {l : List Int} {x : Int} (h : Srt key (l ++ [x])) : ∀ y ∈ l, key y ≤ key x := fun y hy => (srt_append.1 h).2.2 y hy x (by simp)
theorem srt_first {l : List Int} {x : Int} (h : Srt key (x :: l)) : ∀ y ∈ l, key x ≤ key y := (List.pairwise_cons.1 h).1
theorem srt_idx {l : List Int} (h : Srt key l) (i j : Nat) (hij : i ≤ j) (hj : j < l.length) : key (l[i]?.getD 0) ≤ key (l[j]?.getD 0) := by
  rw [List.getElem?_eq_getElem (by omega), List.getElem?_eq_getElem hj]
  by_cases e : i = j
  · subst e; exact Int.le_refl _
  · exact List.pairwise_iff_getElem.1 h i j (by omega) hj (by omega)
theorem mem_take_idx {l : List Int} {k : Nat} {x : Int} (h : x ∈ l.take k) : ∃ i, i < k ∧ i < l.length ∧ x = l[i]?.getD 0 := by
  obtain ⟨i, hi, rfl⟩ := List.mem_iff_getElem.1 h
  simp only [List.length_take] at hi
  refine ⟨i, by omega, by omega, ?_⟩
  rw [List.getElem?_eq_getElem (by omega)]; simp
theorem mem_drop_idx {l : List Int} {k : Nat} {x : Int} (h : x ∈ l.drop k) : ∃ i, k ≤ i ∧ i < l.length ∧ x = l[i]?.getD 0 := by
  obtain ⟨i, hi, rfl⟩ := List.mem_iff_getElem.1 h
  simp only [List.length_drop] at hi
  refine ⟨k + i, by omega, by omega, ?_⟩
  rw [List.getElem?_eq_getElem (by omega)]; simp
end

/-- Two cells that stand apart change places. -/
theorem swap_far (P M S : List Int) (x y : Int) : ((P ++ [x] ++ M ++ [y] ++ S).set P.length y).set (P.length + 1 + M.length) x = P ++ [y] ++ M ++ [x] ++ S := by
  rw [show P ++ [x] ++ M ++ [y] ++ S = P ++ (x :: (M ++ y :: S)) by simp, List.set_append_right _ _ (Nat.le_refl _), Nat.sub_self, List.set_cons_zero,
    List.set_append_right _ _ (by omega), show P.length + 1 + M.length - P.length = M.length + 1 by omega, List.set_cons_succ, List.set_append_right _ _ (Nat.le_refl _), Nat.sub_self, List.set_cons_zero]
  simp
theorem swap_at {P M S : List Int} {x y : Int} {p q : Nat} (hp : P.length = p) (hq : P.length + 1 + M.length = q) : ((P ++ [x] ++ M ++ [y] ++ S).set p y).set q x = P ++ [y] ++ M ++ [x] ++ S := by
  subst hp; subst hq; exact swap_far P M S x y
theorem get_first (P M S : List Int) (x y : Int) : (P ++ [x] ++ M ++ [y] ++ S)[P.length]?.getD 0 = x := by simp
theorem get_second (P M S : List Int) (x y : Int) : (P ++ [x] ++ M ++ [y] ++ S)[P.length + 1 + M.length]?.getD 0 = y := by
  rw [show P ++ [x] ++ M ++ [y] ++ S = (P ++ [x] ++ M) ++ (y :: S) by simp, List.getElem?_append_right (by simp; omega)]
  have e : P.length + 1 + M.length - (P ++ [x] ++ M).length = 0 := by simp; omega
  rw [e]
  rfl

/-- The blocks U and V (of one length) in the middle of changing places: k cells are done. -/
def swapL (A U W V Z : List Int) (k : Nat) : List Int := A ++ (V.take k ++ U.drop k) ++ W ++ (U.take k ++ V.drop k) ++ Z
theorem swapL_zero (A U W V Z : List Int) : swapL A U W V Z 0 = A ++ U ++ W ++ V ++ Z := by simp [swapL]
theorem swapL_all (A U W V Z : List Int) (h : U.length = V.length) : swapL A U W V Z U.length = A ++ V ++ W ++ U ++ Z := by
  unfold swapL
  rw [List.take_of_length_le (by omega), List.drop_of_length_le (Nat.le_refl _), List.take_of_length_le (Nat.le_refl _), List.drop_of_length_le (by omega)]
  simp
theorem swapL_length (A U W V Z : List Int) (k : Nat) (h : U.length = V.length) : (swapL A U W V Z k).length = A.length + U.length + W.length + V.length + Z.length := by
  simp [swapL]; omega
theorem swapL_split (A U W V Z : List Int) (k : Nat) (h : U.length = V.length) (hk : k < U.length) :
    ∃ P M S x y, swapL A U W V Z k = P ++ [x] ++ M ++ [y] ++ S ∧ swapL A U W V Z (k + 1) = P ++ [y] ++ M ++ [x] ++ S ∧ P.length = A.length + k ∧ P.length + 1 + M.length = A.length + U.length + W.length + k := by
  refine ⟨A ++ V.take k, U.drop (k + 1) ++ W ++ U.take k, V.drop (k + 1) ++ Z, U[k], V[k]'(by omega), ?_, ?_, ?_, ?_⟩
  · unfold swapL
    rw [List.drop_eq_getElem_cons hk, List.drop_eq_getElem_cons (show k < V.length by omega)]
    simp only [List.append_assoc, List.cons_append, List.nil_append]
  · unfold swapL
    rw [List.take_succ_eq_append_getElem hk, List.take_succ_eq_append_getElem (show k < V.length by omega)]
    simp only [List.append_assoc, List.cons_append, List.nil_append]
  · simp; omega
  · simp; omega

end Go.Proofs.YtnikhbdjlipcbaaGreatDoor.Spl

namespace Go.Proofs.YtnikhbdjlipcbaaGreatDoor.Spl
open Go.RowKit

/-- Behind a step of the sort: block g holds L; nothing else that was there has turned. -/
def RowPost (w : World) (g : Nat) (L : List Int) (e : Ending) (w' : World) : Prop := e = .returned (.tuple #[]) ∧ RowAt w' g 3 (ints L) ∧ w.grownBy w' (some g)

def SwapRel (w : World) (g n : Nat) (A U W V Z : List Int) (i : Value) (wr : World) : Prop :=
  ∃ k : Nat, k ≤ n ∧ i = .int .i64 k ∧ RowAt wr g 3 (ints (swapL A U W V Z k)) ∧ w.grownBy wr (some g)

set_option maxHeartbeats 1000000 in
set_option maxRecDepth 100000 in
theorem swapRange_any (g len cap a b n : Nat) (A U W V Z : List Int) (f : Value) (w : World) (hA : A.length = a) (hU : U.length = n) (hV : V.length = n) (hb : a + n + W.length = b)
    (hlen : A.length + U.length + W.length + V.length + Z.length = len) (hbig : len ≤ 4611686018427387903)
    (hr : RowAt w g 3 (ints (A ++ U ++ W ++ V ++ Z))) :
    Calls Tryz.prog 124 #[.slice (some ⟨g, 0, none⟩) len cap, .int .i64 a, .int .i64 b, .int .i64 n, f] w (RowPost w g (A ++ V ++ W ++ U ++ Z)) := by
  have hb2 : b + n ≤ len := by omega
  have HA := Lib.hid hA
  have HU := Lib.hid hU
  have HV := Lib.hid hV
  have HB := Lib.hid hb
  have HL := Lib.hid hlen
  have hab : a + n ≤ b := by omega
  clear hA hU hV hb hlen
  go_enter Tryz.func124, Tryz.ntmps124
  go_wp2_with fail
  go_loopw [10] (SwapRel w g n A U W V Z) (fun i _ => n - (intOf i).toNat)
  case atStart => exact ⟨0, Nat.zero_le _, rfl, by rw [swapL_zero]; exact hr, only_refl _ _⟩
  case round =>
    obtain ⟨k, hk, rfl, ro, gr⟩ := hrel
    by_cases hlt : k < n
    · obtain ⟨P, M, S, x, y, e1, e2, e3, e4⟩ := swapL_split A U W V Z k (by rw [HU.out, HV.out]) (by rw [HU.out]; exact hlt)
      have hl := swapL_length A U W V Z k (by rw [HU.out, HV.out])
      rw [HL.out] at hl
      have e5 : P.length = a + k := by rw [e3, HA.out]
      have e6 : P.length + 1 + M.length = b + k := by rw [e4, HA.out, HU.out, ← HB.out]
      have c1 : wr.cell? ⟨g, a + k, none⟩ = some (.int .i64 x) := by
        rw [ro.cell (by rw [ints_length, hl]; omega), ints_get _ _ (by rw [hl]; omega), e1, ← e5, get_first]
      have c2 : wr.cell? ⟨g, b + k, none⟩ = some (.int .i64 y) := by
        rw [ro.cell (by rw [ints_length, hl]; omega), ints_get _ _ (by rw [hl]; omega), e1, ← e6, get_second]
      have c3 := ro.frozen (a + k)
      have c4 := ro.frozen (b + k)
      have ro' := (ro.set (a + k) (.int .i64 y)).set (b + k) (.int .i64 x)
      rw [ints_set, ints_set, e1, swap_at e5 e6, ← e2] at ro'
      have hne : (⟨g, a + k, none⟩ : Addr) ≠ ⟨g, b + k, none⟩ := fun e => by injection e; omega
      have hne2 : (⟨g, b + k, none⟩ : Addr) ≠ ⟨g, a + k, none⟩ := fun e => by injection e; omega
      clear e1 e2 e3 e4 e5 e6 hl ro
      go_wp2_with fail
      go_region
      go_wp2_with fail
      go_roundw
      case rel => exact ⟨k + 1, by omega, by go_num, ro', only_drewN (only_setCell (only_setCell gr (.inl rfl) _) (.inl rfl) _) 1⟩
      case measure => simp [intOf]; omega
    · have e : swapL A U W V Z k = A ++ V ++ W ++ U ++ Z := by
        have : k = U.length := by have := HU.out; omega
        rw [this]; exact swapL_all A U W V Z (by rw [HU.out, HV.out])
      rw [e] at ro
      clear e
      go_wp2_with fail
      go_end0
      exact ⟨rfl, ro, gr⟩

theorem swapRange_int (g len cap : Nat) (a b n : Int) (A U W V Z L L' : List Int) (f : Value) (w : World) (ha : a = (A.length : Nat)) (hn : n = (U.length : Nat)) (hV : V.length = U.length) (hb : b = (A.length + U.length + W.length : Nat))
    (hlen : L.length = len) (hbig : len ≤ 4611686018427387903) (hL : L = A ++ U ++ W ++ V ++ Z) (hL' : A ++ V ++ W ++ U ++ Z = L')
    (hr : RowAt w g 3 (ints L)) :
    Calls Tryz.prog 124 #[.slice (some ⟨g, 0, none⟩) len cap, .int .i64 a, .int .i64 b, .int .i64 n, f] w (RowPost w g L') := by
  rw [ha, hn, hb, ← hL']
  rw [hL] at hr hlen
  exact swapRange_any g len cap A.length _ U.length A U W V Z f w rfl rfl hV rfl (by rw [← hlen]; simp; omega) hbig hr

/-- The rotation on its way: U and V stand before V and U; what is done lies outside. -/
def RotRel (w : World) (g m : Nat) (L A Z : List Int) (X Y : List Int) (i j : Value) (wr : World) : Prop :=
  ∃ (P U V S : List Int), i = .int .i64 (U.length : Nat) ∧ j = .int .i64 (V.length : Nat) ∧ A.length + P.length + U.length = m ∧ 1 ≤ U.length ∧ 1 ≤ V.length ∧
    P ++ (V ++ U) ++ S = Y ++ X ∧ A.length + P.length + U.length + V.length + S.length + Z.length = L.length ∧
    RowAt wr g 3 (ints (A ++ P ++ U ++ V ++ S ++ Z)) ∧ w.grownBy wr (some g)

set_option maxHeartbeats 1000000 in
set_option maxRecDepth 100000 in
theorem rotate_any (g len cap a m b : Nat) (A X Y Z : List Int) (f : Value) (w : World) (hA : A.length = a) (hX : a + X.length = m) (hY : m + Y.length = b) (hx : 1 ≤ X.length) (hy : 1 ≤ Y.length)
    (hlen : (A ++ X ++ Y ++ Z).length = len) (hbig : len ≤ 4611686018427387903)
    (hr : RowAt w g 3 (ints (A ++ X ++ Y ++ Z))) :
    Calls Tryz.prog 105 #[.slice (some ⟨g, 0, none⟩) len cap, .int .i64 a, .int .i64 m, .int .i64 b, f] w (RowPost w g (A ++ (Y ++ X) ++ Z)) := by
  have hl2 : A.length + X.length + Y.length + Z.length = len := by rw [← hlen]; simp; omega
  have HA := Lib.hid hA
  have HX := Lib.hid hX
  have HY := Lib.hid hY
  have HL := Lib.hid hlen
  have HL2 := Lib.hid hl2
  have b1 : a < m := by omega
  have b2 : m < b := by omega
  have b3 : b ≤ len := by omega
  have x1 : (m : Int) - a = (X.length : Nat) := by omega
  have x2 : (b : Int) - m = (Y.length : Nat) := by omega
  have HX1 := Lib.hid x1
  have HX2 := Lib.hid x2
  clear hA hX hY hlen hl2 x1 x2
  go_enter Tryz.func105, Tryz.ntmps105
  go_wp2_with fail
  rw [HX1.out, HX2.out]
  go_loopw [10, 11] (RotRel w g m (A ++ X ++ Y ++ Z) A Z X Y) (fun i j _ => (intOf i).toNat + (intOf j).toNat)
  case atStart => exact ⟨[], X, Y, [], rfl, rfl, by have := HX.out; have := HA.out; simp; omega, hx, hy, by simp, by simp; omega, by simpa using hr, only_refl _ _⟩
  case round =>
    obtain ⟨P, U, V, S, rfl, rfl, h1, h2, h3, h4, h5, ro, gr⟩ := hrel
    have H4 := Lib.hid h4
    have hl : Hid ((A ++ P ++ U ++ V ++ S ++ Z).length = len) := by
      have := HL2.out; have := h5
      show _ = _
      simp at *; omega
    have H1 := Lib.hid h1
    have u1 : U.length ≤ m := by omega
    have v1 : m + V.length ≤ len := by have := HL2.out; simp at h5; omega
    clear h4 h5 h1 hr
    rcases Nat.lt_trichotomy U.length V.length with hc | hc | hc
    · have t1 : ((U.length : Int) != V.length) = true := by rw [bne_iff_ne]; omega
      have t2 : decide ((V.length : Int) < U.length) = false := by simp; omega
      have e1 : (V.take (V.length - U.length)).length = V.length - U.length := by simp
      have e2 : (V.drop (V.length - U.length)).length = U.length := by simp; omega
      have e3 : (V.take (V.length - U.length)) ++ (V.drop (V.length - U.length)) = V := List.take_append_drop _ _
      generalize V.take (V.length - U.length) = V1 at *
      generalize V.drop (V.length - U.length) = V2 at *
      have E1 := Lib.hid e1
      have E2 := Lib.hid e2
      have E3 := Lib.hid e3
      clear e1 e2 e3
      go_wp2_with fail
      refine (swapRange_int g len cap _ _ _ (A ++ P) U V1 V2 (S ++ Z) (A ++ P ++ U ++ V ++ S ++ Z) (A ++ P ++ V2 ++ V1 ++ (U ++ S) ++ Z) f _ (by have := H1.out; simp; omega) rfl E2.out (by have := H1.out; have := E1.out; simp; omega) hl.out hbig (by rw [← E3.out]; simp) (by simp) ro).mono ?_
      rintro e w1 ⟨rfl, ro1, gr1⟩
      go_wp2_with fail
      go_roundw
      case rel =>
        refine ⟨P, V2, V1, U ++ S, by rw [E2.out], ?_, ?_, by rw [E2.out]; omega, by rw [E1.out]; omega, ?_, ?_, ro1, only_trans gr gr1⟩
        · have := E1.out; congr 1; omega
        · have := E2.out; have := H1.out; omega
        · rw [← H4.out, ← E3.out]; simp
        · have h := hl.out; have h2 := E1.out; have h3 := E2.out; have h4 := HL.out; rw [h4]; simp only [List.length_append] at h ⊢; omega
      case measure => have := E1.out; have := E2.out; simp [intOf]; omega
    · have t1 : ((U.length : Int) != V.length) = false := by simp; omega
      have HC := Lib.hid hc
      clear hc
      go_wp2_with fail
      refine (swapRange_int g len cap _ _ _ (A ++ P) U [] V (S ++ Z) (A ++ P ++ U ++ V ++ S ++ Z) (A ++ (Y ++ X) ++ Z) f _ (by have := H1.out; simp; omega) rfl HC.out.symm (by have := H1.out; simp; omega) hl.out hbig (by simp) (by rw [← H4.out]; simp) ro).mono ?_
      rintro e w1 ⟨rfl, ro1, gr1⟩
      go_wp2_with fail
      go_end0
      exact ⟨rfl, ro1, only_trans gr gr1⟩
    · have t1 : ((U.length : Int) != V.length) = true := by rw [bne_iff_ne]; omega
      have t2 : decide ((V.length : Int) < U.length) = true := by simp; omega
      have e1 : (U.take V.length).length = V.length := by simp; omega
      have e2 : (U.drop V.length).length = U.length - V.length := by simp
      have e3 : (U.take V.length) ++ (U.drop V.length) = U := List.take_append_drop _ _
      generalize U.take V.length = U1 at *
      generalize U.drop V.length = U2 at *
      have E1 := Lib.hid e1
      have E2 := Lib.hid e2
      have E3 := Lib.hid e3
      clear e1 e2 e3
      go_wp2_with fail
      refine (swapRange_int g len cap _ _ _ (A ++ P) U1 U2 V (S ++ Z) (A ++ P ++ U ++ V ++ S ++ Z) (A ++ (P ++ V) ++ U2 ++ U1 ++ S ++ Z) f _ (by have := H1.out; simp; omega) (by rw [E1.out]) E1.out.symm (by have := H1.out; have := E1.out; have := E2.out; simp; omega) hl.out hbig (by rw [← E3.out]; simp) (by simp) ro).mono ?_
      rintro e w1 ⟨rfl, ro1, gr1⟩
      go_wp2_with fail
      go_roundw
      case rel =>
        refine ⟨P ++ V, U2, U1, S, ?_, by rw [E1.out], ?_, by rw [E2.out]; omega, by rw [E1.out]; omega, ?_, ?_, ro1, only_trans gr gr1⟩
        · have := E2.out; congr 1; omega
        · have h1 := E2.out; have h2 := H1.out; simp only [List.length_append]; omega
        · rw [← H4.out, ← E3.out]; simp
        · have h := hl.out; have h2 := E1.out; have h3 := E2.out; have h4 := HL.out; rw [h4]; simp only [List.length_append] at h ⊢; omega
      case measure => have := E1.out; have := E2.out; simp [intOf]; omega

end Go.Proofs.YtnikhbdjlipcbaaGreatDoor.Spl

namespace Go.Proofs.YtnikhbdjlipcbaaGreatDoor.Spl
open Go.RowKit

/-- The comparison of two values that are valid: it only reads, in every world in which block g alone has turned. -/
def CmpOK (key : Int → Int) (N : Int) (g : Nat) (caps : Array Value) (w0 : World) : Prop :=
  ∀ W, w0.grownBy W (some g) → ∀ x y : Int, 0 ≤ x → x < N → 0 ≤ y → y < N →
    Calls Tryz.prog 25 (#[.int .i64 x, .int .i64 y] ++ caps) W fun e w' => e = .returned (.int .i64 (key x - key y)) ∧ ∃ q, w' = W.drewN q
/-- The keys are small: a difference does not wrap. -/
def KeyOK (key : Int → Int) : Prop := ∀ x, -4000000 ≤ key x ∧ key x ≤ 4000000
def Valid (N : Int) (L : List Int) : Prop := ∀ x ∈ L, 0 ≤ x ∧ x < N

theorem valid_get {N : Int} {L : List Int} (h : Valid N L) {i : Nat} (hi : i < L.length) : 0 ≤ L[i]?.getD 0 ∧ L[i]?.getD 0 < N := by
  rw [List.getElem?_eq_getElem hi]; exact h _ (List.getElem_mem hi)
theorem valid_perm {N : Int} {L M : List Int} (h : Valid N L) (p : M.Perm L) : Valid N M := fun x hx => h x (p.mem_iff.1 hx)

def InsRel (key : Int → Int) (w : World) (g a b : Nat) (A X Z : List Int) (i : Value) (wr : World) : Prop :=
  ∃ (k : Nat) (X' : List Int), i = .int .i64 k ∧ a + 1 ≤ k ∧ (k ≤ b ∨ k = a + 1) ∧ X'.Perm (X.take (k - a)) ∧ Srt key X' ∧ Stb key (A ++ (X' ++ X.drop (k - a)) ++ Z) ∧
    RowAt wr g 3 (ints (A ++ (X' ++ X.drop (k - a)) ++ Z)) ∧ w.grownBy wr (some g)
def InsIn (key : Int → Int) (w : World) (g : Nat) (A T R : List Int) (j : Value) (wr : World) : Prop :=
  ∃ (P Q : List Int) (x : Int), j = .int .i64 (A.length + P.length : Nat) ∧ (P ++ [x] ++ Q).Perm T ∧ Srt key (P ++ Q) ∧ (∀ q ∈ Q, key x < key q) ∧
    Stb key (A ++ P ++ [x] ++ Q ++ R) ∧ RowAt wr g 3 (ints (A ++ P ++ [x] ++ Q ++ R)) ∧ w.grownBy wr (some g)

theorem drop_succ_take {X : List Int} {k : Nat} (hk : k < X.length) : X.drop k = X[k] :: X.drop (k + 1) := List.drop_eq_getElem_cons hk

set_option maxHeartbeats 1000000 in
set_option maxRecDepth 100000 in
theorem insertion_any (key : Int → Int) (N : Int) (g len cap a b : Nat) (A X Z : List Int) (c1 c2 c3 : Value) (w0 w : World) (hA : A.length = a) (hX : a + X.length = b)
    (hlen : (A ++ X ++ Z).length = len) (hbig : len ≤ 4611686018427387903) (hK : KeyOK key) (hC : CmpOK key N g #[c1, c2, c3] w0) (hw : w0.grownBy w (some g)) (hv : Valid N (A ++ X ++ Z))
    (hst : Stb key (A ++ X ++ Z)) (hr : RowAt w g 3 (ints (A ++ X ++ Z))) :
    Calls Tryz.prog 82 #[.slice (some ⟨g, 0, none⟩) len cap, .int .i64 a, .int .i64 b, .func (.func 25) #[] #[c1, c2, c3]] w fun e w' =>
      ∃ X', e = .returned (.tuple #[]) ∧ X'.Perm X ∧ Srt key X' ∧ Stb key (A ++ X' ++ Z) ∧ RowAt w' g 3 (ints (A ++ X' ++ Z)) ∧ w.grownBy w' (some g) := by
  have HA := Lib.hid hA
  have HX := Lib.hid hX
  have HL := Lib.hid hlen
  have HK := Lib.hid hK
  have HC := Lib.hid hC
  have HW := Lib.hid hw
  have HV := Lib.hid hv
  have hb : b ≤ len := by simp at hlen; omega
  have hab : a ≤ b := by omega
  have hs0 : InsRel key w g a b A X Z (.int .i64 ((a : Int) + 1)) w := by
    refine ⟨a + 1, X.take 1, rfl, Nat.le_refl _, .inr rfl, ?_, ?_, ?_, ?_, only_refl _ _⟩
    · rw [show a + 1 - a = 1 by omega]
    · match X with
      | [] => exact srt_nil
      | x :: _ => exact srt_one x
    · rw [show a + 1 - a = 1 by omega, List.take_append_drop]; exact hst
    · rw [show a + 1 - a = 1 by omega, List.take_append_drop]; exact hr
  clear hA hX hlen hK hC hw hv hst hr
  go_enter Tryz.func82, Tryz.ntmps82
  go_wp2_with fail
  go_loopw [8, 9] (fun i _ wr => InsRel key w g a b A X Z i wr) (fun i _ _ => b - (intOf i).toNat)
  case atStart => exact hs0
  case round =>
    obtain ⟨k, X', rfl, hk1, hk2, hp, hs, hst, ro, gr⟩ := hrel
    by_cases hlt : k < b
    · have hXl : k - a < X.length := by have := HX.out; omega
      have hin : InsIn key w g A (X.take (k + 1 - a)) (X.drop (k + 1 - a) ++ Z) (.int .i64 k) wr := by
        have e : A ++ (X' ++ X.drop (k - a)) ++ Z = A ++ X' ++ [X[k - a]] ++ [] ++ (X.drop (k + 1 - a) ++ Z) := by
          rw [drop_succ_take hXl, show k - a + 1 = k + 1 - a by omega]; simp
        have hpl := hp.length_eq
        simp at hpl
        refine ⟨X', [], X[k - a], ?_, ?_, by simpa using hs, fun q hq => by simp at hq, by rw [← e]; exact hst, by rw [← e]; exact ro, gr⟩
        · have := HA.out; congr 1; omega
        · rw [show k + 1 - a = (k - a) + 1 by omega, List.take_succ_eq_append_getElem hXl]
          simp only [List.append_nil]
          exact hp.append_right _
      clear hp hs hst ro gr hs0
      obtain ⟨w1, rfl⟩ : ∃ w1 : World, w1 = wr := ⟨_, rfl⟩
      go_wp2_with fail
      go_loopw [9] (InsIn key w g A (X.take (k + 1 - a)) (X.drop (k + 1 - a) ++ Z)) (fun j _ => (intOf j).toNat)
      case atStart => exact hin
      case round =>
        obtain ⟨P, Q, x, rfl, hp, hs, hq, hst, ro, gr⟩ := hrel
        obtain ⟨j, hj⟩ : ∃ j, j = A.length + P.length := ⟨_, rfl⟩
        rw [← hj]
        have hja : a ≤ j := by have := HA.out; omega
        have hlen : (A ++ P ++ [x] ++ Q ++ (X.drop (k + 1 - a) ++ Z)).length = len := by
          have h := HL.out
          have h2 := hp.length_eq
          simp only [List.length_append, List.length_cons, List.length_nil, List.length_take, List.length_drop] at h h2 ⊢
          omega
        have hperm : (A ++ P ++ [x] ++ Q ++ (X.drop (k + 1 - a) ++ Z)).Perm (A ++ X ++ Z) := by
          have e : A ++ X ++ Z = A ++ (X.take (k + 1 - a) ++ (X.drop (k + 1 - a) ++ Z)) := by rw [← List.append_assoc (List.take _ _), List.take_append_drop]; simp
          rw [e]
          simp only [List.append_assoc]
          refine List.Perm.append_left _ ?_
          have := hp.append_right (X.drop (k + 1 - a) ++ Z)
          simpa only [List.append_assoc] using this
        have hvl := valid_perm HV.out hperm
        have hjl : j < len := by rw [hj, ← hlen]; simp
        have hexit : (∀ p ∈ P, key p ≤ key x) → ∀ q', InsRel key w g a b A X Z (.int .i64 ((k : Int) + 1)) (wr.drewN q') := fun hle q' => by
          refine ⟨k + 1, P ++ ([x] ++ Q), rfl, by omega, .inl hlt, by simpa using hp, srt_insert hs hle (fun q h => Int.le_of_lt (hq q h)), ?_, ?_, only_drewN gr q'⟩
          · simpa only [List.append_assoc] using hst
          · have := ro.drewN q'
            simpa only [List.append_assoc] using this
        have HE := Lib.hid hexit
        clear hexit
        rcases List.eq_nil_or_concat P with hP | ⟨P0, y, hP⟩
        · subst hP
          have hje : j = a := by have := HA.out; simp at hj; omega
          have t1 : decide (a < j) = false := by simp; omega
          have HE2 : Hid (∀ q', InsRel key w g a b A X Z (.int .i64 ((k : Int) + 1)) (wr.drewN q')) := HE.out (fun p hp => by simp at hp)
          clear hj hlen hperm hp hs hq hst ro gr HE hje
          go_wp2_with fail
          go_quiet (fail)
          go_wp2_with fail
          go_roundw
          case rel => exact HE2.out _
          case measure => simp [intOf]; omega
        · rw [List.concat_eq_append] at hP
          subst hP
          have hj1 : A.length + P0.length = j - 1 := by rw [hj]; simp
          have hja1 : a < j := by have := HA.out; simp at hj; omega
          have t1 : decide ((a : Int) < j) = true := by simp; omega
          have e0 : A ++ (P0 ++ [y]) ++ [x] ++ Q ++ (X.drop (k + 1 - a) ++ Z) = (A ++ P0) ++ [y] ++ [] ++ [x] ++ (Q ++ (X.drop (k + 1 - a) ++ Z)) := by simp
          have e1 : (A ++ P0).length = j - 1 := by simpa using hj1
          have e2 : (A ++ P0).length + 1 + ([] : List Int).length = j := by simp; omega
          have cx : wr.cell? ⟨g, j, none⟩ = some (.int .i64 x) := by
            rw [ro.cell (by rw [ints_length, hlen]; omega), ints_get _ _ (by rw [hlen]; omega), e0, ← e2, get_second]
          have cy : wr.cell? ⟨g, j - 1, none⟩ = some (.int .i64 y) := by
            rw [ro.cell (by rw [ints_length, hlen]; omega), ints_get _ _ (by rw [hlen]; omega), e0, ← e1, get_first]
          obtain ⟨vx1, vx2⟩ := hvl x (by simp)
          obtain ⟨vy1, vy2⟩ := hvl y (by simp)
          obtain ⟨kx1, kx2⟩ := HK.out x
          obtain ⟨ky1, ky2⟩ := HK.out y
          have cc : Hid (∀ q, Calls Tryz.prog 25 #[.int .i64 x, .int .i64 y, c1, c2, c3] (wr.drewN q) fun e w' => e = .returned (.int .i64 (key x - key y)) ∧ ∃ m, w' = (wr.drewN q).drewN m) :=
            fun q => HC.out _ (only_drewN (only_trans HW.out gr) q) x y vx1 vx2 vy1 vy2
          by_cases hlt2 : key x < key y
          · have t2 : decide (key x - key y < 0) = true := by simp; omega
            clear hj hlen hperm hvl HE vx1 vx2 vy1 vy2
            go_wp2_with fail
            go_quiet ((go_at_call 25; exact Calls.quiet_of (cc.out _)))
            go_wp2_with fail
            have c3 := ro.frozen j
            have c4 := ro.frozen (j - 1)
            have hne : (⟨g, j, none⟩ : Addr) ≠ ⟨g, j - 1, none⟩ := fun e => by injection e; omega
            have hne2 : (⟨g, j - 1, none⟩ : Addr) ≠ ⟨g, j, none⟩ := fun e => by injection e; omega
            have ro' := (ro.set j (.int .i64 y)).set (j - 1) (.int .i64 x)
            rw [ints_set, ints_set, e0, List.set_comm _ _ (by omega), swap_at e1 e2] at ro'
            have hst' : Stb key (A ++ P0 ++ [x] ++ (y :: Q) ++ (X.drop (k + 1 - a) ++ Z)) := by
              have h := stb_rot (A := A ++ P0) (U := [y]) (V := [x]) (Z := Q ++ (X.drop (k + 1 - a) ++ Z)) (key := key) (by simpa using hst) (fun u hu v hv => by simp at hu hv; subst hu; subst hv; exact hlt2)
              simpa using h
            have hin' : InsIn key w g A (X.take (k + 1 - a)) (X.drop (k + 1 - a) ++ Z) (.int .i64 ((j : Int) - 1)) (((wr.drewN nq).setCell ⟨g, j, none⟩ (.int .i64 y)).setCell ⟨g, j - 1, none⟩ (.int .i64 x)).drew := by
              refine ⟨P0, y :: Q, x, ?_, ?_, ?_, ?_, hst', ?_, only_drewN (only_setCell (only_setCell (only_drewN gr nq) (.inl rfl) _) (.inl rfl) _) 1⟩
              · rw [hj1]; congr 1; omega
              · refine List.Perm.trans ?_ hp
                simp only [List.append_assoc]
                refine List.Perm.append_left _ ?_
                exact List.Perm.swap x y Q |>.symm
              · simpa using hs
              · intro q hq'
                rw [List.mem_cons] at hq'
                rcases hq' with e | e
                · subst e; exact hlt2
                · exact hq q e
              · have e5 : A ++ P0 ++ [x] ++ (y :: Q) ++ (X.drop (k + 1 - a) ++ Z) = (A ++ P0) ++ [x] ++ [] ++ [y] ++ (Q ++ (X.drop (k + 1 - a) ++ Z)) := by simp
                rw [e5]
                exact ro'
            clear hp hs hq hst ro gr cc hst' ro' e0 e1 e2 hj1
            go_wp2_with fail
            go_region
            go_wp2_with fail
            go_roundw
            case rel => exact hin'
            case measure => simp [intOf]; omega
          · have t2 : decide (key x - key y < 0) = false := by simp; omega
            have hle : ∀ p ∈ P0 ++ [y], key p ≤ key x := by
              intro p hp'
              have h1 := (srt_append.1 hs).1
              rw [List.mem_append] at hp'
              rcases hp' with h | h
              · have := srt_last h1 p h; omega
              · simp at h; subst h; omega
            have HE2 := Lib.hid (HE.out hle)
            clear hj hlen hperm hvl HE vx1 vx2 vy1 vy2 hp hs hq hst ro gr e0 e1 e2 hj1 hle
            go_wp2_with fail
            go_quiet ((go_at_call 25; exact Calls.quiet_of (cc.out _)))
            go_wp2_with fail
            go_roundw
            case rel => exact HE2.out _
            case measure => simp [intOf]; omega
    · have hk : X.take (k - a) = X := List.take_of_length_le (by have := HX.out; omega)
      have hk3 : X.drop (k - a) = [] := List.drop_of_length_le (by have := HX.out; omega)
      rw [hk] at hp
      rw [hk3, List.append_nil] at hst ro
      clear hk hk3 hs0
      go_wp2_with fail
      go_end0
      exact ⟨X', rfl, hp, hs, hst, ro, gr⟩

end Go.Proofs.YtnikhbdjlipcbaaGreatDoor.Spl
