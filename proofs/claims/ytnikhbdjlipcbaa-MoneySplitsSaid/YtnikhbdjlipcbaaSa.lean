/-
  slices.swapRangeCmpFunc and slices.rotateCmpFunc at ints: blocks change places.
-/
import Derived.Test.YtnikhbdjlipcbaaR
import Derived.Test.YtnikhbdjlipcbaaS
import Derived.RegionTactic
import Derived.ChangeAlike
import Derived.BigRegion
namespace Go.Proofs.Ytnikhbdjlipcbaa
open Go.RowKit

/-- Behind a step of the sort: block g holds L; nothing else that was there has turned. -/
def RowPost (w : World) (g : Nat) (L : List Int) (e : Ending) (w' : World) : Prop := e = .returned (.tuple #[]) ∧ RowAt w' g 3 (ints L) ∧ w.grownBy w' (some g)

def SwapRel (w : World) (g n : Nat) (A U W V Z : List Int) (i : Value) (wr : World) : Prop :=
  ∃ k : Nat, k ≤ n ∧ i = .int .i64 k ∧ RowAt wr g 3 (ints (swapL A U W V Z k)) ∧ w.grownBy wr (some g)

set_option maxHeartbeats 1000000 in
set_option maxRecDepth 100000 in
theorem swapRange_any (g len cap a b n : Nat) (A U W V Z : List Int) (f : Value) (w : World) (hA : A.length = a) (hU : U.length = n) (hV : V.length = n) (hb : a + n + W.length = b)
    (hlen : A.length + U.length + W.length + V.length + Z.length = len) (hbig : len ≤ 4611686018427387903)
    (hr : RowAt w g 3 (ints (A ++ U ++ W ++ V ++ Z))) :
    Calls Try.prog 17 #[.slice (some ⟨g, 0, none⟩) len cap, .int .i64 a, .int .i64 b, .int .i64 n, f] w (RowPost w g (A ++ V ++ W ++ U ++ Z)) := by
  have hb2 : b + n ≤ len := by omega
  have HA := Lib.hid hA
  have HU := Lib.hid hU
  have HV := Lib.hid hV
  have HB := Lib.hid hb
  have HL := Lib.hid hlen
  have hab : a + n ≤ b := by omega
  clear hA hU hV hb hlen
  go_enter Try.func17, Try.ntmps17
  go_wp2_with fail
  go_loopw [10] (SwapRel w g n A U W V Z) (fun i _ => n - (intOf i).toNat)
  case atStart => exact ⟨0, Nat.zero_le _, rfl, by rw [swapL_zero]; exact hr, only_refl _ _⟩
  case round =>
    obtain ⟨k, hk, rfl, ro, gr⟩ := hrel
    by_cases hlt : k < n
    · obtain ⟨P, M, S, x, y, e1, e2, e3, e4⟩ := swapL_split A U W V Z k (by rw [HU.out, HV.out]) (by rw [HU.out]; exact hlt)
      have hl := swapL_length A U W V Z k (by rw [HU.out, HV.out])
      rw [HL.out] at hl
      have e5 : P.length = a + k := by rw [e3, HA.out]
      have e6 : P.length + 1 + M.length = b + k := by rw [e4, HA.out, HU.out, ← HB.out]
      have c1 : wr.cell? ⟨g, a + k, none⟩ = some (.int .i64 x) := by
        rw [ro.cell (by rw [ints_length, hl]; omega), ints_get _ _ (by rw [hl]; omega), e1, ← e5, get_first]
      have c2 : wr.cell? ⟨g, b + k, none⟩ = some (.int .i64 y) := by
        rw [ro.cell (by rw [ints_length, hl]; omega), ints_get _ _ (by rw [hl]; omega), e1, ← e6, get_second]
      have c3 := ro.frozen (a + k)
      have c4 := ro.frozen (b + k)
      have ro' := (ro.set (a + k) (.int .i64 y)).set (b + k) (.int .i64 x)
      rw [ints_set, ints_set, e1, swap_at e5 e6, ← e2] at ro'
      have hne : (⟨g, a + k, none⟩ : Addr) ≠ ⟨g, b + k, none⟩ := fun e => by injection e; omega
      have hne2 : (⟨g, b + k, none⟩ : Addr) ≠ ⟨g, a + k, none⟩ := fun e => by injection e; omega
      clear e1 e2 e3 e4 e5 e6 hl ro
      go_wp2_with fail
      go_region
      go_wp2_with fail
      go_roundw
      case rel => exact ⟨k + 1, by omega, by go_num, ro', only_drewN (only_setCell (only_setCell gr (.inl rfl) _) (.inl rfl) _) 1⟩
      case measure => simp [intOf]; omega
    · have e : swapL A U W V Z k = A ++ V ++ W ++ U ++ Z := by
        have : k = U.length := by have := HU.out; omega
        rw [this]; exact swapL_all A U W V Z (by rw [HU.out, HV.out])
      rw [e] at ro
      clear e
      go_wp2_with fail
      go_end0
      exact ⟨rfl, ro, gr⟩

theorem swapRange_int (g len cap : Nat) (a b n : Int) (A U W V Z L L' : List Int) (f : Value) (w : World) (ha : a = (A.length : Nat)) (hn : n = (U.length : Nat)) (hV : V.length = U.length) (hb : b = (A.length + U.length + W.length : Nat))
    (hlen : L.length = len) (hbig : len ≤ 4611686018427387903) (hL : L = A ++ U ++ W ++ V ++ Z) (hL' : A ++ V ++ W ++ U ++ Z = L')
    (hr : RowAt w g 3 (ints L)) :
    Calls Try.prog 17 #[.slice (some ⟨g, 0, none⟩) len cap, .int .i64 a, .int .i64 b, .int .i64 n, f] w (RowPost w g L') := by
  rw [ha, hn, hb, ← hL']
  rw [hL] at hr hlen
  exact swapRange_any g len cap A.length _ U.length A U W V Z f w rfl rfl hV rfl (by rw [← hlen]; simp; omega) hbig hr

/-- The rotation on its way: U and V stand before V and U; what is done lies outside. -/
def RotRel (w : World) (g m : Nat) (L A Z : List Int) (X Y : List Int) (i j : Value) (wr : World) : Prop :=
  ∃ (P U V S : List Int), i = .int .i64 (U.length : Nat) ∧ j = .int .i64 (V.length : Nat) ∧ A.length + P.length + U.length = m ∧ 1 ≤ U.length ∧ 1 ≤ V.length ∧
    P ++ (V ++ U) ++ S = Y ++ X ∧ A.length + P.length + U.length + V.length + S.length + Z.length = L.length ∧
    RowAt wr g 3 (ints (A ++ P ++ U ++ V ++ S ++ Z)) ∧ w.grownBy wr (some g)

set_option maxHeartbeats 1000000 in
set_option maxRecDepth 100000 in
theorem rotate_any (g len cap a m b : Nat) (A X Y Z : List Int) (f : Value) (w : World) (hA : A.length = a) (hX : a + X.length = m) (hY : m + Y.length = b) (hx : 1 ≤ X.length) (hy : 1 ≤ Y.length)
    (hlen : (A ++ X ++ Y ++ Z).length = len) (hbig : len ≤ 4611686018427387903)
    (hr : RowAt w g 3 (ints (A ++ X ++ Y ++ Z))) :
    Calls Try.prog 16 #[.slice (some ⟨g, 0, none⟩) len cap, .int .i64 a, .int .i64 m, .int .i64 b, f] w (RowPost w g (A ++ (Y ++ X) ++ Z)) := by
  have hl2 : A.length + X.length + Y.length + Z.length = len := by rw [← hlen]; simp; omega
  have HA := Lib.hid hA
  have HX := Lib.hid hX
  have HY := Lib.hid hY
  have HL := Lib.hid hlen
  have HL2 := Lib.hid hl2
  have b1 : a < m := by omega
  have b2 : m < b := by omega
  have b3 : b ≤ len := by omega
  have x1 : (m : Int) - a = (X.length : Nat) := by omega
  have x2 : (b : Int) - m = (Y.length : Nat) := by omega
  have HX1 := Lib.hid x1
  have HX2 := Lib.hid x2
  clear hA hX hY hlen hl2 x1 x2
  go_enter Try.func16, Try.ntmps16
  go_wp2_with fail
  rw [HX1.out, HX2.out]
  go_loopw [10, 11] (RotRel w g m (A ++ X ++ Y ++ Z) A Z X Y) (fun i j _ => (intOf i).toNat + (intOf j).toNat)
  case atStart => exact ⟨[], X, Y, [], rfl, rfl, by have := HX.out; have := HA.out; simp; omega, hx, hy, by simp, by simp; omega, by simpa using hr, only_refl _ _⟩
  case round =>
    obtain ⟨P, U, V, S, rfl, rfl, h1, h2, h3, h4, h5, ro, gr⟩ := hrel
    have H4 := Lib.hid h4
    have hl : Hid ((A ++ P ++ U ++ V ++ S ++ Z).length = len) := by
      have := HL2.out; have := h5
      show _ = _
      simp at *; omega
    have H1 := Lib.hid h1
    have u1 : U.length ≤ m := by omega
    have v1 : m + V.length ≤ len := by have := HL2.out; simp at h5; omega
    clear h4 h5 h1 hr
    rcases Nat.lt_trichotomy U.length V.length with hc | hc | hc
    · have t1 : ((U.length : Int) != V.length) = true := by rw [bne_iff_ne]; omega
      have t2 : decide ((V.length : Int) < U.length) = false := by simp; omega
      have e1 : (V.take (V.length - U.length)).length = V.length - U.length := by simp
      have e2 : (V.drop (V.length - U.length)).length = U.length := by simp; omega
      have e3 : (V.take (V.length - U.length)) ++ (V.drop (V.length - U.length)) = V := List.take_append_drop _ _
      generalize V.take (V.length - U.length) = V1 at *
      generalize V.drop (V.length - U.length) = V2 at *
      have E1 := Lib.hid e1
      have E2 := Lib.hid e2
      have E3 := Lib.hid e3
      clear e1 e2 e3
      go_wp2_with fail
      refine (swapRange_int g len cap _ _ _ (A ++ P) U V1 V2 (S ++ Z) (A ++ P ++ U ++ V ++ S ++ Z) (A ++ P ++ V2 ++ V1 ++ (U ++ S) ++ Z) f _ (by have := H1.out; simp; omega) rfl E2.out (by have := H1.out; have := E1.out; simp; omega) hl.out hbig (by rw [← E3.out]; simp) (by simp) ro).mono ?_
      rintro e w1 ⟨rfl, ro1, gr1⟩
      go_wp2_with fail
      go_roundw
      case rel =>
        refine ⟨P, V2, V1, U ++ S, by rw [E2.out], ?_, ?_, by rw [E2.out]; omega, by rw [E1.out]; omega, ?_, ?_, ro1, only_trans gr gr1⟩
        · have := E1.out; congr 1; omega
        · have := E2.out; have := H1.out; omega
        · rw [← H4.out, ← E3.out]; simp
        · have h := hl.out; have h2 := E1.out; have h3 := E2.out; have h4 := HL.out; rw [h4]; simp only [List.length_append] at h ⊢; omega
      case measure => have := E1.out; have := E2.out; simp [intOf]; omega
    · have t1 : ((U.length : Int) != V.length) = false := by simp; omega
      have HC := Lib.hid hc
      clear hc
      go_wp2_with fail
      refine (swapRange_int g len cap _ _ _ (A ++ P) U [] V (S ++ Z) (A ++ P ++ U ++ V ++ S ++ Z) (A ++ (Y ++ X) ++ Z) f _ (by have := H1.out; simp; omega) rfl HC.out.symm (by have := H1.out; simp; omega) hl.out hbig (by simp) (by rw [← H4.out]; simp) ro).mono ?_
      rintro e w1 ⟨rfl, ro1, gr1⟩
      go_wp2_with fail
      go_end0
      exact ⟨rfl, ro1, only_trans gr gr1⟩
    · have t1 : ((U.length : Int) != V.length) = true := by rw [bne_iff_ne]; omega
      have t2 : decide ((V.length : Int) < U.length) = true := by simp; omega
      have e1 : (U.take V.length).length = V.length := by simp; omega
      have e2 : (U.drop V.length).length = U.length - V.length := by simp
      have e3 : (U.take V.length) ++ (U.drop V.length) = U := List.take_append_drop _ _
      generalize U.take V.length = U1 at *
      generalize U.drop V.length = U2 at *
      have E1 := Lib.hid e1
      have E2 := Lib.hid e2
      have E3 := Lib.hid e3
      clear e1 e2 e3
      go_wp2_with fail
      refine (swapRange_int g len cap _ _ _ (A ++ P) U1 U2 V (S ++ Z) (A ++ P ++ U ++ V ++ S ++ Z) (A ++ (P ++ V) ++ U2 ++ U1 ++ S ++ Z) f _ (by have := H1.out; simp; omega) (by rw [E1.out]) E1.out.symm (by have := H1.out; have := E1.out; have := E2.out; simp; omega) hl.out hbig (by rw [← E3.out]; simp) (by simp) ro).mono ?_
      rintro e w1 ⟨rfl, ro1, gr1⟩
      go_wp2_with fail
      go_roundw
      case rel =>
        refine ⟨P ++ V, U2, U1, S, ?_, by rw [E1.out], ?_, by rw [E2.out]; omega, by rw [E1.out]; omega, ?_, ?_, ro1, only_trans gr gr1⟩
        · have := E2.out; congr 1; omega
        · have h1 := E2.out; have h2 := H1.out; simp only [List.length_append]; omega
        · rw [← H4.out, ← E3.out]; simp
        · have h := hl.out; have h2 := E1.out; have h3 := E2.out; have h4 := HL.out; rw [h4]; simp only [List.length_append] at h ⊢; omega
      case measure => have := E1.out; have := E2.out; simp [intOf]; omega

end Go.Proofs.Ytnikhbdjlipcbaa
