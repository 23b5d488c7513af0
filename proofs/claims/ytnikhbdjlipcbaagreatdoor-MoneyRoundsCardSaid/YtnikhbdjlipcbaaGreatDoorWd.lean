/-
  slices.symMergeCmpFunc at ints, by a key: two sorted blocks become one. slices.symMergeCmpFunc at ints where the second block has one element.
-/
import Derived.Test.YtnikhbdjlipcbaaGreatDoorWc
namespace Go.Proofs.YtnikhbdjlipcbaaGreatDoor.Spl
open Go.RowKit

def MergePost (key : Int → Int) (w : World) (g : Nat) (A M0 Z : List Int) (e : Ending) (w' : World) : Prop :=
  ∃ M, e = .returned (.tuple #[]) ∧ M.Perm M0 ∧ Srt key M ∧ Stb key (A ++ M ++ Z) ∧ RowAt w' g 3 (ints (A ++ M ++ Z)) ∧ w.grownBy w' (some g)

/-- Binary search: below lo the block's keys are less than c; from hi on they are not. -/
def FindRel (key : Int → Int) (w1 : World) (Y : List Int) (c : Int) (m b : Nat) (i j : Value) (wr : World) : Prop :=
  ∃ lo hi q : Nat, m ≤ lo ∧ lo ≤ hi ∧ hi ≤ b ∧ i = .int .i64 lo ∧ j = .int .i64 hi ∧ wr = w1.drewN q ∧
    (∀ t, t < lo - m → key (Y[t]?.getD 0) < c) ∧ (∀ t, hi - m ≤ t → t < Y.length → c ≤ key (Y[t]?.getD 0))

/-- An element of the second block, by its place in the row. -/
theorem get_blk (A X Y Z : List Int) (t : Nat) (ht : t < Y.length) : (A ++ X ++ Y ++ Z)[A.length + X.length + t]?.getD 0 = Y[t]?.getD 0 := by
  rw [List.append_assoc, List.getElem?_append_right (by simp), show A.length + X.length + t - (A ++ X).length = t by simp, List.getElem?_append_left ht]
theorem get_blk1 (A X Y Z : List Int) (t : Nat) (ht : t < X.length) : (A ++ X ++ Y ++ Z)[A.length + t]?.getD 0 = X[t]?.getD 0 := by
  rw [List.append_assoc, List.append_assoc, List.getElem?_append_right (by omega), show A.length + t - A.length = t by omega, List.getElem?_append_left ht]

/-- One step of a swap that carries x over the block. -/
def PassRel (w : World) (g a : Nat) (A Y Z : List Int) (x : Int) (n : Nat) (i : Value) (wr : World) : Prop :=
  ∃ k : Nat, i = .int .i64 (a + k : Nat) ∧ k ≤ n ∧ RowAt wr g 3 (ints (A ++ Y.take k ++ [x] ++ Y.drop k ++ Z)) ∧ w.grownBy wr (some g)

set_option maxHeartbeats 1000000 in
set_option maxRecDepth 100000 in
theorem merge_left (key : Int → Int) (N : Int) (g len cap a m b : Nat) (A Y Z : List Int) (x : Int) (c1 c2 c3 : Value) (w0 w : World) (hA : A.length = a) (hm : a + 1 = m) (hY : m + Y.length = b)
    (hlen : (A ++ [x] ++ Y ++ Z).length = len) (hbig : len ≤ 4611686018427387903) (hK : KeyOK key) (hC : CmpOK key N g #[c1, c2, c3] w0) (hw : w0.grownBy w (some g)) (hv : Valid N (A ++ [x] ++ Y ++ Z))
    (hsY : Srt key Y) (hst : Stb key (A ++ ([x] ++ Y) ++ Z)) (hr : RowAt w g 3 (ints (A ++ [x] ++ Y ++ Z))) :
    Calls Tryz.prog 83 #[.slice (some ⟨g, 0, none⟩) len cap, .int .i64 a, .int .i64 m, .int .i64 b, .func (.func 25) #[] #[c1, c2, c3]] w (MergePost key w g A ([x] ++ Y) Z) := by
  have HA := Lib.hid hA
  have HY := Lib.hid hY
  have HL := Lib.hid hlen
  have HK := Lib.hid hK
  have HC := Lib.hid hC
  have HW := Lib.hid hw
  have HV := Lib.hid hv
  have HS := Lib.hid hsY
  have HT := Lib.hid hst
  have hb : b ≤ len := by simp at hlen; omega
  have hmb : m ≤ b := by omega
  have t0 : ((m : Int) - a == 1) = true := by simp; omega
  have HM := Lib.hid hm
  have hm1 : a + 1 ≤ m := by omega
  have hm2 : m ≤ a + 1 := by omega
  clear hA hY hlen hK hC hw hv hsY hst hm
  go_enter Tryz.func83, Tryz.ntmps83
  go_wp2_with fail
  go_loopw [10, 11, 12] (fun i j _ wr => FindRel key w Y (key x) m b i j wr) (fun i j _ _ => (intOf j).toNat - (intOf i).toNat)
  case atStart => exact ⟨m, b, 0, Nat.le_refl _, hmb, Nat.le_refl _, rfl, rfl, rfl, fun t ht => by omega, fun t h1 h2 => by have := HY.out; omega⟩
  case round =>
    obtain ⟨lo, hi, q, h1, h2, h3, rfl, rfl, rfl, hlo, hhi⟩ := hrel
    have HLO := Lib.hid hlo
    have HHI := Lib.hid hhi
    clear hlo hhi
    by_cases hlt : lo < hi
    · have ht : (lo + hi) / 2 - m < Y.length := by have := HY.out; omega
      have e1 : A.length + 1 + ((lo + hi) / 2 - m) = (lo + hi) / 2 := by have := HA.out; omega
      have e2 : A.length + 0 = a := by have := HA.out; omega
      have cy : w.cell? ⟨g, (lo + hi) / 2, none⟩ = some (.int .i64 (Y[(lo + hi) / 2 - m]?.getD 0)) := by
        have h := get_blk A [x] Y Z _ ht
        rw [show A.length + [x].length + ((lo + hi) / 2 - m) = (lo + hi) / 2 from e1] at h
        rw [hr.cell (by rw [ints_length, HL.out]; omega), ints_get _ _ (by rw [HL.out]; omega), h]
      have cx : w.cell? ⟨g, a, none⟩ = some (.int .i64 x) := by
        have h := get_blk1 A [x] Y Z 0 (by simp)
        rw [e2] at h
        rw [hr.cell (by rw [ints_length, HL.out]; omega), ints_get _ _ (by rw [HL.out]; omega), h]; rfl
      have vx := HV.out x (by simp)
      have vy := HV.out (Y[(lo + hi) / 2 - m]?.getD 0) (by rw [List.getElem?_eq_getElem ht]; simp)
      obtain ⟨kx1, kx2⟩ := HK.out x
      obtain ⟨ky1, ky2⟩ := HK.out (Y[(lo + hi) / 2 - m]?.getD 0)
      have cc : Hid (∀ q, Calls Tryz.prog 25 #[.int .i64 (Y[(lo + hi) / 2 - m]?.getD 0), .int .i64 x, c1, c2, c3] (w.drewN q) fun e w' => e = .returned (.int .i64 (key (Y[(lo + hi) / 2 - m]?.getD 0) - key x)) ∧ ∃ m, w' = (w.drewN q).drewN m) :=
        fun q => HC.out _ (only_drewN HW.out q) _ _ vy.1 vy.2 vx.1 vx.2
      have srt := fun i j h1 h2 => srt_idx HS.out i j h1 h2
      by_cases hc : key (Y[(lo + hi) / 2 - m]?.getD 0) < key x
      · have t2 : decide (key (Y[(lo + hi) / 2 - m]?.getD 0) - key x < 0) = true := by simp; omega
        have hn : Hid (∀ t, t < (lo + hi) / 2 + 1 - m → key (Y[t]?.getD 0) < key x) := fun t ht2 => by
          have := srt t ((lo + hi) / 2 - m) (by omega) ht
          omega
        clear e1 e2 vx vy srt ht
        go_wp2_with fail
        go_quiet ((go_at_call 25; exact quiet_add (cc.out _)))
        go_wp2_with fail
        go_roundw
        case rel => exact ⟨(lo + hi) / 2 + 1, hi, _, by omega, by omega, h3, by go_num, rfl, rfl, hn.out, HHI.out⟩
        case measure => simp [intOf]; omega
      · have t2 : decide (key (Y[(lo + hi) / 2 - m]?.getD 0) - key x < 0) = false := by simp; omega
        have hn : Hid (∀ t, (lo + hi) / 2 - m ≤ t → t < Y.length → key x ≤ key (Y[t]?.getD 0)) := fun t ht2 ht3 => by
          have := srt ((lo + hi) / 2 - m) t ht2 ht3
          omega
        clear e1 e2 vx vy srt ht
        go_wp2_with fail
        go_quiet ((go_at_call 25; exact quiet_add (cc.out _)))
        go_wp2_with fail
        go_roundw
        case rel => exact ⟨lo, (lo + hi) / 2, _, h1, by omega, by omega, rfl, by go_num, (by first | exact World.drewN_drewN _ _ _ | exact rfl), HLO.out, hn.out⟩
        case measure => simp [intOf]; omega
    · obtain rfl : lo = hi := by omega
      have hlo := HLO.out
      have hhi := HHI.out
      have y1 : ∀ y ∈ Y.take (lo - m), key y < key x := fun y hy => by
        obtain ⟨i, hi1, hi2, rfl⟩ := mem_take_idx hy
        exact hlo i hi1
      have y2 : ∀ y ∈ Y.drop (lo - m), key x ≤ key y := fun y hy => by
        obtain ⟨i, hi1, hi2, rfl⟩ := mem_drop_idx hy
        exact hhi i hi1 hi2
      have hs1 : Hid (Srt key (Y.take (lo - m) ++ ([x] ++ Y.drop (lo - m)))) := srt_insert (by rw [List.take_append_drop]; exact HS.out) (fun y hy => Int.le_of_lt (y1 y hy)) y2
      have hs2 : Hid (Stb key (A ++ (Y.take (lo - m) ++ ([x] ++ Y.drop (lo - m))) ++ Z)) := by
        have h := HT.out
        have e : A ++ ([x] ++ Y) ++ Z = A ++ ([x] ++ Y.take (lo - m)) ++ (Y.drop (lo - m) ++ Z) := by
          conv => lhs; rw [← List.take_append_drop (lo - m) Y]
          simp only [List.append_assoc]
        rw [e] at h
        have h2 := stb_rot h (fun u hu v hv => by simp at hu; subst hu; exact y1 v hv)
        show Stb key _
        simpa using h2
      have hs3 : Hid ((Y.take (lo - m) ++ ([x] ++ Y.drop (lo - m))).Perm ([x] ++ Y)) := by
        show List.Perm _ _
        rw [← List.append_assoc]
        refine (List.Perm.append_right _ List.perm_append_comm).trans ?_
        rw [List.append_assoc, List.take_append_drop]
      have b5 : (lo : Int) - 1 = (a : Int) + ((lo - m : Nat) : Int) := by omega
      have B5 := Lib.hid b5
      clear hlo hhi y1 y2 HLO HHI b5
      obtain ⟨wo, hwo⟩ : ∃ wo, wo = w.drewN q := ⟨_, rfl⟩
      have hro : RowAt wo g 3 (ints (A ++ Y.take 0 ++ [x] ++ Y.drop 0 ++ Z)) := by rw [hwo]; simpa using hr.drewN q
      have hgo : w.grownBy wo (some g) := by rw [hwo]; exact only_drewN (only_refl _ _) q
      rw [← hwo]
      clear hr hwo
      go_wp2_with fail
      go_loopw [13] (PassRel w g a A Y Z x (lo - m)) (fun i _ => a + (lo - m) - (intOf i).toNat)
      case atStart => exact ⟨0, by simp, Nat.zero_le _, hro, hgo⟩
      case round =>
        obtain ⟨k, rfl, hk, ro, gr⟩ := hrel
        by_cases hlt3 : k < lo - m
        · have hkY : k < Y.length := by have := HY.out; omega
          have e0 : A ++ Y.take k ++ [x] ++ Y.drop k ++ Z = (A ++ Y.take k) ++ [x] ++ [] ++ [Y[k]] ++ (Y.drop (k + 1) ++ Z) := by rw [List.drop_eq_getElem_cons hkY]; simp only [List.append_assoc, List.cons_append, List.nil_append]
          have e1 : (A ++ Y.take k).length = a + k := by have := HA.out; simp; omega
          have e2 : (A ++ Y.take k).length + 1 + ([] : List Int).length = a + k + 1 := by rw [e1]; rfl
          have hl : (A ++ Y.take k ++ [x] ++ Y.drop k ++ Z).length = len := by
            have h := HL.out
            simp only [List.length_append, List.length_take, List.length_drop, List.length_cons, List.length_nil] at h ⊢
            omega
          have hll : a + k + 1 < len := by have := HY.out; omega
          have cx : wr.cell? ⟨g, a + k, none⟩ = some (.int .i64 x) := by
            rw [ro.cell (by rw [ints_length, hl]; omega), ints_get _ _ (by rw [hl]; omega), e0, ← e1, get_first]
          have cy : wr.cell? ⟨g, a + k + 1, none⟩ = some (.int .i64 Y[k]) := by
            rw [ro.cell (by rw [ints_length, hl]; omega), ints_get _ _ (by rw [hl]; omega), e0, ← e2, get_second]
          have c3 := ro.frozen (a + k)
          have c4 := ro.frozen (a + k + 1)
          have hne : (⟨g, a + k, none⟩ : Addr) ≠ ⟨g, a + k + 1, none⟩ := fun e => by injection e; omega
          have hne2 : (⟨g, a + k + 1, none⟩ : Addr) ≠ ⟨g, a + k, none⟩ := fun e => by injection e; omega
          have ro' := (ro.set (a + k) (.int .i64 Y[k])).set (a + k + 1) (.int .i64 x)
          rw [ints_set, ints_set, e0, swap_at e1 e2] at ro'
          have e5 : (A ++ Y.take k) ++ [Y[k]] ++ [] ++ [x] ++ (Y.drop (k + 1) ++ Z) = A ++ Y.take (k + 1) ++ [x] ++ Y.drop (k + 1) ++ Z := by rw [List.take_succ_eq_append_getElem hkY]; simp only [List.append_assoc, List.cons_append, List.nil_append]
          rw [e5] at ro'
          have tlt : (a + k : Int) < lo - 1 := by have := B5.out; omega
          have hle : (lo : Int) ≤ len := by have := HY.out; omega
          clear e0 e1 e2 hl e5 ro
          generalize Y[k] = y at *
          go_wp2_with fail
          go_region
          go_wp2_with fail
          go_roundw
          case rel => exact ⟨k + 1, by go_num, by omega, ro', only_drewN (only_setCell (only_setCell gr (.inl rfl) _) (.inl rfl) _) 1⟩
          case measure => simp [intOf]; omega
        · obtain rfl : k = lo - m := by omega
          have e : A ++ Y.take (lo - m) ++ [x] ++ Y.drop (lo - m) ++ Z = A ++ (Y.take (lo - m) ++ ([x] ++ Y.drop (lo - m))) ++ Z := by simp
          rw [e] at ro
          have tlt : ¬ ((a + (lo - m : Nat) : Nat) : Int) < lo - 1 := by have := B5.out; omega
          clear e
          go_wp2_with fail
          exact bodyPost_ret (results_none rfl _ _ _) rfl ⟨_, rfl, hs3.out, hs1.out, hs2.out, ro, gr⟩

end Go.Proofs.YtnikhbdjlipcbaaGreatDoor.Spl

namespace Go.Proofs.YtnikhbdjlipcbaaGreatDoor.Spl
open Go.RowKit

/-- Binary search: below lo the block's keys are not above c; from hi on they are. -/
def FindRel2 (key : Int → Int) (w1 : World) (X : List Int) (c : Int) (m b : Nat) (i j : Value) (wr : World) : Prop :=
  ∃ lo hi q : Nat, m ≤ lo ∧ lo ≤ hi ∧ hi ≤ b ∧ i = .int .i64 lo ∧ j = .int .i64 hi ∧ wr = w1.drewN q ∧
    (∀ t, t < lo - m → key (X[t]?.getD 0) ≤ c) ∧ (∀ t, hi - m ≤ t → t < X.length → c < key (X[t]?.getD 0))
/-- One step of a swap that carries y down over the block. -/
def DownRel (w : World) (g a : Nat) (A X Z : List Int) (y : Int) (n : Nat) (i : Value) (wr : World) : Prop :=
  ∃ k : Nat, i = .int .i64 (a + k : Nat) ∧ n ≤ k ∧ k ≤ X.length ∧ RowAt wr g 3 (ints (A ++ X.take k ++ [y] ++ X.drop k ++ Z)) ∧ w.grownBy wr (some g)

theorem get_blk2 (A X Z : List Int) (y : Int) : (A ++ X ++ [y] ++ Z)[A.length + X.length]?.getD 0 = y := by
  simp

set_option maxHeartbeats 1000000 in
set_option maxRecDepth 100000 in
theorem merge_right (key : Int → Int) (N : Int) (g len cap a m b : Nat) (A X Z : List Int) (y : Int) (c1 c2 c3 : Value) (w0 w : World) (hA : A.length = a) (hX : a + X.length = m) (hX2 : 2 ≤ X.length) (hm : m + 1 = b)
    (hlen : (A ++ X ++ [y] ++ Z).length = len) (hbig : len ≤ 4611686018427387903) (hK : KeyOK key) (hC : CmpOK key N g #[c1, c2, c3] w0) (hw : w0.grownBy w (some g)) (hv : Valid N (A ++ X ++ [y] ++ Z))
    (hsX : Srt key X) (hst : Stb key (A ++ (X ++ [y]) ++ Z)) (hr : RowAt w g 3 (ints (A ++ X ++ [y] ++ Z))) :
    Calls Tryz.prog 83 #[.slice (some ⟨g, 0, none⟩) len cap, .int .i64 a, .int .i64 m, .int .i64 b, .func (.func 25) #[] #[c1, c2, c3]] w (MergePost key w g A (X ++ [y]) Z) := by
  have HA := Lib.hid hA
  have HX := Lib.hid hX
  have HL := Lib.hid hlen
  have HK := Lib.hid hK
  have HC := Lib.hid hC
  have HW := Lib.hid hw
  have HV := Lib.hid hv
  have HS := Lib.hid hsX
  have HT := Lib.hid hst
  have hb : m < len := by simp at hlen; omega
  have ham : a + 2 ≤ m := by omega
  have t0 : ((m : Int) - a == 1) = false := by simp; omega
  have hm1 : m + 1 ≤ b := by omega
  have t1 : ((b : Int) - m == 1) = true := by simp; omega
  have hm2 : b ≤ m + 1 := by omega
  clear hA hX hlen hK hC hw hv hsX hst hm hX2
  go_enter Tryz.func83, Tryz.ntmps83
  go_wp2_with fail
  go_loopw [14, 15, 16] (fun i j _ wr => FindRel2 key w X (key y) a m i j wr) (fun i j _ _ => (intOf j).toNat - (intOf i).toNat)
  case atStart => exact ⟨a, m, 0, Nat.le_refl _, by omega, Nat.le_refl _, rfl, rfl, rfl, fun t ht => by omega, fun t h1 h2 => by have := HX.out; omega⟩
  case round =>
    obtain ⟨lo, hi, q, h1, h2, h3, rfl, rfl, rfl, hlo, hhi⟩ := hrel
    have HLO := Lib.hid hlo
    have HHI := Lib.hid hhi
    clear hlo hhi
    by_cases hlt : lo < hi
    · have ht : (lo + hi) / 2 - a < X.length := by have := HX.out; omega
      have e1 : A.length + ((lo + hi) / 2 - a) = (lo + hi) / 2 := by have := HA.out; omega
      have e2 : A.length + X.length = m := by have := HA.out; have := HX.out; omega
      have cx : w.cell? ⟨g, (lo + hi) / 2, none⟩ = some (.int .i64 (X[(lo + hi) / 2 - a]?.getD 0)) := by
        have h := get_blk1 A X [y] Z _ ht
        rw [e1] at h
        rw [hr.cell (by rw [ints_length, HL.out]; omega), ints_get _ _ (by rw [HL.out]; omega), h]
      have cy : w.cell? ⟨g, m, none⟩ = some (.int .i64 y) := by
        have h := get_blk2 A X Z y
        rw [e2] at h
        rw [hr.cell (by rw [ints_length, HL.out]; omega), ints_get _ _ (by rw [HL.out]; omega), h]
      have vy := HV.out y (by simp)
      have vx := HV.out (X[(lo + hi) / 2 - a]?.getD 0) (by rw [List.getElem?_eq_getElem ht]; simp)
      obtain ⟨ky1, ky2⟩ := HK.out y
      obtain ⟨kx1, kx2⟩ := HK.out (X[(lo + hi) / 2 - a]?.getD 0)
      have cc : Hid (∀ q, Calls Tryz.prog 25 #[.int .i64 y, .int .i64 (X[(lo + hi) / 2 - a]?.getD 0), c1, c2, c3] (w.drewN q) fun e w' => e = .returned (.int .i64 (key y - key (X[(lo + hi) / 2 - a]?.getD 0))) ∧ ∃ m, w' = (w.drewN q).drewN m) :=
        fun q => HC.out _ (only_drewN HW.out q) _ _ vy.1 vy.2 vx.1 vx.2
      have srt := fun i j h1 h2 => srt_idx HS.out i j h1 h2
      by_cases hc : key y < key (X[(lo + hi) / 2 - a]?.getD 0)
      · have t2 : decide (key y - key (X[(lo + hi) / 2 - a]?.getD 0) < 0) = true := by simp; omega
        have hn : Hid (∀ t, (lo + hi) / 2 - a ≤ t → t < X.length → key y < key (X[t]?.getD 0)) := fun t ht2 ht3 => by
          have := srt ((lo + hi) / 2 - a) t ht2 ht3
          omega
        clear e1 e2 vx vy srt ht
        go_wp2_with fail
        go_quiet ((go_at_call 25; exact quiet_add (cc.out _)))
        go_wp2_with fail
        go_roundw
        case rel => exact ⟨lo, (lo + hi) / 2, _, h1, by omega, by omega, rfl, by go_num, World.drewN_drewN _ _ _, HLO.out, hn.out⟩
        case measure => simp [intOf]; omega
      · have t2 : decide (key y - key (X[(lo + hi) / 2 - a]?.getD 0) < 0) = false := by simp; omega
        have hn : Hid (∀ t, t < (lo + hi) / 2 + 1 - a → key (X[t]?.getD 0) ≤ key y) := fun t ht2 => by
          have := srt t ((lo + hi) / 2 - a) (by omega) ht
          omega
        clear e1 e2 vx vy srt ht
        go_wp2_with fail
        go_quiet ((go_at_call 25; exact quiet_add (cc.out _)))
        go_wp2_with fail
        go_roundw
        case rel => exact ⟨(lo + hi) / 2 + 1, hi, _, by omega, by omega, h3, by go_num, rfl, rfl, hn.out, HHI.out⟩
        case measure => simp [intOf]; omega
    · obtain rfl : lo = hi := by omega
      have hlo := HLO.out
      have hhi := HHI.out
      have y1 : ∀ x ∈ X.take (lo - a), key x ≤ key y := fun x hy => by
        obtain ⟨i, hi1, hi2, rfl⟩ := mem_take_idx hy
        exact hlo i hi1
      have y2 : ∀ x ∈ X.drop (lo - a), key y < key x := fun x hy => by
        obtain ⟨i, hi1, hi2, rfl⟩ := mem_drop_idx hy
        exact hhi i hi1 hi2
      have hs1 : Hid (Srt key (X.take (lo - a) ++ ([y] ++ X.drop (lo - a)))) := srt_insert (by rw [List.take_append_drop]; exact HS.out) y1 (fun x hx => Int.le_of_lt (y2 x hx))
      have hs2 : Hid (Stb key (A ++ (X.take (lo - a) ++ ([y] ++ X.drop (lo - a))) ++ Z)) := by
        have h := HT.out
        have e : A ++ (X ++ [y]) ++ Z = (A ++ X.take (lo - a)) ++ (X.drop (lo - a) ++ [y]) ++ Z := by
          conv => lhs; rw [← List.take_append_drop (lo - a) X]
          simp only [List.append_assoc]
        rw [e] at h
        have h2 := stb_rot h (fun u hu v hv => by simp at hv; subst hv; exact y2 u hu)
        show Stb key _
        simpa using h2
      have hs3 : Hid ((X.take (lo - a) ++ ([y] ++ X.drop (lo - a))).Perm (X ++ [y])) := by
        show List.Perm _ _
        refine (List.Perm.append_left _ List.perm_append_comm).trans ?_
        rw [← List.append_assoc, List.take_append_drop]
      clear hlo hhi y1 y2 HLO HHI
      obtain ⟨wo, hwo⟩ : ∃ wo, wo = w.drewN q := ⟨_, rfl⟩
      have hro : RowAt wo g 3 (ints (A ++ X.take X.length ++ [y] ++ X.drop X.length ++ Z)) := by rw [hwo]; simpa using hr.drewN q
      have hgo : w.grownBy wo (some g) := by rw [hwo]; exact only_drewN (only_refl _ _) q
      rw [← hwo]
      clear hr hwo
      go_wp2_with fail
      go_loopw [17] (DownRel w g a A X Z y (lo - a)) (fun i _ => (intOf i).toNat)
      case atStart => exact ⟨X.length, by rw [HX.out], by have := HX.out; omega, Nat.le_refl _, hro, hgo⟩
      case round =>
        obtain ⟨k, rfl, hk, hk2, ro, gr⟩ := hrel
        have hkm : a + k ≤ m := by have := HX.out; omega
        by_cases hlt3 : lo - a < k
        · obtain ⟨j, rfl⟩ : ∃ j, k = j + 1 := ⟨k - 1, by omega⟩
          have hkX : j < X.length := by omega
          have e0 : A ++ X.take (j + 1) ++ [y] ++ X.drop (j + 1) ++ Z = (A ++ X.take j) ++ [X[j]] ++ [] ++ [y] ++ (X.drop (j + 1) ++ Z) := by rw [List.take_succ_eq_append_getElem hkX]; simp only [List.append_assoc, List.cons_append, List.nil_append]
          obtain ⟨p, hp⟩ : ∃ p, p = a + (j + 1) := ⟨_, rfl⟩
          have p1 : lo < p := by omega
          have p2 : p ≤ m := by omega
          have e1 : (A ++ X.take j).length = p - 1 := by have := HA.out; simp; omega
          have e2 : (A ++ X.take j).length + 1 + ([] : List Int).length = p := by rw [e1]; simp; omega
          have hl : (A ++ X.take (j + 1) ++ [y] ++ X.drop (j + 1) ++ Z).length = len := by
            have h := HL.out
            simp only [List.length_append, List.length_take, List.length_drop, List.length_cons, List.length_nil] at h ⊢
            omega
          have cx : wr.cell? ⟨g, p - 1, none⟩ = some (.int .i64 X[j]) := by
            rw [ro.cell (by rw [ints_length, hl]; omega), ints_get _ _ (by rw [hl]; omega), e0, ← e1, get_first]
          have cy : wr.cell? ⟨g, p, none⟩ = some (.int .i64 y) := by
            rw [ro.cell (by rw [ints_length, hl]; omega), ints_get _ _ (by rw [hl]; omega), e0, ← e2, get_second]
          have c3 := ro.frozen (p - 1)
          have c4 := ro.frozen p
          have hne : (⟨g, p - 1, none⟩ : Addr) ≠ ⟨g, p, none⟩ := fun e => by injection e; omega
          have hne2 : (⟨g, p, none⟩ : Addr) ≠ ⟨g, p - 1, none⟩ := fun e => by injection e; omega
          have ro' := (ro.set p (.int .i64 X[j])).set (p - 1) (.int .i64 y)
          rw [ints_set, ints_set, e0, List.set_comm _ _ (by omega), swap_at e1 e2] at ro'
          have e5 : (A ++ X.take j) ++ [y] ++ [] ++ [X[j]] ++ (X.drop (j + 1) ++ Z) = A ++ X.take j ++ [y] ++ X.drop j ++ Z := by rw [List.drop_eq_getElem_cons hkX]; simp only [List.append_assoc, List.cons_append, List.nil_append]
          rw [e5] at ro'
          clear e0 e1 e2 hl e5 ro
          generalize X[j] = x at *
          rw [← hp]
          have hp2 : a + j = p - 1 := by omega
          have HP := Lib.hid hp2
          clear hp hp2
          go_wp2_with fail
          go_region
          go_wp2_with fail
          go_roundw
          case rel => exact ⟨j, by rw [HP.out]; congr 1; omega, by omega, by omega, ro', only_drewN (only_setCell (only_setCell gr (.inl rfl) _) (.inl rfl) _) 1⟩
          case measure => simp [intOf]; omega
        · obtain rfl : k = lo - a := by omega
          have e : A ++ X.take (lo - a) ++ [y] ++ X.drop (lo - a) ++ Z = A ++ (X.take (lo - a) ++ ([y] ++ X.drop (lo - a))) ++ Z := by simp
          rw [e] at ro
          have ek : a + (lo - a) = lo := by omega
          rw [ek]
          clear e ek
          go_wp2_with fail
          exact bodyPost_ret (results_none rfl _ _ _) rfl ⟨_, rfl, hs3.out, hs1.out, hs2.out, ro, gr⟩

end Go.Proofs.YtnikhbdjlipcbaaGreatDoor.Spl
