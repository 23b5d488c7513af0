/-
  slices.symMergeCmpFunc at ints, whole: by induction on the length.
-/
import Derived.Test.YtnikhbdjlipcbaaGreatDoorWd
import Derived.Deep.DeepCutAuto
namespace Go.Proofs.YtnikhbdjlipcbaaGreatDoor.Spl
open Go.RowKit

/-- The search for the place where both blocks are cut. L: the row; p: the sum of the two places, less one. -/
def CutRel (key : Int → Int) (w1 : World) (L : List Int) (p lo0 hi0 : Nat) (i j : Value) (wr : World) : Prop :=
  ∃ lo hi q : Nat, lo0 ≤ lo ∧ lo ≤ hi ∧ hi ≤ hi0 ∧ i = .int .i64 lo ∧ j = .int .i64 hi ∧ wr = w1.drewN q ∧
    (lo = lo0 ∨ key (L[lo - 1]?.getD 0) ≤ key (L[p + 1 - lo]?.getD 0)) ∧ (hi = hi0 ∨ key (L[p - hi]?.getD 0) < key (L[hi]?.getD 0))

/-- What the search finds: the four blocks. -/
theorem cut_blocks {key : Int → Int} {A X Y Z L : List Int} {a m b lo : Nat} (hL : L = A ++ X ++ Y ++ Z) (hA : A.length = a) (hX : a + X.length = m) (hY : m + Y.length = b)
    (sX : Srt key X) (sY : Srt key Y) (h1 : a ≤ lo) (h2 : lo ≤ m) (e : Nat) (h3 : m ≤ e) (h4 : e ≤ b)
    (hlo : lo = a ∨ e = b ∨ key (L[lo - 1]?.getD 0) ≤ key (L[e]?.getD 0)) (hhi : lo = m ∨ e = m ∨ key (L[e - 1]?.getD 0) < key (L[lo]?.getD 0)) :
    (∀ x ∈ X.drop (lo - a), ∀ y ∈ Y.take (e - m), key y < key x) ∧ (∀ x ∈ X.take (lo - a), ∀ y ∈ Y.drop (e - m), key x ≤ key y) := by
  subst hL
  constructor
  · intro x hx y hy
    obtain ⟨i, i1, i2, rfl⟩ := mem_drop_idx hx
    obtain ⟨j, j1, j2, rfl⟩ := mem_take_idx hy
    rcases hhi with h | h | h
    · omega
    · omega
    · have e1 := get_blk A X Y Z (e - 1 - m) (by omega)
      rw [show A.length + X.length + (e - 1 - m) = e - 1 by omega] at e1
      have e2 := get_blk1 A X Y Z (lo - a) (by omega)
      rw [show A.length + (lo - a) = lo by omega] at e2
      rw [e1, e2] at h
      have s1 := srt_idx sX (lo - a) i i1 i2
      have s2 := srt_idx sY j (e - 1 - m) (by omega) (by omega)
      omega
  · intro x hx y hy
    obtain ⟨i, i1, i2, rfl⟩ := mem_take_idx hx
    obtain ⟨j, j1, j2, rfl⟩ := mem_drop_idx hy
    rcases hlo with h | h | h
    · omega
    · omega
    · have e1 := get_blk A X Y Z (e - m) (by omega)
      rw [show A.length + X.length + (e - m) = e by omega] at e1
      have e2 := get_blk1 A X Y Z (lo - 1 - a) (by omega)
      rw [show A.length + (lo - 1 - a) = lo - 1 by omega] at e2
      rw [e1, e2] at h
      have s1 := srt_idx sX i (lo - 1 - a) (by omega) (by omega)
      have s2 := srt_idx sY (e - m) j (by omega) j2
      omega

/-- The contract of symMerge for blocks of together at most n elements. -/
def MergeSaid (key : Int → Int) (N : Int) (g len cap : Nat) (c1 c2 c3 : Value) (w0 : World) (n : Nat) : Prop :=
  ∀ (a m b : Int) (A X Y Z L : List Int) (w : World), X.length + Y.length ≤ n → a = (A.length : Nat) → m = (A.length + X.length : Nat) → b = (A.length + X.length + Y.length : Nat) → 1 ≤ X.length → 1 ≤ Y.length →
    L.length = len → L = A ++ X ++ Y ++ Z → w0.grownBy w (some g) → Valid N L → Srt key X → Srt key Y → Stb key L → RowAt w g 3 (ints L) →
    Calls Tryz.prog 83 #[.slice (some ⟨g, 0, none⟩) len cap, .int .i64 a, .int .i64 m, .int .i64 b, .func (.func 25) #[] #[c1, c2, c3]] w (MergePost key w g A (X ++ Y) Z)

set_option maxHeartbeats 4000000 in
set_option maxRecDepth 100000 in
/-- Behind the rotation: the two halves, each merged if both its blocks hold something. -/
theorem merge_big (key : Int → Int) (N : Int) (g len cap a m b n : Nat) (A X Y Z : List Int) (c1 c2 c3 : Value) (w0 w : World) (ih : MergeSaid key N g len cap c1 c2 c3 w0 n) (hn : X.length + Y.length ≤ n + 1)
    (hA : A.length = a) (hX : a + X.length = m) (hY : m + Y.length = b) (hX2 : 2 ≤ X.length) (hY2 : 2 ≤ Y.length)
    (hlen : (A ++ X ++ Y ++ Z).length = len) (hbig : len ≤ 4611686018427387903) (hK : KeyOK key) (hC : CmpOK key N g #[c1, c2, c3] w0) (hw : w0.grownBy w (some g)) (hv : Valid N (A ++ X ++ Y ++ Z))
    (hsX : Srt key X) (hsY : Srt key Y) (hst : Stb key (A ++ X ++ Y ++ Z)) (hr : RowAt w g 3 (ints (A ++ X ++ Y ++ Z))) :
    Calls Tryz.prog 83 #[.slice (some ⟨g, 0, none⟩) len cap, .int .i64 a, .int .i64 m, .int .i64 b, .func (.func 25) #[] #[c1, c2, c3]] w (MergePost key w g A (X ++ Y) Z) := by
  have HA := Lib.hid hA
  have HX := Lib.hid hX
  have HY := Lib.hid hY
  have HL := Lib.hid hlen
  have HK := Lib.hid hK
  have HC := Lib.hid hC
  have HW := Lib.hid hw
  have HV := Lib.hid hv
  have HSX := Lib.hid hsX
  have HSY := Lib.hid hsY
  have HT := Lib.hid hst
  have HR := Lib.hid hr
  have HIH := Lib.hid ih
  have HN := Lib.hid hn
  have hb : b ≤ len := by simp at hlen; omega
  have ham : a + 2 ≤ m := by omega
  have hmb : m + 2 ≤ b := by omega
  have t0 : ((m : Int) - a == 1) = false := by simp; omega
  have t1 : ((b : Int) - m == 1) = false := by simp; omega
  clear hA hX hlen hK hC hw hv hsX hsY hst hX2 hY2 hr ih hn hY
  obtain ⟨d, hd⟩ : ∃ d, d = (a + b) / 2 := ⟨_, rfl⟩
  have hd2 : ((a : Int) + b) / 2 = d := by omega
  have HD := Lib.hid hd
  have HD2 := Lib.hid hd2
  have hd3 : d ≤ b := by omega
  have hd4 : a + b ≤ d + d + 1 := by omega
  have hd5 : d + d ≤ a + b := by omega
  clear hd hd2
  go_enter Tryz.func83, Tryz.ntmps83
  go_upto_if 140 with (fail)
  rw [HD2.out]
  go_cut [20, 21] (fun s20 s21 wx => ∃ lo0 hi0 : Nat, s20 = .int .i64 lo0 ∧ s21 = .int .i64 hi0 ∧ a ≤ lo0 ∧ lo0 ≤ hi0 ∧ hi0 ≤ m ∧ hi0 ≤ d ∧ d + m ≤ lo0 + b ∧ (lo0 = a ∨ lo0 + b = d + m) ∧ (hi0 = m ∨ hi0 = d) ∧ w = wx)
  case first => as_aux_lemma =>
    by_cases hmid : d < m
    · go_wp2_with fail
      go_meet
      exact ⟨d + m - b, d, by congr 1; omega, rfl, by omega, by omega, by omega, by omega, by omega, by omega, by omega, rfl⟩
    · go_wp2_with fail
      go_meet
      exact ⟨a, m, rfl, rfl, by omega, by omega, by omega, by omega, by omega, by omega, by omega, rfl⟩
  case rest => as_aux_lemma =>
    obtain ⟨lo0, hi0, rfl, rfl, f1, f2, f3, f4, f5, f6, f7, rfl⟩ := hcut
    have F6 := Lib.hid f6
    have F7 := Lib.hid f7
    clear f6 f7
    obtain ⟨p, hp⟩ : ∃ p, p + 1 = d + m := ⟨d + m - 1, by omega⟩
    have hp2 : (d : Int) + m - 1 = p := by omega
    have HP := Lib.hid hp
    have HP2 := Lib.hid hp2
    have hp3 : p ≤ len + len := by omega
    clear hp hp2
    obtain ⟨L, hLd⟩ : ∃ L, L = A ++ X ++ Y ++ Z := ⟨_, rfl⟩
    have HLd := Lib.hid hLd
    have hLl : Hid (L.length = len) := by have := HL.out; rw [← hLd] at this; exact this
    have hRL : Hid (RowAt w g 3 (ints L)) := by have := HR.out; rw [← hLd] at this; exact this
    have hVL : Hid (Valid N L) := by have := HV.out; rw [← hLd] at this; exact this
    clear hLd
    go_wp2_with fail
    rw [HP2.out]
    go_loopw [20, 21, 23] (fun i j _ wr => CutRel key w L p lo0 hi0 i j wr) (fun i j _ _ => (intOf j).toNat - (intOf i).toNat)
    case atStart => exact ⟨lo0, hi0, 0, Nat.le_refl _, f2, Nat.le_refl _, rfl, rfl, rfl, .inl rfl, .inl rfl⟩
    case round => as_aux_lemma =>
      obtain ⟨lo, hi, q, h1, h2, h3, rfl, rfl, rfl, hlo, hhi⟩ := hrel
      have HLO := Lib.hid hlo
      have HHI := Lib.hid hhi
      clear hlo hhi
      by_cases hlt : lo < hi
      · have q1 : (lo + hi) / 2 < len := by have := HL.out; omega
        have q2 : p - (lo + hi) / 2 < len := by have := HP.out; omega
        have q3 : (lo + hi) / 2 ≤ p := by have := HP.out; omega
        have cx : w.cell? ⟨g, (lo + hi) / 2, none⟩ = some (.int .i64 (L[(lo + hi) / 2]?.getD 0)) := by
          rw [hRL.out.cell (by rw [ints_length, hLl.out]; omega), ints_get _ _ (by rw [hLl.out]; omega)]
        have cy : w.cell? ⟨g, p - (lo + hi) / 2, none⟩ = some (.int .i64 (L[p - (lo + hi) / 2]?.getD 0)) := by
          rw [hRL.out.cell (by rw [ints_length, hLl.out]; omega), ints_get _ _ (by rw [hLl.out]; omega)]
        have vx := valid_get hVL.out (i := (lo + hi) / 2) (by rw [hLl.out]; omega)
        have vy := valid_get hVL.out (i := p - (lo + hi) / 2) (by rw [hLl.out]; omega)
        obtain ⟨kx1, kx2⟩ := HK.out (L[(lo + hi) / 2]?.getD 0)
        obtain ⟨ky1, ky2⟩ := HK.out (L[p - (lo + hi) / 2]?.getD 0)
        have cc : Hid (∀ q, Calls Tryz.prog 25 #[.int .i64 (L[p - (lo + hi) / 2]?.getD 0), .int .i64 (L[(lo + hi) / 2]?.getD 0), c1, c2, c3] (w.drewN q) fun e w' => e = .returned (.int .i64 (key (L[p - (lo + hi) / 2]?.getD 0) - key (L[(lo + hi) / 2]?.getD 0))) ∧ ∃ m, w' = (w.drewN q).drewN m) :=
          fun q => HC.out _ (only_drewN HW.out q) _ _ vy.1 vy.2 vx.1 vx.2
        clear vx vy
        by_cases hc : key (L[p - (lo + hi) / 2]?.getD 0) < key (L[(lo + hi) / 2]?.getD 0)
        · have t2 : decide (key (L[p - (lo + hi) / 2]?.getD 0) - key (L[(lo + hi) / 2]?.getD 0) < 0) = true := by simp; omega
          have hn : Hid ((lo + hi) / 2 = hi0 ∨ key (L[p - (lo + hi) / 2]?.getD 0) < key (L[(lo + hi) / 2]?.getD 0)) := .inr hc
          go_wp2_with fail
          go_quiet ((go_at_call 25; exact quiet_add (cc.out _)))
          go_wp2_with fail
          go_roundw
          case rel => exact ⟨lo, (lo + hi) / 2, _, h1, by omega, by omega, rfl, by go_num, World.drewN_drewN _ _ _, HLO.out, hn.out⟩
          case measure => simp [intOf]; omega
        · have t2 : decide (key (L[p - (lo + hi) / 2]?.getD 0) - key (L[(lo + hi) / 2]?.getD 0) < 0) = false := by simp; omega
          have hn : Hid ((lo + hi) / 2 + 1 = lo0 ∨ key (L[(lo + hi) / 2 + 1 - 1]?.getD 0) ≤ key (L[p + 1 - ((lo + hi) / 2 + 1)]?.getD 0)) := by
            right
            rw [show (lo + hi) / 2 + 1 - 1 = (lo + hi) / 2 by omega, show p + 1 - ((lo + hi) / 2 + 1) = p - (lo + hi) / 2 by omega]
            omega
          go_wp2_with fail
          go_quiet ((go_at_call 25; exact quiet_add (cc.out _)))
          go_wp2_with fail
          go_roundw
          case rel => exact ⟨(lo + hi) / 2 + 1, hi, _, by omega, by omega, h3, by go_num, rfl, rfl, hn.out, HHI.out⟩
          case measure => simp [intOf]; omega
      · obtain rfl : lo = hi := by omega
        obtain ⟨e, he⟩ : ∃ e, e + lo = d + m := ⟨d + m - lo, by omega⟩
        have he2 : (d : Int) + m - lo = e := by omega
        have he3 : m ≤ e := by omega
        have he4 : e ≤ b := by omega
        have he5 : lo ≤ m := by omega
        have he6 : a ≤ lo := by omega
        have HE2 := Lib.hid he2
        have HE := Lib.hid he
        have hbl : Hid ((∀ x ∈ X.drop (lo - a), ∀ y ∈ Y.take (e - m), key y < key x) ∧ (∀ x ∈ X.take (lo - a), ∀ y ∈ Y.drop (e - m), key x ≤ key y)) := by
          refine cut_blocks HLd.out HA.out HX.out HY.out HSX.out HSY.out he6 he5 e he3 he4 ?_ ?_
          · have h := HLO.out
            have := HP.out
            rw [show p + 1 - lo = e by omega] at h
            have := F6.out
            omega
          · have h := HHI.out
            have := HP.out
            rw [show p - lo = e - 1 by omega] at h
            have := F7.out
            omega
        clear he he2
        obtain ⟨wo, hwo⟩ : ∃ wo, wo = w.drewN q := ⟨_, rfl⟩
        have ro0 : RowAt wo g 3 (ints (A ++ X ++ Y ++ Z)) := by rw [hwo]; exact HR.out.drewN q
        have gr0 : w.grownBy wo (some g) := by rw [hwo]; exact only_drewN (only_refl _ _) q
        rw [← hwo]
        have HWO := Lib.hid hwo
        clear hwo
        go_upto_region 39 with (fail)
        rw [HE2.out]
        have x12 : X.take (lo - a) ++ X.drop (lo - a) = X := List.take_append_drop _ _
        have y12 : Y.take (e - m) ++ Y.drop (e - m) = Y := List.take_append_drop _ _
        have l1 : (X.take (lo - a)).length = lo - a := by have := HX.out; simp; omega
        have l2 : (X.drop (lo - a)).length = m - lo := by have := HX.out; simp; omega
        have l3 : (Y.take (e - m)).length = e - m := by have := HY.out; simp; omega
        have l4 : (Y.drop (e - m)).length = b - e := by have := HY.out; simp; omega
        generalize X.take (lo - a) = X1 at *
        generalize X.drop (lo - a) = X2 at *
        generalize Y.take (e - m) = Y1 at *
        generalize Y.drop (e - m) = Y2 at *
        have X12 := Lib.hid x12
        have Y12 := Lib.hid y12
        have L1 := Lib.hid l1
        have L2 := Lib.hid l2
        have L3 := Lib.hid l3
        have L4 := Lib.hid l4
        clear x12 y12 l1 l2 l3 l4
        go_cut [185] (fun s wx => ∃ B : Bool, s = .bool B ∧ (B = true ↔ (lo < m ∧ m < e)) ∧ wo = wx)
        case first => as_aux_lemma =>
          by_cases r1 : lo < m
          · by_cases r2 : m < e
            · go_wp2_with fail
              go_meet
              exact ⟨true, rfl, by simp [r1, r2], rfl⟩
            · go_wp2_with fail
              go_meet
              exact ⟨false, rfl, by simp [r2], rfl⟩
          · go_wp2_with fail
            go_meet
            exact ⟨false, rfl, by simp [r1], rfl⟩
        case rest => as_aux_lemma =>
          obtain ⟨B, rfl, hB, rfl⟩ := hcut
          have HB := Lib.hid hB
          clear hB
          have x0 : Hid (Srt key X1 ∧ Srt key X2) := by have h := HSX.out; rw [← X12.out, srt_append] at h; exact ⟨h.1, h.2.1⟩
          have y0 : Hid (Srt key Y1 ∧ Srt key Y2) := by have h := HSY.out; rw [← Y12.out, srt_append] at h; exact ⟨h.1, h.2.1⟩
          have e0 : Hid (A ++ X ++ Y ++ Z = (A ++ X1) ++ X2 ++ Y1 ++ (Y2 ++ Z)) := by
            show _ = _
            rw [← X12.out, ← Y12.out]; simp only [List.append_assoc]
          have e1 : Hid ((A ++ X1 ++ X2 ++ Y1 ++ (Y2 ++ Z)).length = len) := by show _ = _; rw [← e0.out]; exact HL.out
          have st1 : Hid (Stb key (A ++ (X1 ++ Y1) ++ (X2 ++ Y2 ++ Z))) := by
            have h := HT.out
            rw [e0.out, List.append_assoc (A ++ X1)] at h
            have h2 := stb_rot h hbl.out.1
            show Stb key _
            simpa only [List.append_assoc] using h2
          have p1 : Hid ((A ++ X1 ++ Y1 ++ (X2 ++ Y2 ++ Z)).Perm (A ++ X ++ Y ++ Z)) := by
            show List.Perm _ _
            rw [e0.out]
            simp only [List.append_assoc]
            exact List.Perm.append_left _ (List.Perm.append_left _ (List.perm_append_comm_assoc _ _ _))
          go_upto_if 185 with (fail)
          go_cut [] (fun wx => RowAt wx g 3 (ints (A ++ X1 ++ Y1 ++ (X2 ++ Y2 ++ Z))) ∧ w.grownBy wx (some g))
          case first => as_aux_lemma =>
            cases B
            · go_wp2_with fail
              go_meet
              refine ⟨?_, gr0⟩
              have hB := HB.out
              have e2 : X2 ++ Y1 = Y1 ++ X2 := by
                by_cases r1 : lo < m
                · have : Y1 = [] := List.eq_nil_of_length_eq_zero (by have := L3.out; have h2 : ¬ m < e := fun h => Bool.noConfusion (hB.2 ⟨r1, h⟩); omega)
                  rw [this]; simp
                · have : X2 = [] := List.eq_nil_of_length_eq_zero (by have := L2.out; omega)
                  rw [this]; simp
              have e3 : A ++ X ++ Y ++ Z = A ++ X1 ++ Y1 ++ (X2 ++ Y2 ++ Z) := by
                rw [e0.out, List.append_assoc (A ++ X1), e2]; simp only [List.append_assoc]
              rw [← e3]
              exact ro0
            · have hB := HB.out.1 rfl
              obtain ⟨r1, r2⟩ := hB
              go_wp2_with fail
              refine (rotate_any g len cap lo m e (A ++ X1) X2 Y1 (Y2 ++ Z) _ _ (by have := L1.out; have := HA.out; simp; omega) (by rw [L2.out]; omega) (by rw [L3.out]; omega) (by rw [L2.out]; omega) (by rw [L3.out]; omega) e1.out hbig (by rw [← e0.out]; exact ro0)).mono ?_
              rintro ee w1 ⟨rfl, ro1, gr1⟩
              go_wp2_with fail
              go_meet
              refine ⟨?_, only_trans gr0 gr1⟩
              have e3 : A ++ X1 ++ (Y1 ++ X2) ++ (Y2 ++ Z) = A ++ X1 ++ Y1 ++ (X2 ++ Y2 ++ Z) := by simp only [List.append_assoc]
              rw [← e3]
              exact ro1
          case rest => as_aux_lemma =>
            obtain ⟨ro1, gr1⟩ := hcut
            clear HWO ro0 gr0 HB e0 e1
            rename World => w1
            go_upto_region 41 with (fail)
            go_cut [199] (fun s wx => ∃ B : Bool, s = .bool B ∧ (B = true ↔ (a < lo ∧ lo < d)) ∧ w1 = wx)
            case first => as_aux_lemma =>
              by_cases r1 : a < lo
              · by_cases r2 : lo < d
                · go_wp2_with fail
                  go_meet
                  exact ⟨true, rfl, by simp [r1, r2], rfl⟩
                · go_wp2_with fail
                  go_meet
                  exact ⟨false, rfl, by simp [r2], rfl⟩
              · go_wp2_with fail
                go_meet
                exact ⟨false, rfl, by simp [r1], rfl⟩
            case rest => as_aux_lemma =>
              obtain ⟨B, rfl, hB, rfl⟩ := hcut
              have HB := Lib.hid hB
              clear hB
              have dl : d + m ≤ e + lo := by have := HE.out; omega
              have dl2 : e + lo ≤ d + m := by have := HE.out; omega
              have lX : Hid (X.length + Y.length = b - a) := by have := HX.out; have := HY.out; show _ = _; omega
              go_upto_if 199 with (fail)
              go_cut [] (fun wx => ∃ M1, M1.Perm (X1 ++ Y1) ∧ Srt key M1 ∧ Stb key (A ++ M1 ++ (X2 ++ Y2 ++ Z)) ∧ RowAt wx g 3 (ints (A ++ M1 ++ (X2 ++ Y2 ++ Z))) ∧ w.grownBy wx (some g))
              case first => as_aux_lemma =>
                cases B
                · go_wp2_with fail
                  go_meet
                  refine ⟨X1 ++ Y1, List.Perm.refl _, ?_, st1.out, by simpa only [List.append_assoc] using ro1, gr1⟩
                  have hB := HB.out
                  by_cases r1 : a < lo
                  · have : Y1 = [] := List.eq_nil_of_length_eq_zero (by have := L3.out; have h2 : ¬ lo < d := fun h => Bool.noConfusion (hB.2 ⟨r1, h⟩); omega)
                    rw [this, List.append_nil]; exact x0.out.1
                  · have : X1 = [] := List.eq_nil_of_length_eq_zero (by have := L1.out; omega)
                    rw [this, List.nil_append]; exact y0.out.1
                · have hB := HB.out.1 rfl
                  obtain ⟨r1, r2⟩ := hB
                  go_wp2_with fail
                  refine (HIH.out _ _ _ A X1 Y1 (X2 ++ Y2 ++ Z) (A ++ X1 ++ Y1 ++ (X2 ++ Y2 ++ Z)) _ (by have := L1.out; have := L3.out; have := HN.out; have := lX.out; omega) (by rw [HA.out]) (by rw [L1.out, HA.out]; omega) (by rw [L1.out, HA.out, L3.out]; omega) (by rw [L1.out]; omega) (by rw [L3.out]; omega)
                    (by rw [p1.out.length_eq]; exact HL.out) rfl (only_trans HW.out gr1) (valid_perm HV.out p1.out) x0.out.1 y0.out.1 (by have := st1.out; simpa only [List.append_assoc] using this) ro1).mono ?_
                  rintro ee w2 ⟨M1, rfl, m1, m2, m3, m4, m5⟩
                  go_wp2_with fail
                  go_meet
                  exact ⟨M1, m1, m2, m3, m4, only_trans gr1 m5⟩
              case rest => as_aux_lemma =>
                obtain ⟨M1, m1, m2, m3, m4, m5⟩ := hcut
                have p2 : Hid ((A ++ M1 ++ (X2 ++ Y2 ++ Z)).Perm (A ++ X ++ Y ++ Z)) := by
                  refine List.Perm.trans ?_ p1.out
                  rw [List.append_assoc A X1]
                  exact List.Perm.append_right _ (List.Perm.append_left _ m1)
                have lM : Hid (M1.length = d - a) := by
                  have := m1.length_eq; have h1 := L1.out; have h3 := L3.out
                  show _ = _
                  simp at this; omega
                clear ro1 gr1 HB st1
                have M_1 := Lib.hid m1
                have M_2 := Lib.hid m2
                have M_3 := Lib.hid m3
                clear m1 m2 m3
                rename World => w2
                go_upto_region 43 with (fail)
                go_cut [213] (fun s wx => ∃ B : Bool, s = .bool B ∧ (B = true ↔ (d < e ∧ e < b)) ∧ w2 = wx)
                case first => as_aux_lemma =>
                  by_cases r1 : d < e
                  · by_cases r2 : e < b
                    · go_wp2_with fail
                      go_meet
                      exact ⟨true, rfl, by simp [r1, r2], rfl⟩
                    · go_wp2_with fail
                      go_meet
                      exact ⟨false, rfl, by simp [r2], rfl⟩
                  · go_wp2_with fail
                    go_meet
                    exact ⟨false, rfl, by simp [r1], rfl⟩
                case rest => as_aux_lemma =>
                  obtain ⟨B, rfl, hB, rfl⟩ := hcut
                  have HB := Lib.hid hB
                  clear hB
                  cases B
                  · have hB := HB.out
                    have hs2 : Hid (Srt key (X2 ++ Y2)) := by
                      show Srt key _
                      by_cases r1 : d < e
                      · have : Y2 = [] := List.eq_nil_of_length_eq_zero (by have := L4.out; have h2 : ¬ e < b := fun h => Bool.noConfusion (hB.2 ⟨r1, h⟩); omega)
                        rw [this, List.append_nil]; exact x0.out.2
                      · have : X2 = [] := List.eq_nil_of_length_eq_zero (by have := L2.out; omega)
                        rw [this, List.nil_append]; exact y0.out.2
                    have fin : Hid (Srt key (M1 ++ (X2 ++ Y2)) ∧ (M1 ++ (X2 ++ Y2)).Perm (X ++ Y)) := by
                      have := srt_merge (by rw [X12.out]; exact HSX.out) (by rw [Y12.out]; exact HSY.out) hbl.out.1 hbl.out.2 M_1.out (List.Perm.refl _) M_2.out hs2.out
                      rwa [X12.out, Y12.out] at this
                    clear hB
                    go_wp2_with fail
                    go_end0
                    exact ⟨_, rfl, fin.out.2, fin.out.1, by have := M_3.out; simpa only [List.append_assoc] using this, by simpa only [List.append_assoc] using m4, m5⟩
                  · have hB := HB.out.1 rfl
                    obtain ⟨r1, r2⟩ := hB
                    go_wp2_with fail
                    refine (HIH.out _ _ _ (A ++ M1) X2 Y2 Z (A ++ M1 ++ (X2 ++ Y2 ++ Z)) _ (by have := L2.out; have := L4.out; have := HN.out; have := lX.out; omega) (by have := HA.out; have := lM.out; simp; omega) (by have := HA.out; have := lM.out; have := L2.out; simp; omega) (by have := HA.out; have := lM.out; have := L2.out; have := L4.out; simp; omega) (by rw [L2.out]; omega) (by rw [L4.out]; omega)
                      (by rw [p2.out.length_eq]; exact HL.out) (by simp only [List.append_assoc]) (only_trans HW.out m5) (valid_perm HV.out p2.out) x0.out.2 y0.out.2 M_3.out m4).mono ?_
                    rintro ee w3 ⟨M2, rfl, n1, n2, n3, n4, n5⟩
                    have fin : Hid (Srt key (M1 ++ M2) ∧ (M1 ++ M2).Perm (X ++ Y)) := by
                      have := srt_merge (by rw [X12.out]; exact HSX.out) (by rw [Y12.out]; exact HSY.out) hbl.out.1 hbl.out.2 M_1.out n1 M_2.out n2
                      rwa [X12.out, Y12.out] at this
                    go_wp2_with fail
                    go_end0
                    exact ⟨_, rfl, fin.out.2, fin.out.1, by simpa only [List.append_assoc] using n3, by simpa only [List.append_assoc] using n4, only_trans m5 n5⟩

end Go.Proofs.YtnikhbdjlipcbaaGreatDoor.Spl
