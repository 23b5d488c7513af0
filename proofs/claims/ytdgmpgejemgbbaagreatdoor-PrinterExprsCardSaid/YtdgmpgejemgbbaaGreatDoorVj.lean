/-
  Magnitudes of the program: long division. No condition.
-/
import Derived.Test.YtdgmpgejemgbbaaGreatDoorVi
import Derived.Outline
namespace Go.Proofs.YtdgmpgejemgbbaaGreatDoor
open Go.RowKit

/-- The row that is divided, while zeros are appended. -/
def PadR (w : World) (n N : Nat) (v : Value) (wr : World) : Prop :=
  ∃ u : List Nat, u.length ≤ n + 1 ∧ wr.ownsRow w.heap.size 133 1 v u.length (nums .u32 u) ∧ (∀ x ∈ u, x < Bs) ∧ val u = N ∧ Below w.heap.size w wr

/-- The loop that lays the rest back into the row. -/
def CpR (w5 : World) (gu j p : Nat) (u left : List Nat) (iv : Value) (wr : World) : Prop :=
  ∃ i : Nat, i ≤ p + 3 ∧ iv = .int .i64 i ∧ RowAt wr gu 133 (nums .u32 (ucp u left j i)) ∧ w5.grownBy wr (some gu)
theorem take_drop_getD (l : List Nat) (j m k : Nat) (h : k < m) : ((l.drop j).take m).getD k 0 = l.getD (j + k) 0 := by
  rw [List.getD_eq_getElem?_getD, List.getElem?_take_of_lt h, List.getElem?_drop, List.getD_eq_getElem?_getD]

/-- The long division: the places from i on are done. -/
def DvR (w : World) (gu gv gq : Nat) (u0 v : List Nat) (V p K : Nat) (iv : Value) (wr : World) : Prop :=
  ∃ (i : Nat) (u q : List Nat), i ≤ K ∧ iv = .int .i64 ((i : Int) - 1) ∧ RowAt wr gu 133 (nums .u32 u) ∧ RowAt wr gv 133 (nums .u32 v) ∧ RowAt wr gq 133 (nums .u32 q) ∧ DivAt u0 u q V (p + 2) i ∧ Below w.heap.size w wr

set_option maxHeartbeats 4000000 in
set_option maxRecDepth 100000 in
theorem divide_long (a b : Option Addr) (n p c d A B : Nat) (la lb : List Nat) (w : World) (hla : la.length = n) (hlb : lb.length = p + 2) (hn : n ≤ 100000) (hm : p ≤ 99998)
    (ra : Rep la A) (rb : Rep lb B) (ha : Nums .u32 w a la) (hb : Nums .u32 w b lb) (hle : B ≤ A) :
    Calls Tryz.prog 78 #[.slice a n c, .slice b (p + 2) d] w (QRPost w A B) := by
  obtain ⟨i0, hi, hz0, hz1, hz2⟩ := info_parts infoU32
  have hcm := mcmp_any a b n (p + 2) c d A B la lb w hla hlb (by omega) (by omega) ra rb ha hb
  obtain ⟨z, hz, hz0'⟩ : ∃ z, z = cmpN A B ∧ 0 ≤ z := ⟨_, rfl, by
    rcases Nat.lt_or_ge B A with h | h
    · rw [cmpN_gt h]; omega
    · rw [cmpN_eq (by omega)]; omega⟩
  rw [← hz] at hcm
  obtain ⟨y, hy⟩ : ∃ y, y = lb.getD (p + 1) 0 := ⟨_, rfl⟩
  have hyb : y < 1000000000 := by rw [hy]; exact getD_lt lb _ rb.1
  obtain ⟨gb, ob, rfl, hgb, hcb⟩ := hb (p + 1) (by omega)
  rw [← hy] at hcb
  obtain ⟨s, hs⟩ : ∃ s, s = 1000000000 / (y + 1) := ⟨_, rfl⟩
  have hsI : (1000000000 : Int) / ((y : Int) + 1) = (s : Int) := by rw [hs]; simp
  have hsl := fun v hv => scale_len lb v B s (p + 1) rb hlb (by rw [hs, ← hy]; rfl) hv
  have hsb : s ≤ 1000000000 := by rw [hs]; exact Nat.div_le_self _ _
  have hnb : p + 2 ≤ n := by have := rep_len_le la lb A B ra rb hle; omega
  have HSL := Lib.hid hsl
  have HC := Lib.hid hcm
  have RA := Lib.hid ra
  have RB := Lib.hid rb
  have HA := Lib.hid ha
  have HB := Lib.hid hb
  have HLA := Lib.hid hla
  have HLB := Lib.hid hlb
  have HLE := Lib.hid hle
  obtain ⟨hs1, hs2⟩ := scale_bd lb B s (p + 1) rb hlb (by rw [hs, ← hy]; rfl)
  have hs3 : s < 1000000000 := hs2
  have hsm : (1000000000 : Int) / ((y : Int) + 1) % 4294967296 = (s : Int) := by rw [hsI]; omega
  have HSM := Lib.hid hsm
  have HS2 := Lib.hid hs2
  have t1 : (((p : Int) + 2) == 1) = false := by rw [beq_eq_false_iff_ne]; omega
  clear hcm hz hs hsI hsl hsm hs2 ra rb ha hb hla hlb hle hy
  go_enter Tryz.func78, Tryz.ntmps78
  go_wp2_with fail
  refine HC.out.mono ?_
  rintro e w1 ⟨rfl, q, rfl⟩
  go_wp2_with fail
  rw [HSM.out]
  obtain ⟨W1, hW1⟩ : ∃ W1, W1 = (w.drewN q).alloc (.cells #[.int .u32 (s : Int)] 133) := ⟨_, rfl⟩
  have b1 : Below w.heap.size w W1 := by rw [hW1]; exact (below_drewN (Below.refl _ _) q).alloc (Nat.le_refl _) _
  have hlit : Nums .u32 W1 (some ⟨w.heap.size, 0, none⟩) [s] := by
    intro i hi
    obtain rfl : i = 0 := by simpa using hi
    refine ⟨_, 0, rfl, by rw [hW1]; simp [World.drewN], ?_⟩
    rw [hW1]
    exact (rowAt_alloc (w := w.drewN q) (c := #[.int .u32 (s : Int)]) (t := 133) rfl rfl).cell (i := 0) (by simp)
  have htm := times_any a (some ⟨w.heap.size, 0, none⟩) n 1 c 1 la [s] W1 HLA.out rfl (by omega) (by omega) RA.out.1 (by intro x hx; rw [List.mem_singleton.1 hx]; exact HS2.out) (HA.out.below b1) hlit
  rw [RA.out.2.2, show val [s] = s by simp [val]] at htm
  rw [← hW1]
  have HT := Lib.hid htm
  have BW1 := Lib.hid b1
  have LIT1 := Lib.hid hlit
  clear b1 hlit htm hW1
  refine HT.out.mono ?_
  rintro e w2 ⟨v2, u, rfl, ho2, hr2, b2⟩
  have hB2 := BW1.out.trans (b2.mono BW1.out.size)
  have hul : u.length ≤ n + 1 := rep_len_of u _ _ hr2 (by
    have h1 := rep_lt la A RA.out
    rw [HLA.out] at h1
    rw [Nat.pow_succ]
    exact Nat.mul_lt_mul_of_lt_of_lt h1 HS2.out)
  have hO2 : w2.ownsRow w.heap.size 133 1 v2 u.length (nums .u32 u) := by
    obtain ⟨h1, h2⟩ := ho2
    refine ⟨h1, ?_⟩
    rcases h2 with h | ⟨g, cap, cur, e1, e2, e3⟩
    · exact .inl h
    · exact .inr ⟨g, cap, cur, e1, Nat.le_trans BW1.out.size e2, e3⟩
  have hst : PadR w n (A * s) v2 w2 := ⟨u, hul, hO2, hr2.1, hr2.2.2, hB2⟩
  have HST := Lib.hid hst
  clear ho2 hr2 b2 hB2 hul hO2 hst HT
  go_wp2_with fail
  go_loopw [10] (PadR w n (A * s)) (fun v _ => n + 1 - (match v with | .slice _ k _ => k | _ => 0))
  case atStart => exact HST.out
  case round =>
    obtain ⟨u, hul, ho, hd, hv, hb⟩ := hrel
    obtain ⟨au, cu, rfl, _, huc, _⟩ := nums_of_owns ho
    have HO := Lib.hid ho
    have HD := Lib.hid hd
    have HV := Lib.hid hv
    have HBU := Lib.hid hb
    obtain ⟨k, hk⟩ : ∃ k, k = u.length := ⟨_, rfl⟩
    rw [← hk] at HO hul huc ⊢
    have HK := Lib.hid hk
    clear ho hd hv hb hk HST
    by_cases hlt : k ≤ n
    · go_wp2_with (at_builtin; refine wpList_append1 _ rfl (.tmp 58) (.tmp 59) 119 rfl w.heap.size 133 i0 (.int .u32 0) 4 Tryz.underlying119 hi hz0 hz1 hz2 rfl _ _ _ rfl (HO.out.alloc _) ⟨wr.heap.size, 0, none⟩ 1 (.int .u32 0) rfl ?c1 rfl ?c3 ?c4 ?c5 ?_)
      case c3 => unfold maxLen; omega
      case c4 => omega
      case c5 => have := HBU.out.size; simp; omega
      intro v3 w3 ho3 hg3 hne3 hpl3
      have n3 : Below w.heap.size w w3 := (HBU.out.alloc HBU.out.size _).grown hg3 (by have := HBU.out.size; simp; omega) (fun k hk => (HO.out.lt k hk).1)
      have ho4 : w3.ownsRow w.heap.size 133 1 v3 (k + 1) (nums .u32 (u ++ [0])) := by rw [← nums_snoc]; exact ho3
      obtain ⟨a3, c3, rfl, _, _, _⟩ := nums_of_owns ho4
      have HO4 := Lib.hid ho4
      have N3 := Lib.hid n3
      clear ho3 hg3 hne3 hpl3 ho4 n3
      go_wp2_with fail
      go_roundw
      case rel =>
        refine ⟨u ++ [0], by simp; have := HK.out; omega, by rw [List.length_append, ← HK.out]; exact HO4.out, ?_, by rw [val_snoc]; simp [HV.out], N3.out⟩
        intro x hx
        rcases List.mem_append.1 hx with hx | hx
        · exact HD.out x hx
        · rw [List.mem_singleton.1 hx]; exact Bs_pos
      case measure => simp; omega
    · obtain rfl : k = n + 1 := by omega
      obtain ⟨w3, rfl⟩ : ∃ w3 : World, w3 = wr := ⟨_, rfl⟩
      clear hlt hul
      go_wp2_with fail
      obtain ⟨W4, hW4⟩ : ∃ W4, W4 = w3.alloc (.cells #[.int .u32 (s : Int)] 133) := ⟨_, rfl⟩
      have b34 : Below w3.heap.size w3 W4 := by rw [hW4]; exact (Below.refl _ _).alloc (Nat.le_refl _) _
      have hlit2 : Nums .u32 W4 (some ⟨w3.heap.size, 0, none⟩) [s] := by
        intro i hi
        obtain rfl : i = 0 := by simpa using hi
        refine ⟨_, 0, rfl, by rw [hW4]; simp, ?_⟩
        rw [hW4]
        exact (rowAt_alloc (w := w3) (c := #[.int .u32 (s : Int)]) (t := 133) rfl rfl).cell (i := 0) (by simp)
      have b4 := HBU.out.trans (b34.mono HBU.out.size)
      have htm := times_any (some ⟨gb, ob, none⟩) (some ⟨w3.heap.size, 0, none⟩) (p + 2) 1 d 1 lb [s] W4 HLB.out rfl (by omega) (by omega) RB.out.1 (by intro x hx; rw [List.mem_singleton.1 hx]; exact HS2.out) (HB.out.below b4) hlit2
      rw [RB.out.2.2, show val [s] = s by simp [val]] at htm
      rw [← hW4]
      rcases rowAt_of_owns HO.out with ⟨_, h0, _⟩ | ⟨gu, cu', hu, hgu, hcu, hcum, _, hru⟩
      · omega
      injection hu with hu1 _ hu3
      subst hu1 hu3
      have hru4 : RowAt W4 gu 133 (nums .u32 u) := hru.below b34 hru.lt
      have hgu4 : gu < W4.heap.size := hru4.lt
      refine htm.mono ?_
      rintro e w5 ⟨v5, vl, rfl, ho5, hr5, b5⟩
      have hvl : vl.length = p + 2 := (HSL.out vl hr5).1
      rw [hvl] at ho5
      rcases rowAt_of_owns ho5 with ⟨_, h0, _⟩ | ⟨gv, cv, rfl, hgv, hcv, hcvm, _, hrv⟩
      · omega
      have hru5 : RowAt w5 gu 133 (nums .u32 u) := hru4.below b5 hru4.lt
      have hguv : gu < gv := Nat.lt_of_lt_of_le hgu4 hgv
      have b05 := b4.trans (b5.mono b4.size)
      have RU5 := Lib.hid hru5
      have RV5 := Lib.hid hrv
      have RR5 := Lib.hid hr5
      have B05 := Lib.hid b05
      have HVL := Lib.hid hvl
      clear hW4 b34 hlit2 b4 htm hru4 hgu4 ho5 hr5 b5 hru5 hrv b05 hru hgv HO HBU LIT1 BW1 hvl
      obtain ⟨K, hK⟩ : ∃ K, K + p + 1 = n := ⟨n - p - 1, by omega⟩
      have hK1 : K + p + 1 ≤ n := by omega
      have hK2 : n ≤ K + p + 1 := by omega
      clear hK
      go_wp2_with (at_make; refine wpList_make_full _ rfl _ _ 119 rfl w5.heap.size 133 i0 (.int .u32 0) 1 Tryz.underlying119 hi hz0 hz1 .i64 .i64 _ _ K rfl rfl ?m0 ?m1 ?m2 ?m3 ?m4 ?_)
      case m0 => omega
      case m1 => omega
      case m2 => rw [hz2]; omega
      case m3 => unfold maxLen; omega
      case m4 => exact Nat.le_refl _
      intro w6 ho6 hg6
      rw [nums_zero_made] at ho6
      rcases rowAt_of_owns ho6 with ⟨_, h0, _⟩ | ⟨gq, cq, hq6, _, _, _, _, hrq⟩
      · omega
      injection hq6 with hq61 _ hq63
      subst hq63
      injection hq61 with hq61
      injection hq61 with hq61 _
      have hgq : w5.heap.size = gq := hq61
      have RU6 := Lib.hid (RU5.out.kept hg6 (by simp))
      have RV6 := Lib.hid (RV5.out.kept hg6 (by simp))
      have RQ6 := Lib.hid hrq
      have B06 := Lib.hid (B05.out.grown hg6 B05.out.size (fun k hk => by cases hk))
      have hgvq : gv < gq := by have := RV5.out.lt; omega
      have hst2 : DvR w gu gv gq u vl (B * s) p K (.int .i64 ((K : Int) - 1)) w6 := by
        have hV : val vl = B * s := RR5.out.2.2
        have hdl := long_start lb u A B s n (p + 1) (by have := rep_lt la A RA.out; rwa [HLA.out] at this) RB.out HLB.out hs1 HV.out HK.out.symm (by omega)
        refine ⟨K, u, List.replicate K 0, Nat.le_refl _, rfl, RU6.out, RV6.out, RQ6.out, ?_, B06.out⟩
        have hds := div_start u (B * s) (p + 1 + 1) (by have := HK.out; omega) HD.out hdl
        rwa [show u.length - (p + 1 + 1) = K by have := HK.out; omega] at hds
      have HST2 := Lib.hid hst2
      have hGQ := Lib.hid hgq
      clear ho6 hg6 hrq hq61 RU5 RV5 B05 RU6 RV6 RQ6 B06 hst2 hgq
      rw [hGQ.out]
      go_wp2_with fail
      rw [show ((n : Int) + 1 - ((p : Int) + 2) - 1) = (K : Int) - 1 by omega]
      go_loopw [12] (DvR w gu gv gq u vl (B * s) p K) (fun i _ => (intOf i + 1).toNat)
      case atStart => exact HST2.out
      case round =>
        clear HST2
        obtain ⟨w7, rfl⟩ : ∃ w7 : World, w7 = wr := ⟨_, rfl⟩
        obtain ⟨i, uu, q, hiK, rfl, ru, rv, rq, hat, hb⟩ := hrel
        have RU := Lib.hid ru
        have RV := Lib.hid rv
        have RQ := Lib.hid rq
        have HAT := Lib.hid hat
        have HB7 := Lib.hid hb
        have huul : uu.length = n + 1 := by rw [hat.1]; exact HK.out.symm
        have HUL := Lib.hid huul
        clear ru rv rq hat hb huul
        by_cases hi0 : 1 ≤ i
        · obtain ⟨j, rfl⟩ : ∃ j, i = j + 1 := ⟨i - 1, by omega⟩
          rw [show (((j + 1 : Nat) : Int) - 1) = (j : Int) by omega]
          have hcu : ∀ k x, k < n + 1 → x = uu.getD k 0 → w7.cell? ⟨gu, k, none⟩ = some (.int .u32 (x : Int)) := fun k x hk hx => by
            rw [RU.out.cell (by rw [nums_length, HUL.out]; exact hk), nums_get _ _ _ (by rw [HUL.out]; exact hk), hx]
          have hcv : ∀ k x, k < p + 2 → x = vl.getD k 0 → w7.cell? ⟨gv, k, none⟩ = some (.int .u32 (x : Int)) := fun k x hk hx => by
            rw [RV.out.cell (by rw [nums_length, HVL.out]; exact hk), nums_get _ _ _ (by rw [HVL.out]; exact hk), hx]
          obtain ⟨u2, hu2⟩ : ∃ x, x = uu.getD (j + (p + 2)) 0 := ⟨_, rfl⟩
          obtain ⟨u1, hu1⟩ : ∃ x, x = uu.getD (j + (p + 1)) 0 := ⟨_, rfl⟩
          obtain ⟨u0, hu0⟩ : ∃ x, x = uu.getD (j + p) 0 := ⟨_, rfl⟩
          obtain ⟨y1, hy1⟩ : ∃ x, x = vl.getD (p + 1) 0 := ⟨_, rfl⟩
          obtain ⟨y0, hy0⟩ : ∃ x, x = vl.getD p 0 := ⟨_, rfl⟩
          have c2 := hcu _ _ (by omega) hu2
          have c1 := hcu _ _ (by omega) hu1
          have c0 := hcu (j + (p + 2) - 2) u0 (by omega) (by rw [hu0]; congr 1)
          have d1 := hcv _ _ (by omega) hy1
          have d0 := hcv _ _ (by omega) hy0
          have bu2 : u2 < 1000000000 := by rw [hu2]; exact getD_lt uu _ HAT.out.2.1
          have bu1 : u1 < 1000000000 := by rw [hu1]; exact getD_lt uu _ HAT.out.2.1
          have bu0 : u0 < 1000000000 := by rw [hu0]; exact getD_lt uu _ HAT.out.2.1
          have by1 : y1 < 1000000000 := by rw [hy1]; exact getD_lt vl _ RR5.out.1
          have by0 : y0 < 1000000000 := by rw [hy0]; exact getD_lt vl _ RR5.out.1
          clear hcu hcv
          have HU2 := Lib.hid hu2
          have HU1 := Lib.hid hu1
          have HU0 := Lib.hid hu0
          have HY1 := Lib.hid hy1
          have HY0 := Lib.hid hy0
          clear hu2 hu1 hu0 hy1 hy0
          obtain ⟨hw1, hw2, hw3, hw4, hw5, hw6⟩ := div_window u uu q (B * s) (p + 2) j (by have := HK.out; omega) (by have := RR5.out.2.2; rw [← this]; exact val_pos vl RR5.out.2.1 (by intro h; have := HVL.out; rw [h] at this; cases this)) (by have := rep_lt vl _ RR5.out; rw [HVL.out] at this; omega) HAT.out
          have hdo := digit_ok ((uu.drop j).take (p + 2 + 1)) vl (p + 2) hw1 HVL.out (by omega) (fun x hx => HAT.out.2.1 x (List.mem_of_mem_drop (List.mem_of_mem_take hx))) RR5.out.1 (rep_top vl _ (p + 1) RR5.out HVL.out) (by rw [hw2, RR5.out.2.2]; exact hw3)
          rw [hw2, RR5.out.2.2, take_drop_getD _ _ _ _ (by omega), take_drop_getD _ _ _ _ (by omega), take_drop_getD _ _ _ _ (by omega), ← HU2.out, show p + 2 - 1 = p + 1 by omega, show p + 2 - 2 = p by omega, ← HU1.out, ← HU0.out, ← HY1.out, ← HY0.out] at hdo
          obtain ⟨hd1, hd2, hd3⟩ := hdo
          have hy1p : 1 ≤ y1 := by rw [HY1.out]; exact rep_top vl _ (p + 1) RR5.out HVL.out
          have hgs := fun q => guess_any u2 u1 u0 y1 y0 (w7.drewN q) hd3 bu1 bu0 by0 hy1p by1
          have hgl := gss_lt u2 u1 u0 y1 y0
          obtain ⟨dg, hdg⟩ : ∃ dg, dg = gss u2 u1 u0 y1 y0 := ⟨_, rfl⟩
          rw [← hdg] at hd1 hd2 hgl
          have hgs2 : ∀ q, Calls Tryz.prog 93 #[.int .u64 u2, .int .u64 u1, .int .u64 u0, .int .u64 y1, .int .u64 y0] (w7.drewN q) fun e w' => e = .returned (.int .u64 dg) ∧ ∃ m, w' = (w7.drewN q).drewN m := fun q => by rw [hdg]; exact hgs q
          have HGS := Lib.hid hgs2
          have HW5 := Lib.hid hw5
          have HW6 := Lib.hid hw6
          have HW1 := Lib.hid hw1
          have HW2 := Lib.hid hw2
          have HD1 := Lib.hid hd1
          have HD2 := Lib.hid hd2
          have hgl2 : dg < 1000000000 := hgl
          clear hgs hgs2 hdg hd1 hd2 hd3 hw1 hw2 hw3 hw4 hw5 hw6 hgl
          go_wp2_with fail
          have s1 : IntKind.i64.wrap ((j : Int) + ((p : Int) + 2)) = (j : Int) + ((p : Int) + 2) := IntWalk.i64_in _ (by omega)
          have s2 : IntKind.i64.wrap ((j : Int) + ((p : Int) + 2) - 1) = (j : Int) + ((p : Int) + 2) - 1 := IntWalk.i64_in _ (by omega)
          have s3 : IntKind.i64.wrap ((j : Int) + ((p : Int) + 2) - 2) = (j : Int) + ((p : Int) + 2) - 2 := IntWalk.i64_in _ (by omega)
          have s4 : IntKind.i64.wrap ((p : Int) + 2 - 1) = (p : Int) + 2 - 1 := IntWalk.i64_in _ (by omega)
          have s5 : IntKind.i64.wrap ((p : Int) + 2 - 2) = (p : Int) + 2 - 2 := IntWalk.i64_in _ (by omega)
          have v1 : IntKind.u64.wrap (u2 : Int) = (u2 : Int) := IntWalk.u64_in _ (by omega)
          have v2 : IntKind.u64.wrap (u1 : Int) = (u1 : Int) := IntWalk.u64_in _ (by omega)
          have v3 : IntKind.u64.wrap (u0 : Int) = (u0 : Int) := IntWalk.u64_in _ (by omega)
          have v4 : IntKind.u64.wrap (y1 : Int) = (y1 : Int) := IntWalk.u64_in _ (by omega)
          have v5 : IntKind.u64.wrap (y0 : Int) = (y0 : Int) := IntWalk.u64_in _ (by omega)
          go_quiet ((go_at_call 93; exact Calls.quiet_of (HGS.out _)))
          obtain ⟨W8, hW8⟩ : ∃ W8, W8 = w7.drewN nq := ⟨_, rfl⟩
          have hb8 : Below w7.heap.size w7 W8 := by rw [hW8]; exact below_drewN (Below.refl _ _) nq
          rw [← hW8]
          clear hW8 s1 s2 s3 s4 s5 v1 v2 v3 v4 v5 c0 c1 c2 d0 d1 bu2 bu1 bu0 by1 by0 hy1p
          obtain ⟨V, hV⟩ : ∃ V, V = B * s := ⟨_, rfl⟩
          obtain ⟨X, hX⟩ : ∃ X, X = val (uu.drop j) := ⟨_, rfl⟩
          have hVp : 0 < V := by rw [hV, ← RR5.out.2.2]; exact val_pos vl RR5.out.2.1 (by intro h; have := HVL.out; rw [h] at this; cases this)
          have hUd : ∀ x ∈ (uu.drop j).take (p + 2 + 1), x < Bs := fun x hx => HAT.out.2.1 x (List.mem_of_mem_drop (List.mem_of_mem_take hx))
          have hX2 : val ((uu.drop j).take (p + 2 + 1)) = X := by rw [hX]; exact HW2.out
          have hdd : X / V ≤ dg ∧ dg ≤ X / V + 1 := by rw [hX, hV]; exact ⟨HD1.out, HD2.out⟩
          have hDlt : X / V < Bs := by have := Bs_eq; omega
          have hNU : ∀ W, Below w7.heap.size w7 W → Nums .u32 W (some ⟨gu, j, none⟩) ((uu.drop j).take (p + 2 + 1)) := fun W hW e he => by
            rw [HW1.out] at he
            have hr := RU.out.below hW RU.out.lt
            refine ⟨gu, j, rfl, hr.lt, ?_⟩
            rw [hr.cell (by rw [nums_length, HUL.out]; omega), nums_get _ _ _ (by rw [HUL.out]; omega), take_drop_getD _ _ _ _ he]
          have hNV : ∀ W, Below w7.heap.size w7 W → Nums .u32 W (some ⟨gv, 0, none⟩) vl := fun W hW e he => by
            have hr := RV.out.below hW RV.out.lt
            refine ⟨gv, 0, rfl, hr.lt, ?_⟩
            rw [Nat.zero_add, hr.cell (by rw [nums_length]; exact he), nums_get _ _ _ he]
          have htrU : ∀ W, Below w7.heap.size w7 W → Calls Tryz.prog 91 #[.slice (some ⟨gu, j, none⟩) (p + 2 + 1) (cu - j)] W (TrimPost W (some ⟨gu, j, none⟩) (p + 2 + 1) (cu - j) ((uu.drop j).take (p + 2 + 1))) := fun W hW =>
            trim_any _ _ _ _ W HW1.out (by omega) (by omega) hUd (hNU W hW)
          have htmV : ∀ W a2 n2 c2 l2 x, Below w7.heap.size w7 W → l2.length = n2 → n2 ≤ 400000 → Rep l2 x → Nums .u32 W a2 l2 → Calls Tryz.prog 92 #[.slice (some ⟨gv, 0, none⟩) (p + 2) cv, .slice a2 n2 c2] W (MagNew W (V * x)) := fun W a2 n2 c2 l2 x hW h1 h2 h3 h4 => by
            have := times_any (some ⟨gv, 0, none⟩) a2 (p + 2) n2 cv c2 vl l2 W HVL.out h1 (by omega) h2 RR5.out.1 h3.1 (hNV W hW) h4
            rwa [RR5.out.2.2, h3.2.2, ← hV] at this
          have HUD := Lib.hid hUd
          have HX2 := Lib.hid hX2
          have HNU := Lib.hid hNU
          have HTU := Lib.hid htrU
          have HTV := Lib.hid htmV
          have HDD := Lib.hid hdd
          have HXX := Lib.hid hX
          have HVV := Lib.hid hV
          have HB8 := Lib.hid hb8
          clear hUd hX2 hNU hNV htrU htmV hdd hX hV hb8
          go_wp2_with fail
          refine (trim_lit W8 dg (by have := Bs_eq; omega)).mono ?_
          rintro e w9 ⟨⟨v9, l9, rfl, ho9, hr9⟩, hw9⟩
          have hb9 : Below w7.heap.size w7 w9 := by rw [← hw9]; exact HB8.out.alloc HB8.out.size _
          obtain ⟨a9, c9, rfl, hl9, hc9, hn9⟩ := nums_of_owns ho9
          have hlen9 : l9.length ≤ 1 := rep_len_of l9 dg 1 hr9 (by have := Bs_eq; simp; omega)
          have HT9 := Lib.hid (HTV.out w9 a9 l9.length c9 l9 dg hb9 rfl (by omega) hr9 hn9)
          have HB9 := Lib.hid hb9
          clear ho9 hr9 hw9 hb9 hl9 hn9
          go_wp2_with fail
          refine HT9.out.mono ?_
          rintro e w10 ⟨v10, l10, rfl, ho10, hr10, hb10⟩
          obtain ⟨a10, c10, rfl, _, hc10, hn10⟩ := nums_of_owns ho10
          have HB10 := Lib.hid (HB9.out.trans (hb10.mono HB9.out.size))
          have hlen10 : l10.length ≤ 200000 := by
            have h1 := rep_len_of l10 _ (p + 2 + 1) hr10 (by
              have h2 := rep_lt vl _ RR5.out
              rw [HVL.out, ← HVV.out] at h2
              rw [Nat.pow_succ]
              exact Nat.mul_lt_mul_of_lt_of_lt h2 (by have := Bs_eq; omega))
            omega
          have HN10 := Lib.hid hn10
          have HR10 := Lib.hid hr10
          clear ho10 hr10 hb10 hn10 HT9
          go_wp2_with fail
          rw [show j + (p + 2) + 1 - j = p + 2 + 1 by omega]
          refine (HTU.out w10 HB10.out).mono ?_
          rintro e w' ⟨⟨k, hk, rfl, hrk⟩, rfl⟩
          rw [HX2.out] at hrk
          have HRK := Lib.hid hrk
          have hcp := mcmp_any (some ⟨gu, j, none⟩) a10 k l10.length (cu - j) c10 X (V * dg) (((uu.drop j).take (p + 2 + 1)).take k) l10 w10 (by rw [List.length_take, HW1.out]; omega) rfl (by omega) (by omega) hrk HR10.out ((HNU.out w10 HB10.out).take k) HN10.out
          have HCP := Lib.hid hcp
          clear hrk hcp
          go_wp2_with fail
          obtain ⟨cz, hcz⟩ : ∃ cz, cz = cmpN X (V * dg) := ⟨_, rfl⟩
          have HCP2 := HCP.out
          rw [← hcz] at HCP2
          refine HCP2.mono ?_
          rintro e w11 ⟨rfl, q11, hw11⟩
          have hb11 : Below w7.heap.size w7 w11 := by rw [hw11]; exact below_drewN HB10.out q11
          have HN11 : Hid (Nums .u32 w11 a10 l10) := by rw [hw11]; exact HN10.out.drewN q11
          have HB11 := Lib.hid hb11
          have HCZ := Lib.hid hcz
          clear hcz hw11 hb11 HCP HCP2 HN10 HB8 HB9 HGS
          obtain ⟨D, hD⟩ : ∃ D, D = X / V := ⟨_, rfl⟩
          have hdgD : (dg = D ∧ 0 ≤ cz ∧ V * dg = V * D) ∨ (dg = D + 1 ∧ cz < 0) := by
            have h1 := HDD.out
            rw [← hD] at h1
            have h2 := Nat.div_mul_le_self X V
            rw [← hD, Nat.mul_comm] at h2
            rcases Nat.lt_or_ge X (V * dg) with h3 | h3
            · right
              refine ⟨?_, by rw [HCZ.out, cmpN_lt h3]; omega⟩
              rcases Nat.lt_or_ge D dg with h4 | h4
              · omega
              · exfalso
                have := Nat.mul_le_mul_left V h4
                omega
            · left
              have h4 : dg ≤ D := by rw [hD]; exact (Nat.le_div_iff_mul_le hVp).2 (by rw [Nat.mul_comm]; exact h3)
              have h5 : dg = D := by omega
              refine ⟨h5, ?_, by rw [h5]⟩
              rw [HCZ.out]
              rcases Nat.lt_or_ge (V * dg) X with h6 | h6
              · rw [cmpN_gt h6]; omega
              · rw [cmpN_eq (by omega)]; omega
          have HDG := Lib.hid hdgD
          have HDX := Lib.hid hD
          have hDb : D < 1000000000 := by rw [hD]; have := Bs_eq; omega
          clear hdgD hD hDlt
          go_upto_if 131 with (fail)
          go_cut [13, 14] (fun d13 p14 wx => d13 = .int .u64 (D : Int) ∧ MagAt wx p14 (V * D) ∧ Below w7.heap.size w7 wx)
          case first => as_aux_lemma =>
            rcases HDG.out with ⟨h1, h2, h3⟩ | ⟨h1, h2⟩
            · have t2 : decide (cz < 0) = false := by simp; omega
              have H1 := Lib.hid h1
              have H3 := Lib.hid h3
              clear h1 h3
              go_wp2_with fail
              go_meet
              exact ⟨by rw [H1.out], ⟨a10, c10, l10, rfl, hc10, HN11.out, by rw [← H3.out]; exact HR10.out⟩, HB11.out⟩
            · have t2 : decide (cz < 0) = true := by simp; omega
              subst h1
              have e1 : (((D + 1 : Nat) : Int)) = (D : Int) + 1 := by omega
              rw [e1]
              clear e1
              go_wp2_with fail
              refine (trim_lit w11 D (by have := Bs_eq; omega)).mono ?_
              rintro e w12 ⟨⟨v12, l12, rfl, ho12, hr12⟩, hw12⟩
              have hb12 : Below w7.heap.size w7 w12 := by rw [← hw12]; exact HB11.out.alloc HB11.out.size _
              obtain ⟨a12, c12, rfl, hl12, hc12, hn12⟩ := nums_of_owns ho12
              have hlen12 : l12.length ≤ 1 := rep_len_of l12 D 1 hr12 (by have := Bs_eq; simp; omega)
              have HT12 := Lib.hid (HTV.out w12 a12 l12.length c12 l12 D hb12 rfl (by omega) hr12 hn12)
              have HB12 := Lib.hid hb12
              clear ho12 hr12 hw12 hb12 hl12 hn12
              go_wp2_with fail
              refine HT12.out.mono ?_
              rintro e w13 ⟨v13, l13, rfl, ho13, hr13, hb13⟩
              have HM13 := Lib.hid (MagAt.of_own ho13 hr13)
              have HB13 := Lib.hid (HB12.out.trans (hb13.mono HB12.out.size))
              clear ho13 hr13 hb13
              go_wp2_with fail
              go_meet
              exact ⟨rfl, HM13.out, HB13.out⟩
          case rest => as_aux_lemma =>
            obtain ⟨rfl, hm14, hb14⟩ := hcut
            obtain ⟨w14, hw14⟩ : ∃ w14 : World, w14 = wc := ⟨_, rfl⟩
            subst hw14
            obtain ⟨a14, c14, l14, rfl, hc14, hn14, hr14⟩ := hm14
            have HB14 := Lib.hid hb14
            have HN14 := Lib.hid hn14
            have HR14 := Lib.hid hr14
            have hlen14 : l14.length ≤ 200000 := by
              have h1 := rep_len_of l14 _ (p + 2 + 1) hr14 (by
                have h2 := rep_lt vl _ RR5.out
                rw [HVL.out, ← HVV.out] at h2
                rw [Nat.pow_succ]
                exact Nat.mul_lt_mul_of_lt_of_lt h2 (by have := Bs_eq; omega))
              omega
            clear hb14 hn14 hr14 HCZ HDG HN11 HB11 HRK
            go_wp2_with fail
            rw [show j + (p + 2) + 1 - j = p + 2 + 1 by omega]
            refine (HTU.out w14 HB14.out).mono ?_
            rintro e w' ⟨⟨k2, hk2, rfl, hrk⟩, rfl⟩
            rw [HX2.out] at hrk
            have hXV : X = V * D + X % V := by rw [HDX.out]; exact (Nat.div_add_mod X V).symm
            have hmn := minus_any (some ⟨gu, j, none⟩) a14 k2 l14.length (cu - j) c14 (((uu.drop j).take (p + 2 + 1)).take k2) l14 w14 (by rw [List.length_take, HW1.out]; omega) rfl (by omega) (by
              have h1 := rep_len_le _ _ X (V * D) hrk HR14.out (by omega)
              rwa [List.length_take, HW1.out, show min k2 (p + 2 + 1) = k2 by omega] at h1) hrk.1 HR14.out.1 (by rw [hrk.2.2, HR14.out.2.2]; omega) ((HNU.out w14 HB14.out).take k2) HN14.out
            rw [hrk.2.2, HR14.out.2.2, show X - V * D = X % V by omega] at hmn
            have HMN := Lib.hid hmn
            clear hrk hmn hXV
            go_wp2_with fail
            refine HMN.out.mono ?_
            rintro e w15 ⟨v15, L, rfl, ho15, hrL, hb15⟩
            obtain ⟨aL, cL, rfl, _, hcL, _⟩ := nums_of_owns ho15
            have HB15 := Lib.hid (HB14.out.trans (hb15.mono HB14.out.size))
            have HO15 := Lib.hid ho15
            have HRL := Lib.hid hrL
            have hLl : L.length ≤ 200000 := by
              have h1 := rep_len_of L _ (p + 2) hrL (by
                have h2 := rep_lt vl _ RR5.out
                rw [HVL.out, ← HVV.out] at h2
                exact Nat.lt_trans (Nat.mod_lt _ hVp) h2)
              omega
            have hgu14 : gu < w14.heap.size := Nat.lt_of_lt_of_le RU.out.lt HB14.out.size
            clear ho15 hrL hb15 HMN HN14 HR14 HB14
            have hru15 := RU.out.below HB15.out RU.out.lt
            have hst3 : CpR w15 gu j p uu L (.int .i64 0) w15 := ⟨0, Nat.zero_le _, rfl, by rw [ucp_start]; exact hru15, only_refl _ _⟩
            have HST3 := Lib.hid hst3
            clear hst3 hru15
            obtain ⟨kL, hkL⟩ : ∃ kL, kL = L.length := ⟨_, rfl⟩
            rw [← hkL] at HO15 hLl hcL ⊢
            have HKL := Lib.hid hkL
            clear hkL
            go_wp2_with fail
            go_loopw [152] (CpR w15 gu j p uu L) (fun i _ => p + 3 - (intOf i).toNat)
            case atStart => exact HST3.out
            case round =>
              obtain ⟨w16, rfl⟩ : ∃ w16 : World, w16 = wr := ⟨_, rfl⟩
              obtain ⟨i, hi3, rfl, hru, hgw⟩ := hrel
              have RU16 := Lib.hid hru
              have GW := Lib.hid hgw
              clear hru hgw HST3
              have hbw : Below w.heap.size w w16 := (HB7.out.trans (HB15.out.mono HB7.out.size)).grown GW.out (by have := HB7.out.size; have := HB15.out.size; omega) (fun k hk => by injection hk with hk; omega)
              have HBW := Lib.hid hbw
              clear hbw
              by_cases hlt : i < p + 3
              · have hji : j + i < n + 1 := by omega
                have hul2 : (ucp uu L j i).length = n + 1 := by rw [ucp_length _ _ _ _ (by rw [HUL.out]; omega)]; exact HUL.out
                obtain ⟨xo, hxo⟩ : ∃ xo : Nat, w16.cell? ⟨gu, j + i, none⟩ = some (.int .u32 (xo : Int)) :=
                  ⟨_, by rw [RU16.out.cell (by rw [nums_length]; omega), nums_get _ _ _ (by omega)]⟩
                have hfz : w16.frozen? ⟨gu, j + i, none⟩ = false := RU16.out.frozen (j + i)
                have hstep := ucp_step uu L j i (by rw [HUL.out]; omega)
                have HSTEP := Lib.hid hstep
                clear hstep hul2
                have hset : ∀ x : Nat, RowAt (w16.setCell ⟨gu, j + i, none⟩ (.int .u32 (x : Int))) gu 133 (nums .u32 ((ucp uu L j i).set (j + i) x)) := fun x => by
                  rw [← nums_set]; exact RU16.out.set (j + i) _
                have HSET := Lib.hid hset
                clear hset
                by_cases hiL : i < kL
                · have hnL : Nums .u32 w16 aL L := by
                    have := HO15.out.kept GW.out (.inr (fun h => by have := (HO15.out.lt gu h).1; omega))
                    obtain ⟨aL', cL', e1, _, _, e2⟩ := nums_of_owns this
                    injection e1 with e1 _ _
                    rw [e1]; exact e2
                  obtain ⟨gL, oL, rfl, hgL, hcl⟩ := hnL i (by have := HKL.out; omega)
                  have hgne : gL ≠ gu := by
                    intro h
                    subst h
                    rcases rowAt_of_owns HO15.out with ⟨h0, _⟩ | ⟨g', c', e1, hb', _⟩
                    · injection h0 with h0; cases h0
                    · injection e1 with e1 _ _; injection e1 with e1; injection e1 with e1 _; omega
                  obtain ⟨x, hx⟩ : ∃ x, x = L.getD i 0 := ⟨_, rfl⟩
                  rw [← hx] at hcl
                  have hcl2 : (w16.setCell ⟨gu, j + i, none⟩ (.int .u32 0)).cell? ⟨gL, oL + i, none⟩ = some (.int .u32 (x : Int)) := by
                    rw [World.cell?_setCell_other _ _ _ _ (by intro h; injection h with h; exact hgne h.symm)]; exact hcl
                  have hc2 : (w16.setCell ⟨gu, j + i, none⟩ (.int .u32 0)).cell? ⟨gu, j + i, none⟩ = some (.int .u32 0) := World.cell?_setCell_same' _ _ _ (by rw [hxo]; rfl)
                  have hfz2 : (w16.setCell ⟨gu, j + i, none⟩ (.int .u32 0)).frozen? ⟨gu, j + i, none⟩ = false := by rw [World.frozen?_setCell]; exact hfz
                  have HX3 := Lib.hid hx
                  clear hx hnL hcl
                  go_wp2_with fail
                  go_roundw
                  case rel =>
                    refine ⟨i + 1, by omega, by go_num, ?_, only_setCell (only_setCell GW.out (.inl rfl) _) (.inl rfl) _⟩
                    have h1 := (HSET.out 0).set (j + i) (.int .u32 (x : Int))
                    rw [nums_set, set_set_same, HX3.out, HSTEP.out] at h1
                    rw [HX3.out]
                    exact h1
                  case measure => simp [intOf] <;> omega
                · have hx0 : L.getD i 0 = 0 := getD_out (by have := HKL.out; omega)
                  have HX0 := Lib.hid hx0
                  clear hx0
                  go_wp2_with fail
                  go_roundw
                  case rel =>
                    refine ⟨i + 1, by omega, by go_num, ?_, only_setCell GW.out (.inl rfl) _⟩
                    have h1 := HSET.out 0
                    have h2 := HSTEP.out
                    rw [HX0.out] at h2
                    rw [h2] at h1
                    exact h1
                  case measure => simp [intOf] <;> omega
              · obtain rfl : i = p + 3 := by omega
                have hrq := (RQ.out.below HB15.out RQ.out.lt).kept GW.out (by intro h; injection h with h; omega)
                have hrv := (RV.out.below HB15.out RV.out.lt).kept GW.out (by intro h; injection h with h; omega)
                have hql : q.length = K := by have := HAT.out.2.2.1; have := HK.out; omega
                have hjq : j < K := by omega
                obtain ⟨qo, hqo⟩ : ∃ qo : Nat, w16.cell? ⟨gq, j, none⟩ = some (.int .u32 (qo : Int)) :=
                  ⟨_, by rw [hrq.cell (by rw [nums_length]; omega), nums_get _ _ _ (by omega)]⟩
                have hfz : w16.frozen? ⟨gq, j, none⟩ = false := hrq.frozen j
                have hds := div_step u uu q L (B * s) (p + 2) j (by have := HK.out; omega) (by rw [← HVV.out]; exact hVp) (by have := rep_lt vl _ RR5.out; rw [HVL.out] at this; omega) HAT.out (by rw [← HXX.out, ← HVV.out]; exact HRL.out)
                rw [← HXX.out, ← HVV.out, ← HDX.out] at hds
                have hds2 : DivAt u (ucp uu L j (p + 3)) (q.set j D) (B * s) (p + 2) j := by rw [← HVV.out]; exact hds
                have HDS := Lib.hid hds2
                have HRQ := Lib.hid hrq
                have HRV := Lib.hid hrv
                clear hrq hrv hql hds hds2
                go_wp2_with fail
                go_roundw
                case rel =>
                  refine ⟨j, ucp uu L j (p + 3), q.set j D, by omega, rfl, RU16.out.other (by show gu ≠ gq; omega) _, HRV.out.other (by show gv ≠ gq; omega) _, ?_, HDS.out, HBW.out.setCell (p := ⟨gq, j, none⟩) (by show w.heap.size ≤ gq; omega) _⟩
                  rw [← nums_set]
                  exact HRQ.out.set j _
                case measure => simp [intOf] <;> omega
        · obtain rfl : i = 0 := by omega
          have hend := div_end u uu q (B * s) (p + 2) HAT.out
          have hnu : Nums .u32 w7 (some ⟨gu, 0, none⟩) uu := fun e he => ⟨gu, 0, rfl, RU.out.lt, by rw [Nat.zero_add, RU.out.cell (by rw [nums_length]; exact he), nums_get _ _ _ he]⟩
          have hql : q.length = K := by have := HAT.out.2.2.1; have := HK.out; omega
          have hnq : ∀ W, Below w7.heap.size w7 W → Nums .u32 W (some ⟨gq, 0, none⟩) q := fun W hW e he => by
            have hr := RQ.out.below hW RQ.out.lt
            exact ⟨gq, 0, rfl, hr.lt, by rw [Nat.zero_add, hr.cell (by rw [nums_length]; exact he), nums_get _ _ _ he]⟩
          have htu := trim_any (some ⟨gu, 0, none⟩) (n + 1) cu uu w7 HUL.out (by omega) (by omega) HAT.out.2.1 hnu
          have HTU := Lib.hid htu
          have HNU := Lib.hid hnu
          have HNQ := Lib.hid hnq
          have HQL := Lib.hid hql
          have HEND := Lib.hid hend
          clear htu hnu hnq hql hend
          go_wp2_with fail
          refine HTU.out.mono ?_
          rintro e w' ⟨⟨k, hk, rfl, hrk⟩, rfl⟩
          have hsh := short_any (some ⟨gu, 0, none⟩) k cu s (uu.take k) w7 (by rw [List.length_take, HUL.out]; omega) (by omega) hs1 (by omega) hrk.1 (HNU.out.take k)
          rw [hrk.2.2] at hsh
          have HSH := Lib.hid hsh
          clear hrk hsh
          go_wp2_with fail
          refine HSH.out.mono ?_
          rintro e w8 ⟨v8, l8, rfl, ho8, hr8, hb8⟩
          have M8 := Lib.hid (MagAt.of_own ho8 hr8)
          have HB8 := Lib.hid hb8
          have htq := trim_any (some ⟨gq, 0, none⟩) K K q w8 HQL.out (by omega) (Nat.le_refl _) HAT.out.2.2.2.1 (HNQ.out w8 hb8)
          have HTQ := Lib.hid htq
          clear ho8 hr8 hb8 htq
          go_wp2_with fail
          refine HTQ.out.mono ?_
          rintro e w' ⟨⟨k3, hk3, rfl, hrk3⟩, rfl⟩
          have HR3 := Lib.hid hrk3
          clear hrk3
          go_wp2_with fail
          go_ret2
          have hun := unscale A B s hs1
          have e1 : val u = A * s := HV.out
          refine ⟨.slice (some ⟨gq, 0, none⟩) k3 K, v8, rfl, ⟨some ⟨gq, 0, none⟩, K, q.take k3, by rw [List.length_take, HQL.out]; congr 1; omega, by rw [List.length_take, HQL.out]; omega, (HNQ.out w8 HB8.out).take k3, ?_⟩, ?_, HB7.out.trans (HB8.out.mono HB7.out.size)⟩
          · have := HR3.out
            rw [HEND.out.2, e1, hun.1] at this
            exact this
          · have := M8.out
            rw [HEND.out.1, e1, hun.2] at this
            exact this

end Go.Proofs.YtdgmpgejemgbbaaGreatDoor
