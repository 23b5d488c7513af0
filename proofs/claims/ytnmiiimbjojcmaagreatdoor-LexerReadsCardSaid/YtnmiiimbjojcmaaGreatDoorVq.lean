/-
  The program's DivMod of integers. No condition.
-/
import Derived.Test.YtnmiiimbjojcmaaGreatDoorVp
namespace Go.Proofs.YtnmiiimbjojcmaaGreatDoor
open Go.RowKit

theorem dm_pos (x : Int) (B d m : Nat) (h : B * d + m = x.natAbs) (hm : m < B) :
    (0 ≤ x ∨ m = 0 → x / (B : Int) = (if x < 0 then -(d : Int) else d) ∧ x % (B : Int) = m) ∧
    (x < 0 → 0 < m → x / (B : Int) = -((d + 1 : Nat) : Int) ∧ x % (B : Int) = ((B - m : Nat) : Int)) := by
  have hB : (0 : Int) < (B : Int) := by omega
  have hP : ((B * d : Nat) : Int) = (B : Int) * (d : Int) := by push_cast; rfl
  constructor
  · intro hc
    apply (Int.ediv_emod_unique hB).2
    by_cases hx : x < 0
    · rw [if_pos hx, Int.mul_neg, ← hP]
      refine ⟨by omega, by omega, by omega⟩
    · rw [if_neg hx, ← hP]
      refine ⟨by omega, by omega, by omega⟩
  · intro hx h0
    apply (Int.ediv_emod_unique hB).2
    have e : (B : Int) * -((d + 1 : Nat) : Int) = -(((B * d : Nat) : Int) + B) := by
      rw [hP, Int.mul_neg]; push_cast; rw [Int.mul_add, Int.mul_one]
    rw [e]
    refine ⟨by omega, by omega, by omega⟩
theorem dm_all (x y : Int) (d m : Nat) (h : y.natAbs * d + m = x.natAbs) (hm : m < y.natAbs) :
    (0 ≤ x ∨ m = 0 → x / y = (if (decide (x < 0) != decide (y < 0)) = true then -(d : Int) else d) ∧ x % y = m) ∧
    (x < 0 → 0 < m → x / y = (if (decide (x < 0) != decide (y < 0)) = true then -((d + 1 : Nat) : Int) else ((d + 1 : Nat) : Int)) ∧ x % y = ((y.natAbs - m : Nat) : Int)) := by
  obtain ⟨h1, h2⟩ := dm_pos x y.natAbs d m h hm
  by_cases hy : y < 0
  · have ey : y = -(y.natAbs : Int) := by omega
    constructor
    · intro hc
      obtain ⟨e1, e2⟩ := h1 hc
      rw [ey, Int.ediv_neg, Int.emod_neg, ← ey, e1, e2]
      refine ⟨?_, rfl⟩
      by_cases hx : x < 0 <;> simp [hx, hy]
    · intro hx h0
      obtain ⟨e1, e2⟩ := h2 hx h0
      rw [ey, Int.ediv_neg, Int.emod_neg, ← ey, e1, e2]
      refine ⟨?_, rfl⟩
      simp [hx, hy]
  · have ey : y = (y.natAbs : Int) := by omega
    constructor
    · intro hc
      obtain ⟨e1, e2⟩ := h1 hc
      rw [← ey] at e1 e2
      rw [e1, e2]
      refine ⟨?_, rfl⟩
      by_cases hx : x < 0 <;> simp [hx, hy]
    · intro hx h0
      obtain ⟨e1, e2⟩ := h2 hx h0
      rw [← ey] at e1 e2
      rw [e1, e2]
      refine ⟨?_, rfl⟩
      simp [hx, hy]
theorem bigZ_abs (z : Int) : bigZ (z.natAbs : Int) = bigZ z := by unfold bigZ; simp
theorem bigZ_small {x z : Int} (h : z.natAbs ≤ x.natAbs) (hb : bigZ x = false) : bigZ z = false := by
  rw [← bigZ_abs] at hb ⊢
  exact bigZ_le h hb
/-- What DivMod knows once it has divided. -/
def DmC (w : World) (gx : Nat) (nx ny : Bool) (v1 v2 : Value) (x y : Int) (s9 s10 : Value) (wx : World) : Prop :=
  ∃ a n c l a' n' c' l' , s9 = .slice a n c ∧ s10 = .slice a' n' c' ∧ (l : List Nat).length = n ∧ (l' : List Nat).length = n' ∧ n ≤ 1000 ∧ n' ≤ 1000 ∧ Nums .u32 wx a l ∧ Nums .u32 wx a' l' ∧
    (∃ Q R : Nat, Rep l Q ∧ Rep l' R ∧ x / y = (if (nx != ny) = true then -(Q : Int) else Q) ∧ x % y = (R : Int)) ∧
    Box2 wx gx nx v1 ∧ Box2 wx (gx + 1) ny v2 ∧ Below w.heap.size w wx
theorem dmC_mk {w wx : World} {gx : Nat} {nx ny : Bool} {v1 v2 : Value} {x y : Int} {s9 s10 : Value} {Q R K : Nat} (h1 : MagAt wx s9 Q) (h2 : MagAt wx s10 R) (b1 : Q < Bs ^ K) (b2 : R < Bs ^ K) (hK : K ≤ 1000)
    (e1 : x / y = (if (nx != ny) = true then -(Q : Int) else Q)) (e2 : x % y = (R : Int)) (x1 : Box2 wx gx nx v1) (x2 : Box2 wx (gx + 1) ny v2) (hb : Below w.heap.size w wx) : DmC w gx nx ny v1 v2 x y s9 s10 wx := by
  obtain ⟨a, n, c, l, q1, q2, q3, _, q5, q6⟩ := h1.len b1
  obtain ⟨a', n', c', l', p1, p2, p3, _, p5, p6⟩ := h2.len b2
  exact ⟨a, n, c, l, a', n', c', l', q1, p1, q2, p2, by omega, by omega, q5, p5, ⟨Q, R, q6, p6, e1, e2⟩, x1, x2, hb⟩
def QrE (w : World) (q r : List UInt8) (n : Int) (e : Ending) (w' : World) : Prop := e = .returned (.tuple #[.string ⟨q.toArray⟩, .string ⟨r.toArray⟩, .int .i64 n]) ∧ Below w.heap.size w w'

set_option maxHeartbeats 2000000 in
set_option maxRecDepth 100000 in
theorem dmod_bad (s t : ByteArray) (w : World) (hs : s.size ≤ 100000) (ht : t.size ≤ 100000) (h : bothZ s.data.toList t.data.toList ≠ 0) :
    Calls Tryz.prog 67 #[.string s, .string t] w (QrE w [] [] (bothZ s.data.toList t.data.toList)) := by
  have hp := pair_bad s t w hs ht h
  obtain ⟨E, hE⟩ : ∃ E, E = bothZ s.data.toList t.data.toList := ⟨_, rfl⟩
  rw [← hE] at hp h ⊢
  have HP := Lib.hid hp
  have t1 : (E != 0) = true := by simpa using h
  clear hp hE h
  go_enter Tryz.func67, Tryz.ntmps67
  go_wp2_with fail
  refine HP.out.mono ?_
  rintro e w1 ⟨rfl, b1⟩
  have B1 := Lib.hid b1
  clear b1
  go_wp2_with fail
  go_ret3
  exact ⟨rfl, (B1.out.alloc B1.out.size _).alloc (by have := B1.out.size; simp; omega) _⟩

set_option maxHeartbeats 2000000 in
set_option maxRecDepth 100000 in
theorem dmod_zero (s t : ByteArray) (x y : Int) (w : World) (hs : s.size ≤ 100000) (ht : t.size ≤ 100000) (hx : s.data.toList = txtZ x) (hy : t.data.toList = txtZ y) (bx : bigZ x = false) (byy : bigZ y = false) (h0 : y = 0) :
    Calls Tryz.prog 67 #[.string s, .string t] w (QrE w [] [] 16) := by
  have hp := pair_ok s t x y w hs ht hx hy bx byy
  have hbx := big_bound bx
  have hby := big_bound byy
  have HP := Lib.hid hp
  have HBX := Lib.hid hbx
  have HBY := Lib.hid hby
  have BBX := Lib.hid bx
  have BBY := Lib.hid byy
  clear hp hx hy bx byy hbx hby
  go_enter Tryz.func67, Tryz.ntmps67
  go_wp2_with fail
  refine HP.out.mono ?_
  rintro e w1 ⟨a, c, la, b, d, lb, rfl, hlc, hld, hna, hnb, hra, hrb, b1⟩
  obtain ⟨nx, hnx⟩ : ∃ nx, nx = decide (x < 0) := ⟨_, rfl⟩
  obtain ⟨ny, hny⟩ : ∃ ny, ny = decide (y < 0) := ⟨_, rfl⟩
  obtain ⟨k1, hk1⟩ : ∃ k1, k1 = la.length := ⟨_, rfl⟩
  obtain ⟨k2, hk2⟩ : ∃ k2, k2 = lb.length := ⟨_, rfl⟩
  rw [← hnx, ← hny, ← hk1, ← hk2]
  have HMA : Hid (NumAt w1 (.agg #[.bool nx, .slice a k1 c]) x) := natAt w1 a k1 c la x nx hnx hk1 (by omega) hna hra
  have HMB : Hid (NumAt w1 (.agg #[.bool ny, .slice b k2 d]) y) := natAt w1 b k2 d lb y ny hny hk2 (by omega) hnb hrb
  have B1 := Lib.hid b1
  have HNX := Lib.hid hnx
  have HNY := Lib.hid hny
  have HK1 := Lib.hid hk1
  have HK2 := Lib.hid hk2
  have RA := Lib.hid hra
  have RB := Lib.hid hrb
  have NA := Lib.hid hna
  have NB := Lib.hid hnb
  clear hlc hld hna hnb hra hrb b1 hnx hny hk1 hk2
  have hk : k2 = 0 := by
    have h := rep_len_pos RB.out
    rw [← HK2.out] at h
    rcases Nat.eq_zero_or_pos k2 with e | e
    · exact e
    · have := h.1 e; omega
  subst hk
  clear h0
  go_wp2_with fail
  go_ret3
  exact ⟨rfl, B1.out.trans ((own_two w1 _ _).mono B1.out.size)⟩

set_option maxHeartbeats 4000000 in
set_option maxRecDepth 100000 in
theorem dmod_ok (s t : ByteArray) (x y : Int) (w : World) (hs : s.size ≤ 100000) (ht : t.size ≤ 100000) (hx : s.data.toList = txtZ x) (hy : t.data.toList = txtZ y) (bx : bigZ x = false) (byy : bigZ y = false) (h0 : y ≠ 0) :
    Calls Tryz.prog 67 #[.string s, .string t] w (QrE w (txtZ (x / y)) (txtZ (x % y)) 0) := by
  have hq1 : bigZ (x / y) = false := bigZ_small (Int.natAbs_ediv_le_natAbs x y) bx
  have hq2 : bigZ (x % y) = false := by
    refine bigZ_small (x := y) ?_ byy
    have := Int.emod_lt x h0
    have := Int.emod_nonneg x h0
    omega
  have HQ1 := Lib.hid hq1
  have HQ2 := Lib.hid hq2
  clear hq1 hq2
  have hp := pair_ok s t x y w hs ht hx hy bx byy
  have hbx := big_bound bx
  have hby := big_bound byy
  have HP := Lib.hid hp
  have HBX := Lib.hid hbx
  have HBY := Lib.hid hby
  have BBX := Lib.hid bx
  have BBY := Lib.hid byy
  clear hp hx hy bx byy hbx hby
  go_enter Tryz.func67, Tryz.ntmps67
  go_wp2_with fail
  refine HP.out.mono ?_
  rintro e w1 ⟨a, c, la, b, d, lb, rfl, hlc, hld, hna, hnb, hra, hrb, b1⟩
  obtain ⟨nx, hnx⟩ : ∃ nx, nx = decide (x < 0) := ⟨_, rfl⟩
  obtain ⟨ny, hny⟩ : ∃ ny, ny = decide (y < 0) := ⟨_, rfl⟩
  obtain ⟨k1, hk1⟩ : ∃ k1, k1 = la.length := ⟨_, rfl⟩
  obtain ⟨k2, hk2⟩ : ∃ k2, k2 = lb.length := ⟨_, rfl⟩
  rw [← hnx, ← hny, ← hk1, ← hk2]
  have HMA : Hid (NumAt w1 (.agg #[.bool nx, .slice a k1 c]) x) := natAt w1 a k1 c la x nx hnx hk1 (by omega) hna hra
  have HMB : Hid (NumAt w1 (.agg #[.bool ny, .slice b k2 d]) y) := natAt w1 b k2 d lb y ny hny hk2 (by omega) hnb hrb
  have B1 := Lib.hid b1
  have HNX := Lib.hid hnx
  have HNY := Lib.hid hny
  have HK1 := Lib.hid hk1
  have HK2 := Lib.hid hk2
  have RA := Lib.hid hra
  have RB := Lib.hid hrb
  have NA := Lib.hid hna
  have NB := Lib.hid hnb
  have HLC := Lib.hid hlc
  clear hlc hld hna hnb hra hrb b1 hnx hny hk1 hk2
  have hyp : 0 < y.natAbs := by omega
  have hk : 0 < k2 := by rw [HK2.out]; exact (rep_len_pos RB.out).2 hyp
  have hkz : ((k2 : Int) == 0) = false := by rw [beq_eq_false_iff_ne]; omega
  have l1 := rep_len_of la _ KM RA.out HBX.out
  have l2 := rep_len_of lb _ KM RB.out HBY.out
  rw [KM_eq] at l1 l2
  have hdv : ∀ W, Below w1.heap.size w1 W → Calls Tryz.prog 89 #[.slice a k1 c, .slice b k2 d] W (QRPost W x.natAbs y.natAbs) := fun W hW =>
    divide_any a b k1 k2 c d x.natAbs y.natAbs la lb W HK1.out.symm HK2.out.symm (by rw [HK1.out]; omega) (by rw [HK2.out]; omega) (by rw [HK1.out]; exact HLC.out) RA.out RB.out (NA.out.below hW) (NB.out.below hW) hyp
  have HDV := Lib.hid hdv
  have HYP := Lib.hid hyp
  have L2 := Lib.hid l2
  have hdm := dm_all x y (x.natAbs / y.natAbs) (x.natAbs % y.natAbs) (Nat.div_add_mod _ _) (Nat.mod_lt _ hyp)
  rw [← HNX.out, ← HNY.out] at hdm
  have HDM := Lib.hid hdm
  have HXN : Hid (nx = true ↔ x < 0) := by have := HNX.out; show nx = true ↔ x < 0; rw [this, decide_eq_true_eq]
  clear hdm hdv hyp l1 l2 h0
  go_wp2_with fail
  obtain ⟨W0, hW0⟩ : ∃ W0, W0 = (w1.alloc (.cells #[.bool nx, .slice a k1 c] 118)).alloc (.cells #[.bool ny, .slice b k2 d] 118) := ⟨_, rfl⟩
  rw [← hW0]
  have hA0 : Box2 W0 w1.heap.size nx (.slice a k1 c) := by rw [hW0]; exact Box2.alloc (show Box2 (w1.alloc (.cells #[.bool nx, .slice a k1 c] 118)) w1.heap.size nx (.slice a k1 c) from World.alloc_heap_new w1 _) _
  have hB0 : Box2 W0 (w1.heap.size + 1) ny (.slice b k2 d) := by
    rw [hW0]
    have := World.alloc_heap_new (w1.alloc (.cells #[.bool nx, .slice a k1 c] 118)) (.cells #[.bool ny, .slice b k2 d] 118)
    rw [World.size_alloc] at this
    exact this
  have hbl1 : Below w1.heap.size w1 W0 := by rw [hW0]; exact own_two _ _ _
  refine (HDV.out _ hbl1).mono ?_
  rintro e w5 ⟨v1, v2, rfl, m1, m2, b5⟩
  have hbq : x.natAbs / y.natAbs < Bs ^ KM := Nat.lt_of_le_of_lt (Nat.div_le_self _ _) HBX.out
  have hbr : x.natAbs % y.natAbs < Bs ^ KM := Nat.lt_trans (Nat.mod_lt _ HYP.out) HBY.out
  obtain ⟨a3, n3, c3, l3, rfl, e1, e2, e3, e4, e5⟩ := m1.len hbq
  obtain ⟨a4, n4, c4, l4, rfl, f1, f2, f3, f4, f5⟩ := m2.len hbr
  have hA5 : Box2 w5 w1.heap.size nx (.slice a k1 c) := (b5.block _ hA0.lt).trans hA0
  have hB5 : Box2 w5 (w1.heap.size + 1) ny (.slice b k2 d) := (b5.block _ hB0.lt).trans hB0
  have B5 : Hid (Below w.heap.size w w5) := B1.out.trans ((hbl1.trans (b5.mono hbl1.size)).mono B1.out.size)
  have HB15 : Hid (Below w1.heap.size w1 w5) := hbl1.trans (b5.mono hbl1.size)
  have M1 := Lib.hid m1
  have M2 := Lib.hid m2
  have A5 := Lib.hid hA5
  have B5x := Lib.hid hB5
  have E1 := Lib.hid e1
  have F1 := Lib.hid f1
  have N4 := Lib.hid f4
  have R4 := Lib.hid f5
  have R3 := Lib.hid e5
  have N3 := Lib.hid e4
  have HQB := Lib.hid hbq
  have HRB := Lib.hid hbr
  have c0 := hA5.cell0
  have c1 := hB5.cell0
  have c2 := hB5.cell1
  rw [KM_eq] at e2 f2
  have hn4 : 0 < n4 ↔ 0 < x.natAbs % y.natAbs := by rw [← f1]; exact rep_len_pos f5
  have HN4 := Lib.hid hn4
  clear hA0 hB0 hbl1 hW0 b5 m1 m2 hA5 hB5 e1 f1 f4 f5 e4 e5 hbq hbr hn4
  obtain ⟨gx, hgx⟩ : ∃ gx, gx = w1.heap.size := ⟨_, rfl⟩
  rw [← hgx] at c0 c1 c2 A5 B5x ⊢
  have HGX : Hid (w.heap.size ≤ gx) := by rw [hgx]; exact B1.out.size
  clear hgx
  go_upto_region 7 with (fail)
  go_cut [39] (fun s wx => s = .bool (nx && decide (0 < n4)) ∧ w5 = wx)
  case first =>
    cases nx with
    | false =>
      go_wp2_with fail
      go_meet
      exact ⟨rfl, rfl⟩
    | true =>
      go_wp2_with fail
      go_meet
      exact ⟨by simp, rfl⟩
  case rest =>
  obtain ⟨rfl, rfl⟩ := hcut
  obtain ⟨T, hT⟩ : ∃ T, T = (nx && decide (0 < n4)) := ⟨_, rfl⟩
  rw [← hT]
  have HT := Lib.hid hT
  clear hT
  go_upto_if 39 with (fail)
  go_cut [9, 10] (DmC w gx nx ny (.slice a k1 c) (.slice b k2 d) x y)
  case first =>
    cases T with
    | false =>
      have HX : Hid (DmC w gx nx ny (.slice a k1 c) (.slice b k2 d) x y (.slice a3 n3 c3) (.slice a4 n4 c4) w5) := by
        have h : 0 ≤ x ∨ x.natAbs % y.natAbs = 0 := by
          have h1 := HT.out
          have h2 := HXN.out
          have h3 := HN4.out
          cases nx with
          | false => exact .inl (by rcases Int.lt_or_le x 0 with h | h; · have := h2.2 h; cases this
                                    · exact h)
          | true => exact .inr (by simp at h1; omega)
        exact dmC_mk M1.out M2.out HQB.out HRB.out (by rw [KM_eq]; omega) (HDM.out.1 h).1 (HDM.out.1 h).2 A5.out B5x.out B5.out
      go_wp2_with fail
      go_meet
      exact HX.out
    | true =>
      have hT := HT.out.symm
      rw [Bool.and_eq_true, decide_eq_true_eq] at hT
      have hx0 : x < 0 := HXN.out.1 hT.1
      have h4 := hT.2
      have HXA := Lib.hid hT
      clear hT
      have hm0 := HN4.out.1 h4
      have hdm := HDM.out.2 hx0 hm0
      have HD2 := Lib.hid hdm
      have hpl : ∀ W b2, Below w5.heap.size w5 W → W.cell? ⟨b2, 0, none⟩ = some (.int .u32 1) → Calls Tryz.prog 91 #[.slice a3 n3 c3, .slice (some ⟨b2, 0, none⟩) 1 1] W (MagNew W (x.natAbs / y.natAbs + 1)) := fun W b2 hW hc => by
        have := plus_any a3 (some ⟨b2, 0, none⟩) n3 1 c3 1 l3 [1] W E1.out rfl (by omega) (by omega) R3.out.1 (by simp; decide) (N3.out.below hW) (fun i hi => by
          obtain rfl : i = 0 := by simpa using hi
          exact ⟨b2, 0, rfl, cell_lt (a := ⟨b2, 0, none⟩) hc, hc⟩)
        rwa [R3.out.2.2, show val [1] = 1 by simp [val]] at this
      have hmi : ∀ W, Below w5.heap.size w5 W → Calls Tryz.prog 92 #[.slice b k2 d, .slice a4 n4 c4] W (MagNew W (y.natAbs - x.natAbs % y.natAbs)) := fun W hW => by
        have hlt : x.natAbs % y.natAbs < y.natAbs := Nat.mod_lt _ HYP.out
        have := minus_any b a4 k2 n4 d c4 lb l4 W HK2.out.symm F1.out (by rw [HK2.out]; have := L2.out; omega) (by rw [HK2.out, ← F1.out]; exact rep_len_le lb l4 _ _ RB.out R4.out (by omega)) RB.out.1 R4.out.1 (by rw [RB.out.2.2, R4.out.2.2]; omega) ((NB.out.below HB15.out).below hW) (N4.out.below hW)
        rwa [RB.out.2.2, R4.out.2.2] at this
      have HPL := Lib.hid hpl
      have HMI := Lib.hid hmi
      have HALL : Hid (∀ W : World, Below w5.heap.size w5 W → W.cell? ⟨gx + 1, 1, none⟩ = some (.slice b k2 d) ∧ Below w5.heap.size w5 W) := fun W h => ⟨Box2.cell1 ((h.block _ B5x.out.lt).trans B5x.out), h⟩
      have HST : Hid (Below w5.heap.size w5 w5.drew) := (Below.refl _ _).drew
      have HAL : Hid (∀ o : Obj, Below w5.heap.size w5 (w5.alloc o).drew) := fun o => ((Below.refl _ _).alloc (Nat.le_refl _) _).drew
      have HCE : Hid ((w5.alloc (.cells #[.int .u32 1] 106)).drew.cell? ⟨w5.heap.size, 0, none⟩ = some (.int .u32 1)) := (rowAt_alloc (w := w5) (c := #[.int .u32 1]) (l := [.int .u32 1]) (t := 106) rfl rfl).cell (i := 0) (by simp)
      clear hx0 hm0 hdm hpl hmi
      go_upto_region 8 with (fail)
      go_region_held3 (fun W => W.cell? ⟨gx + 1, 1, none⟩ = some (.slice b k2 d) ∧ Below w5.heap.size w5 W)
        ((first | with_reducible exact HALL.out _ HST.out | with_reducible exact HALL.out _ (Below.refl _ _) | with_reducible exact HALL.out _ (HG2.out) | with_reducible exact HALL.out _ (HG1.out) | with_reducible exact HALL.out _ (HAL.out _)))
        ((first
          | (go_at_call 91; refine (HPL.out _ w5.heap.size (HAL.out _) HCE.out).mono ?_; rintro e wp ⟨v, l, rfl, ho, hr, hb⟩; have hP : MagAt wp v _ := MagAt.of_own ho hr; have HG1 : Hid (Below w5.heap.size w5 wp) := (HAL.out _).trans (hb.mono (HAL.out _).size); have HPX := Lib.hid hP; clear ho hr hb hP)
          | (go_at_call 92; refine (HMI.out _ HG1.out).mono ?_; rintro e wk ⟨v', l', rfl, ho, hr, hb⟩; have hP : MagAt wk v' _ := MagAt.of_own ho hr; have HG2 : Hid (Below w5.heap.size w5 wk) := HG1.out.trans (hb.mono HG1.out.size); have HPM := Lib.hid hP; have HPX2 := Lib.hid (HPX.out.below hb); clear ho hr hb hP)))
      all_goals
        go_wp2_with fail
        go_meet
        refine dmC_mk (K := KM + 1) HPX2.out HPM.out ?_ ?_ (by rw [KM_eq]; omega) HD2.out.1 HD2.out.2 ((HG2.out.block _ A5.out.lt).trans A5.out) ((HG2.out.block _ B5x.out.lt).trans B5x.out) (B5.out.trans (HG2.out.mono B5.out.size))
        · have h1 := HQB.out
          have h2 : Bs ^ KM < Bs ^ (KM + 1) := Nat.pow_lt_pow_right Bs_one (Nat.lt_succ_self _)
          omega
        · have h1 := HBY.out
          have h2 : Bs ^ KM < Bs ^ (KM + 1) := Nat.pow_lt_pow_right Bs_one (Nat.lt_succ_self _)
          omega
  case rest =>
    obtain ⟨a6, n6, c6, l6, a7, n7, c7, l7, rfl, rfl, g1, g2, g3, g4, g5, g6, ⟨Q, R, g7, g8, g9, g10⟩, g11, g12, g13⟩ := hcut
    have hw1 := write_any (nx != ny) a6 n6 c6 Q l6 wc g1 (by omega) g7 g5
    rw [← g9] at hw1
    have hw2 : ∀ W, Below wc.heap.size wc W → Calls Tryz.prog 90 #[.agg #[.bool false, .slice a7 n7 c7]] W (WritePost W (x % y)) := fun W hW => by
      have := write_any false a7 n7 c7 R l7 W g2 (by omega) g8 (g6.below hW)
      rwa [if_neg (by decide), ← g10] at this
    have HW1 := Lib.hid hw1
    have HW2 := Lib.hid hw2
    have BC := Lib.hid g13
    have q0 := g11.cell0
    have q1 := g12.cell0
    clear hw1 hw2 g1 g2 g5 g6 g7 g8 g9 g10 g11 g12 g13 c0 c1 c2
    go_wp2_with fail
    refine HW1.out.mono ?_
    rintro e w7 ⟨hq, b7⟩
    rcases hq with ⟨hq, _⟩ | ⟨_, rfl⟩
    · rw [HQ1.out] at hq; cases hq
    have B7 := Lib.hid b7
    clear b7
    go_wp2_with fail
    refine (HW2.out _ B7.out).mono ?_
    rintro e w8 ⟨hq, b8⟩
    rcases hq with ⟨hq, _⟩ | ⟨_, rfl⟩
    · rw [HQ2.out] at hq; cases hq
    have B8 := Lib.hid b8
    clear b8
    go_wp2_with fail
    go_ret3
    have h7 := BC.out.trans (B7.out.mono BC.out.size)
    exact ⟨rfl, h7.trans (B8.out.mono h7.size)⟩


end Go.Proofs.YtnmiiimbjojcmaaGreatDoor
