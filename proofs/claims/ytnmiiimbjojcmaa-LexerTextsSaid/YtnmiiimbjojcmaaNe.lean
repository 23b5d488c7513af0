/-
  The program's pair and Gcd. No condition.
-/
import Derived.Test.YtnmiiimbjojcmaaNd
import Derived.Test.YtnmiiimbjojcmaaIj
import Derived.RegionTactic
namespace Go.Proofs.Ytnmiiimbjojcmaa
open Go.RowKit Go.Shelf

/-- Two numbers are handed back. -/
def PairPost (w : World) (x y : Int) (e : Ending) (w' : World) : Prop :=
  ∃ a c la b d lb, e = .returned (.tuple #[.agg #[.bool (decide (x < 0)), .slice a (la : List Nat).length c], .agg #[.bool (decide (y < 0)), .slice b (lb : List Nat).length d], .int .i64 0]) ∧
    la.length ≤ c ∧ lb.length ≤ d ∧ Nums .u32 w' a la ∧ Nums .u32 w' b lb ∧ Rep la x.natAbs ∧ Rep lb y.natAbs ∧ Below w.heap.size w w'
def PairNo (w : World) (n : Int) (e : Ending) (w' : World) : Prop :=
  e = .returned (.tuple #[.agg #[.bool false, .slice none 0 0], .agg #[.bool false, .slice none 0 0], .int .i64 n]) ∧ Below w.heap.size w w'

theorem check_same (s : ByteArray) (w : World) (hs : s.size ≤ 1000000) : Calls Try.prog 32 #[.string s] w fun e w' => e = .returned (.int .i64 (chkZ s.data.toList)) ∧ w = w' :=
  (check_any s w hs).mono fun _ _ ⟨a, b⟩ => ⟨a, b.symm⟩

set_option maxHeartbeats 2000000 in
set_option maxRecDepth 100000 in
theorem pair_ok (s t : ByteArray) (x y : Int) (w : World) (hs : s.size ≤ 100000) (ht : t.size ≤ 100000) (hx : s.data.toList = txtZ x) (hy : t.data.toList = txtZ y) (bx : bigZ x = false) (byy : bigZ y = false) :
    Calls Try.prog 45 #[.string s, .string t] w (PairPost w x y) := by
  have hc1 := fun W => check_same s W (by omega)
  have hc2 := fun W => check_same t W (by omega)
  rw [hx, chkZ_txtZ, bx] at hc1
  rw [hy, chkZ_txtZ, byy] at hc2
  simp only [Bool.false_eq_true, if_false] at hc1 hc2
  have hr1 := fun W => read_any s x W hs hx
  have hr2 := fun W => read_any t y W ht hy
  have HC1 := Lib.hid hc1
  have HC2 := Lib.hid hc2
  have HR1 := Lib.hid hr1
  have HR2 := Lib.hid hr2
  obtain ⟨W0, hW0⟩ : ∃ W0, W0 = (w.alloc (.cells #[.bool false, .slice none 0 0] 85)).alloc (.cells #[.bool false, .slice none 0 0] 85) := ⟨_, rfl⟩
  have hA0 : Box2 W0 w.heap.size false (.slice none 0 0) := by rw [hW0]; exact Box2.alloc (show Box2 (w.alloc (.cells #[.bool false, .slice none 0 0] 85)) w.heap.size false (.slice none 0 0) from World.alloc_heap_new w _) _
  have hB0 : Box2 W0 (w.heap.size + 1) false (.slice none 0 0) := by
    rw [hW0]
    have := World.alloc_heap_new (w.alloc (.cells #[.bool false, .slice none 0 0] 85)) (.cells #[.bool false, .slice none 0 0] 85)
    rw [World.size_alloc] at this
    exact this
  have hb0 : Below w.heap.size w W0 := by rw [hW0]; exact ((Below.refl _ w).alloc (Nat.le_refl _) _).alloc (by simp) _
  have HA0 := Lib.hid hA0
  have HB0 := Lib.hid hB0
  have HBL := Lib.hid hb0
  have HW0 := Lib.hid hW0
  clear hc1 hc2 hr1 hr2 hx hy bx byy hA0 hB0 hb0 hW0
  go_enter Try.func45, Try.ntmps45
  go_wp2_with fail
  rw [← HW0.out]
  refine (HC1.out _).mono ?_
  rintro e w' ⟨rfl, rfl⟩
  go_wp2_with fail
  refine (HC2.out _).mono ?_
  rintro e w' ⟨rfl, rfl⟩
  go_wp2_with fail
  refine (HR1.out W0).mono ?_
  rintro e W1 ⟨a, c, la, rfl, hlc1, hn1, hp1, hb1⟩
  obtain ⟨k1, hk1⟩ : ∃ k1, k1 = la.length := ⟨_, rfl⟩
  rw [← hk1] at hlc1 ⊢
  have HN1 := Lib.hid hn1
  have HP1 := Lib.hid hp1
  have HB1 := Lib.hid hb1
  have HK1 := Lib.hid hk1
  clear hn1 hp1 hb1 hk1
  go_wp2_with fail
  refine (HR2.out W1).mono ?_
  rintro e W2 ⟨b, d, lb, rfl, hlc2, hn2, hp2, hb2⟩
  obtain ⟨k2, hk2⟩ : ∃ k2, k2 = lb.length := ⟨_, rfl⟩
  rw [← hk2] at hlc2 ⊢
  have HN2 := Lib.hid hn2
  have HP2 := Lib.hid hp2
  have HK2 := Lib.hid hk2
  have hb02 : Below W0.heap.size W0 W2 := HB1.out.trans (hb2.mono HB1.out.size)
  have HB02 := Lib.hid hb02
  have HBB := Lib.hid hb2
  have hsz : w.heap.size + 1 < W0.heap.size := HB0.out.lt
  have hA2 : Box2 W2 w.heap.size false (.slice none 0 0) := (hb02.block _ HA0.out.lt).trans HA0.out
  have hB2 : Box2 W2 (w.heap.size + 1) false (.slice none 0 0) := (hb02.block _ HB0.out.lt).trans HB0.out
  clear hn2 hp2 hk2 hb2 hb02
  obtain ⟨nx, hnx⟩ : ∃ nx, nx = decide (x < 0) := ⟨_, rfl⟩
  obtain ⟨ny, hny⟩ : ∃ ny, ny = decide (y < 0) := ⟨_, rfl⟩
  rw [← hnx, ← hny]
  have HNX := Lib.hid hnx
  have HNY := Lib.hid hny
  have a0 := hA2.cell0
  have a1 := hA2.cell1
  have af0 := hA2.frozen 0
  have af1 := hA2.frozen 1
  have hA3 : Box2 ((W2.setCell ⟨w.heap.size, 0, none⟩ (.bool nx)).setCell ⟨w.heap.size, 1, none⟩ (.slice a k1 c)) w.heap.size nx (.slice a k1 c) := (hA2.set0 nx).set1 _
  have hB3 : Box2 ((W2.setCell ⟨w.heap.size, 0, none⟩ (.bool nx)).setCell ⟨w.heap.size, 1, none⟩ (.slice a k1 c)) (w.heap.size + 1) false (.slice none 0 0) := (hB2.other (by show w.heap.size + 1 ≠ w.heap.size; omega) _).other (by show w.heap.size + 1 ≠ w.heap.size; omega) _
  have b0 := hB3.cell0
  have b1 := hB3.cell1
  have bf0 := hB3.frozen 0
  have bf1 := hB3.frozen 1
  have hA4 : Box2 ((((W2.setCell ⟨w.heap.size, 0, none⟩ (.bool nx)).setCell ⟨w.heap.size, 1, none⟩ (.slice a k1 c)).setCell ⟨w.heap.size + 1, 0, none⟩ (.bool ny)).setCell ⟨w.heap.size + 1, 1, none⟩ (.slice b k2 d)) w.heap.size nx (.slice a k1 c) := (hA3.other (by show w.heap.size ≠ w.heap.size + 1; omega) _).other (by show w.heap.size ≠ w.heap.size + 1; omega) _
  have hB4 : Box2 ((((W2.setCell ⟨w.heap.size, 0, none⟩ (.bool nx)).setCell ⟨w.heap.size, 1, none⟩ (.slice a k1 c)).setCell ⟨w.heap.size + 1, 0, none⟩ (.bool ny)).setCell ⟨w.heap.size + 1, 1, none⟩ (.slice b k2 d)) (w.heap.size + 1) ny (.slice b k2 d) := (hB3.set0 ny).set1 _
  have HA4 := Lib.hid hA4
  have HB4 := Lib.hid hB4
  clear hnx hny hA2 hB2 hA3 hB3 hA4 hB4
  have ow1 : W2.ownsRow W0.heap.size 101 1 (.slice a k1 c) k1 (nums .u32 la) := by
    have := HN1.out
    rw [← HK1.out] at this
    obtain ⟨h1, h2⟩ := this
    refine ⟨h1, ?_⟩
    rcases h2 with h | ⟨g, cap, cur, e1, e2, e3, e4⟩
    · exact .inl h
    · exact .inr ⟨g, cap, cur, e1, e2, (HBB.out.block g (Array.getElem?_eq_some_iff.1 e3).1).trans e3, e4⟩
  have ow2 : W2.ownsRow W0.heap.size 101 1 (.slice b k2 d) k2 (nums .u32 lb) := by
    have := HN2.out
    rw [← HK2.out] at this
    exact owns_base this HB1.out.size
  have hkeep : ∀ {v : Value} {k : Nat} {xs : List Value} {W : World} {B : Nat} {u : Value} {i : Nat}, W.ownsRow W0.heap.size 101 1 v k xs → B < W0.heap.size → (W.setCell ⟨B, i, none⟩ u).ownsRow W0.heap.size 101 1 v k xs := fun {v k xs W B u i} h hB =>
    h.kept (row := some B) (only_setCell (only_refl _ _) (.inl rfl) _) (.inr (fun e => by have := (h.lt B e).1; omega))
  have ow3 := hkeep (hkeep (hkeep (hkeep ow1 (B := w.heap.size) (u := .bool nx) (i := 0) (by omega)) (B := w.heap.size) (u := .slice a k1 c) (i := 1) (by omega)) (B := w.heap.size + 1) (u := .bool ny) (i := 0) (by omega)) (B := w.heap.size + 1) (u := .slice b k2 d) (i := 1) (by omega)
  have ow4 := hkeep (hkeep (hkeep (hkeep ow2 (B := w.heap.size) (u := .bool nx) (i := 0) (by omega)) (B := w.heap.size) (u := .slice a k1 c) (i := 1) (by omega)) (B := w.heap.size + 1) (u := .bool ny) (i := 0) (by omega)) (B := w.heap.size + 1) (u := .slice b k2 d) (i := 1) (by omega)
  have OW3 := Lib.hid ow3
  have OW4 := Lib.hid ow4
  clear ow1 ow2 hkeep ow3 ow4
  go_wp2_with fail
  have q0 := HA4.out.cell0
  have q1 := HA4.out.cell1
  have q2 := HB4.out.cell0
  have q3 := HB4.out.cell1
  refine bodyPost_ret (v := .tuple #[.agg #[.bool nx, .slice a k1 c], .agg #[.bool ny, .slice b k2 d], .int .i64 0]) (by simp [results, Try.results45, go_sem, q0, q1, q2, q3]) rfl ?_
  obtain ⟨a3, c3, e3, hl3, hlc3, hn3⟩ := nums_of_owns OW3.out
  injection e3 with e31 _ e33
  subst e31 e33
  obtain ⟨a4, c4, e4, hl4, hlc4, hn4⟩ := nums_of_owns OW4.out
  injection e4 with e41 _ e43
  subst e41 e43
  refine ⟨a, c, la, b, d, lb, by rw [HNX.out, HNY.out, hl3, hl4], by omega, by omega, hn3, hn4, HP1.out, HP2.out, ?_⟩
  have b2 := HBL.out.trans (HB02.out.mono HBL.out.size)
  exact (((b2.setCell (p := ⟨w.heap.size, 0, none⟩) (Nat.le_refl _) _).setCell (p := ⟨w.heap.size, 1, none⟩) (Nat.le_refl _) _).setCell (p := ⟨w.heap.size + 1, 0, none⟩) (by show w.heap.size ≤ w.heap.size + 1; omega) _).setCell (p := ⟨w.heap.size + 1, 1, none⟩) (by show w.heap.size ≤ w.heap.size + 1; omega) _

set_option maxHeartbeats 2000000 in
set_option maxRecDepth 100000 in
theorem pair_bad (s t : ByteArray) (w : World) (hs : s.size ≤ 100000) (ht : t.size ≤ 100000) (h : bothZ s.data.toList t.data.toList ≠ 0) :
    Calls Try.prog 45 #[.string s, .string t] w (PairNo w (bothZ s.data.toList t.data.toList)) := by
  have hc1 := fun W => check_same s W (by omega)
  have hc2 := fun W => check_same t W (by omega)
  obtain ⟨E, hE⟩ : ∃ E, E = bothZ s.data.toList t.data.toList := ⟨_, rfl⟩
  obtain ⟨x, hx⟩ : ∃ x, x = chkZ s.data.toList := ⟨_, rfl⟩
  obtain ⟨y, hy⟩ : ∃ y, y = chkZ t.data.toList := ⟨_, rfl⟩
  rw [← hx] at hc1
  rw [← hy] at hc2
  rw [← hE] at h ⊢
  unfold bothZ at hE
  rw [← hx, ← hy] at hE
  have HC1 := Lib.hid hc1
  have HC2 := Lib.hid hc2
  have HE := Lib.hid hE
  have tE : (E != 0) = true := by simpa using h
  clear hc1 hc2 hx hy hE h
  by_cases hx0 : x = 0
  · have e1 : E = y := by rw [HE.out, if_pos hx0]
    subst e1
    subst hx0
    go_enter Try.func45, Try.ntmps45
    go_wp2_with fail
    refine (HC1.out _).mono ?_
    rintro e w1 ⟨rfl, hw1⟩
    rw [← hw1]
    clear hw1
    go_wp2_with fail
    refine (HC2.out _).mono ?_
    rintro e w2 ⟨rfl, hw1⟩
    rw [← hw1]
    clear hw1
    go_wp2_with fail
    go_region
    all_goals
      go_wp2_with fail
      refine bodyPost_ret (v := .tuple #[.agg #[.bool false, .slice none 0 0], .agg #[.bool false, .slice none 0 0], .int .i64 E]) (by simp [results, Try.results45, go_sem]) rfl ⟨rfl, ?_⟩
      exact (((Below.refl _ w).alloc (Nat.le_refl _) _).alloc (by simp) _).drew
  · have e1 : E = x := by rw [HE.out, if_neg hx0]
    subst e1
    have t1 : (E == 0) = false := by simpa using hx0
    clear hx0
    go_enter Try.func45, Try.ntmps45
    go_wp2_with fail
    refine (HC1.out _).mono ?_
    rintro e w1 ⟨rfl, hw1⟩
    rw [← hw1]
    clear hw1
    go_wp2_with fail
    go_region
    all_goals
      go_wp2_with fail
      refine bodyPost_ret (v := .tuple #[.agg #[.bool false, .slice none 0 0], .agg #[.bool false, .slice none 0 0], .int .i64 E]) (by simp [results, Try.results45, go_sem]) rfl ⟨rfl, ?_⟩
      exact (((Below.refl _ w).alloc (Nat.le_refl _) _).alloc (by simp) _).drew

/-- divide, at whatever two magnitudes. -/
theorem divide_any (a b : Option Addr) (n m c d A B : Nat) (la lb : List Nat) (w : World) (hla : la.length = n) (hlb : lb.length = m) (hn : n ≤ 100000) (hm : m ≤ 100000) (hnc : n ≤ c)
    (ra : Rep la A) (rb : Rep lb B) (ha : Nums .u32 w a la) (hb : Nums .u32 w b lb) (h0 : 0 < B) :
    Calls Try.prog 46 #[.slice a n c, .slice b m d] w (QRPost w A B) := by
  rcases Nat.lt_or_ge A B with h | h
  · exact divide_small a b n m c d A B la lb w hla hlb hn hm hnc ra rb ha hb h
  · match m, hlb with
    | 0, hlb =>
      rw [List.eq_nil_of_length_eq_zero hlb] at rb
      have := rb.2.2
      simp [val] at this; omega
    | 1, hlb => exact divide_one a b n c d A B la lb w hla hlb hn ra rb ha hb h
    | p + 2, hlb => exact divide_long a b n p c d A B la lb w hla hlb hn (by omega) ra rb ha hb h
theorem MagAt.len {w : World} {v : Value} {N k : Nat} (h : MagAt w v N) (hk : N < Bs ^ k) : ∃ a n c l, v = .slice a n c ∧ (l : List Nat).length = n ∧ n ≤ k ∧ n ≤ c ∧ Nums .u32 w a l ∧ Rep l N := by
  obtain ⟨a, c, l, h1, h2, h3, h4⟩ := h
  exact ⟨a, _, c, l, h1, rfl, rep_len_of l N k h4 hk, h2, h3, h4⟩
/-- The number of groups that a number of 1000 digits may have, and one more. -/
def KM : Nat := 112
theorem KM_eq : KM = 112 := rfl
theorem big_bound {z : Int} (h : bigZ z = false) : z.natAbs < Bs ^ KM := by
  have h1 := bigZ_false h
  obtain ⟨k, hk⟩ : ∃ k, k = 1000 := ⟨_, rfl⟩
  rw [← hk] at h1
  have h2 := (decN_len_le z.natAbs k (by omega)).1 h1
  rw [Bs_pow KM]
  exact Nat.lt_trans h2 (Nat.pow_lt_pow_right (by omega) (by rw [KM_eq]; omega))
theorem bigZ_le {m n : Nat} (h : m ≤ n) (hb : bigZ (n : Int) = false) : bigZ (m : Int) = false := by
  have h1 := bigZ_false hb
  have h2 := decN_mono h
  unfold bigZ
  simp only [Int.natAbs_natCast] at h1 ⊢
  simp; omega

/-- Euclid's loop in the program: the two numbers lie in two blocks. -/
def GcM (w : World) (gx gy G : Nat) (gk : Nat) (wr : World) : Prop :=
  ∃ (X Y : Nat) (nx ny : Bool) (vx vy : Value), gk = Y ∧ Box2 wr gx nx vx ∧ Box2 wr gy ny vy ∧ MagAt wr vx X ∧ MagAt wr vy Y ∧ Nat.gcd X Y = G ∧ X < Bs ^ KM ∧ Y < Bs ^ KM ∧ Below w.heap.size w wr

end Go.Proofs.Ytnmiiimbjojcmaa
