/-
  The program's Add, Sub, Mul, Compare of integers. No condition. The program's Sub, Compare of integers. No condition. The program's Mul of integers. No condition.
-/
import Derived.Test.YtnikhbdjlipcbaaDoorVo
import Derived.Test.YtnikhbdjlipcbaaDoorVa
namespace Go.Proofs.YtnikhbdjlipcbaaDoor
open Go.RowKit

theorem natAt (w : World) (a : Option Addr) (n c : Nat) (l : List Nat) (z : Int) (g : Bool) (hg : g = decide (z < 0)) (hl : n = l.length) (hc : n ≤ c) (hn : Nums .u32 w a l) (hr : Rep l z.natAbs) : NumAt w (.agg #[.bool g, .slice a n c]) z := by
  subst hl
  exact ⟨a, c, l, by rw [hg], hc, hn, hr⟩
/-- A number is written. -/
theorem write_num (v : Value) (z : Int) (k : Nat) (w : World) (hk : k ≤ 50000) (hz : z.natAbs < Bs ^ k) (h : NumAt w v z) : Calls Tryd.prog 93 #[v] w (WritePost w z) := by
  obtain ⟨a, c, l, rfl, hc, hn, hr⟩ := h
  have hl := rep_len_of l _ k hr hz
  have := write_any (decide (z < 0)) a l.length c z.natAbs l w rfl (by omega) hr hn
  have e : (if decide (z < 0) = true then -(z.natAbs : Int) else (z.natAbs : Int)) = z := by
    by_cases h : z < 0 <;> simp [h] <;> omega
  rwa [e] at this
theorem add_lt {k : Nat} {x y : Int} (k1 : 1 ≤ k) (bx : x.natAbs < Bs ^ k) (bb : y.natAbs < Bs ^ k) : (x + y).natAbs < Bs ^ (k + k) := by
  refine Nat.lt_of_le_of_lt (Int.natAbs_add_le x y) (Nat.lt_of_lt_of_le (Nat.add_lt_add bx bb) ?_)
  rw [Nat.pow_add]
  exact two_pow k k1
theorem mul_lt {k : Nat} {x y : Int} (bx : x.natAbs < Bs ^ k) (bb : y.natAbs < Bs ^ k) : (x * y).natAbs < Bs ^ (k + k) := by
  rw [Int.natAbs_mul, Nat.pow_add]
  exact Nat.mul_lt_mul'' bx bb
theorem own_two (w : World) (o1 o2 : Obj) : Below w.heap.size w ((w.alloc o1).alloc o2) := ((Below.refl _ _).alloc (Nat.le_refl _) _).alloc (by simp) _

set_option maxHeartbeats 2000000 in
set_option maxRecDepth 100000 in
theorem add_ok (s t : ByteArray) (x y : Int) (w : World) (hs : s.size ≤ 100000) (ht : t.size ≤ 100000) (hx : s.data.toList = txtZ x) (hy : t.data.toList = txtZ y) (bx : bigZ x = false) (byy : bigZ y = false) :
    Calls Tryd.prog 56 #[.string s, .string t] w (WritePost w (x + y)) := by
  have hp := pair_ok s t x y w hs ht hx hy bx byy
  have hbx := big_bound bx
  have hby := big_bound byy
  have HP := Lib.hid hp
  have HBX := Lib.hid hbx
  have HBY := Lib.hid hby
  have BBX := Lib.hid bx
  have BBY := Lib.hid byy
  clear hp hx hy bx byy hbx hby
  go_enter Tryd.func56, Tryd.ntmps56
  go_wp2_with fail
  refine HP.out.mono ?_
  rintro e w1 ⟨a, c, la, b, d, lb, rfl, hlc, hld, hna, hnb, hra, hrb, b1⟩
  obtain ⟨nx, hnx⟩ : ∃ nx, nx = decide (x < 0) := ⟨_, rfl⟩
  obtain ⟨ny, hny⟩ : ∃ ny, ny = decide (y < 0) := ⟨_, rfl⟩
  obtain ⟨k1, hk1⟩ : ∃ k1, k1 = la.length := ⟨_, rfl⟩
  obtain ⟨k2, hk2⟩ : ∃ k2, k2 = lb.length := ⟨_, rfl⟩
  rw [← hnx, ← hny, ← hk1, ← hk2]
  have HMA : Hid (NumAt w1 (.agg #[.bool nx, .slice a k1 c]) x) := natAt w1 a k1 c la x nx hnx hk1 (by omega) hna hra
  have HMB : Hid (NumAt w1 (.agg #[.bool ny, .slice b k2 d]) y) := natAt w1 b k2 d lb y ny hny hk2 (by omega) hnb hrb
  have B1 := Lib.hid b1
  have HNX := Lib.hid hnx
  have HNY := Lib.hid hny
  have HK1 := Lib.hid hk1
  have HK2 := Lib.hid hk2
  have RA := Lib.hid hra
  have RB := Lib.hid hrb
  have NA := Lib.hid hna
  have NB := Lib.hid hnb
  clear hlc hld hna hnb hra hrb b1 hnx hny hk1 hk2
  go_wp2_with fail
  refine (sum_any x y _ _ _ (HMA.out.below (own_two _ _ _)) (HMB.out.below (own_two _ _ _)) KM (by rw [KM_eq]; omega) (by rw [KM_eq]; omega) HBX.out HBY.out).mono ?_
  rintro e w3 ⟨v, rfl, hv, b3⟩
  have hw := write_num v (x + y) (KM + KM) w3 (by rw [KM_eq]; omega) (add_lt (by rw [KM_eq]; omega) HBX.out HBY.out) hv
  have HWR := Lib.hid hw
  have B3 : Hid (Below w.heap.size w w3) := B1.out.trans (((own_two w1 _ _).trans (b3.mono (own_two w1 _ _).size)).mono B1.out.size)
  clear hw hv b3
  go_wp2_with fail
  refine HWR.out.mono ?_
  rintro e w4 ⟨hq, b4⟩
  have B4 : Hid (Below w.heap.size w w4) := B3.out.trans (b4.mono B3.out.size)
  clear b4
  rcases hq with ⟨hb, rfl⟩ | ⟨hb, rfl⟩
  · have HB := Lib.hid hb
    clear hb
    go_wp2_with fail
    go_ret2
    exact ⟨.inl ⟨HB.out, rfl⟩, B4.out⟩
  · have HB := Lib.hid hb
    clear hb
    go_wp2_with fail
    go_ret2
    exact ⟨.inr ⟨HB.out, rfl⟩, B4.out⟩

set_option maxHeartbeats 2000000 in
set_option maxRecDepth 100000 in
theorem add_bad (s t : ByteArray) (w : World) (hs : s.size ≤ 100000) (ht : t.size ≤ 100000) (h : bothZ s.data.toList t.data.toList ≠ 0) :
    Calls Tryd.prog 56 #[.string s, .string t] w (SEPost w [] (bothZ s.data.toList t.data.toList)) := by
  have hp := pair_bad s t w hs ht h
  obtain ⟨E, hE⟩ : ∃ E, E = bothZ s.data.toList t.data.toList := ⟨_, rfl⟩
  rw [← hE] at hp h ⊢
  have HP := Lib.hid hp
  have t1 : (E != 0) = true := by simpa using h
  clear hp hE h
  go_enter Tryd.func56, Tryd.ntmps56
  go_wp2_with fail
  refine HP.out.mono ?_
  rintro e w1 ⟨rfl, b1⟩
  have B1 := Lib.hid b1
  clear b1
  go_wp2_with fail
  go_ret2
  exact ⟨rfl, (B1.out.alloc B1.out.size _).alloc (by have := B1.out.size; simp; omega) _⟩

set_option maxHeartbeats 2000000 in
set_option maxRecDepth 100000 in
theorem sub_bad (s t : ByteArray) (w : World) (hs : s.size ≤ 100000) (ht : t.size ≤ 100000) (h : bothZ s.data.toList t.data.toList ≠ 0) :
    Calls Tryd.prog 54 #[.string s, .string t] w (SEPost w [] (bothZ s.data.toList t.data.toList)) := by
  have hp := pair_bad s t w hs ht h
  obtain ⟨E, hE⟩ : ∃ E, E = bothZ s.data.toList t.data.toList := ⟨_, rfl⟩
  rw [← hE] at hp h ⊢
  have HP := Lib.hid hp
  have t1 : (E != 0) = true := by simpa using h
  clear hp hE h
  go_enter Tryd.func54, Tryd.ntmps54
  go_wp2_with fail
  refine HP.out.mono ?_
  rintro e w1 ⟨rfl, b1⟩
  have B1 := Lib.hid b1
  clear b1
  go_wp2_with fail
  go_ret2
  exact ⟨rfl, (B1.out.alloc B1.out.size _).alloc (by have := B1.out.size; simp; omega) _⟩

set_option maxHeartbeats 2000000 in
set_option maxRecDepth 100000 in
theorem mul_bad (s t : ByteArray) (w : World) (hs : s.size ≤ 100000) (ht : t.size ≤ 100000) (h : bothZ s.data.toList t.data.toList ≠ 0) :
    Calls Tryd.prog 49 #[.string s, .string t] w (SEPost w [] (bothZ s.data.toList t.data.toList)) := by
  have hp := pair_bad s t w hs ht h
  obtain ⟨E, hE⟩ : ∃ E, E = bothZ s.data.toList t.data.toList := ⟨_, rfl⟩
  rw [← hE] at hp h ⊢
  have HP := Lib.hid hp
  have t1 : (E != 0) = true := by simpa using h
  clear hp hE h
  go_enter Tryd.func49, Tryd.ntmps49
  go_wp2_with fail
  refine HP.out.mono ?_
  rintro e w1 ⟨rfl, b1⟩
  have B1 := Lib.hid b1
  clear b1
  go_wp2_with fail
  go_ret2
  exact ⟨rfl, (B1.out.alloc B1.out.size _).alloc (by have := B1.out.size; simp; omega) _⟩

set_option maxHeartbeats 2000000 in
set_option maxRecDepth 100000 in
theorem icmp_bad (s t : ByteArray) (w : World) (hs : s.size ≤ 100000) (ht : t.size ≤ 100000) (h : bothZ s.data.toList t.data.toList ≠ 0) :
    Calls Tryd.prog 55 #[.string s, .string t] w (fun e w' => e = .returned (.tuple #[.int .i64 0, .int .i64 (bothZ s.data.toList t.data.toList)]) ∧ Below w.heap.size w w') := by
  have hp := pair_bad s t w hs ht h
  obtain ⟨E, hE⟩ : ∃ E, E = bothZ s.data.toList t.data.toList := ⟨_, rfl⟩
  rw [← hE] at hp h ⊢
  have HP := Lib.hid hp
  have t1 : (E != 0) = true := by simpa using h
  clear hp hE h
  go_enter Tryd.func55, Tryd.ntmps55
  go_wp2_with fail
  refine HP.out.mono ?_
  rintro e w1 ⟨rfl, b1⟩
  have B1 := Lib.hid b1
  clear b1
  go_wp2_with fail
  go_ret2
  exact ⟨rfl, (B1.out.alloc B1.out.size _).alloc (by have := B1.out.size; simp; omega) _⟩


end Go.Proofs.YtnikhbdjlipcbaaDoor

namespace Go.Proofs.YtnikhbdjlipcbaaDoor
open Go.RowKit

def WriteU (w : World) (z : Int) (e : Ending) (w' : World) : Prop :=
  ∃ (r : ByteArray) (n : Int), e = .returned (.tuple #[.string r, .int .i64 n]) ∧ ((bigZ z = true ∧ r = ByteArray.empty ∧ n = 14) ∨ (bigZ z = false ∧ r = ⟨(txtZ z).toArray⟩ ∧ n = 0)) ∧ Below w.heap.size w w'
theorem WritePost.uni {w : World} {z : Int} {e : Ending} {w' : World} (h : WritePost w z e w') : WriteU w z e w' := by
  obtain ⟨h1 | h1, h2⟩ := h
  · exact ⟨_, _, h1.2, .inl ⟨h1.1, rfl, rfl⟩, h2⟩
  · exact ⟨_, _, h1.2, .inr ⟨h1.1, rfl, rfl⟩, h2⟩
theorem WriteU.back {w : World} {z : Int} {e : Ending} {w' : World} (h : WriteU w z e w') : WritePost w z e w' := by
  obtain ⟨r, n, h0, h1, h2⟩ := h
  rcases h1 with ⟨a, b, c⟩ | ⟨a, b, c⟩ <;> subst b c
  · exact ⟨.inl ⟨a, h0⟩, h2⟩
  · exact ⟨.inr ⟨a, h0⟩, h2⟩
def cmpZ (x y : Int) : Int := if x < y then -1 else if y < x then 1 else 0
theorem mul_sign (x y : Int) (nx ny : Bool) (hx : nx = decide (x < 0)) (hy : ny = decide (y < 0)) : (if (nx != ny) = true then -((x.natAbs * y.natAbs : Nat) : Int) else ((x.natAbs * y.natAbs : Nat) : Int)) = x * y := by
  have key : ((x.natAbs * y.natAbs : Nat) : Int) = (x.natAbs : Int) * (y.natAbs : Int) := by push_cast; rfl
  rw [key]
  by_cases h1 : x < 0 <;> by_cases h2 : y < 0
  · have e1 : (x.natAbs : Int) = -x := by omega
    have e2 : (y.natAbs : Int) = -y := by omega
    simp [hx, hy, h1, h2, e1, e2, Int.neg_mul_neg]
  · have e1 : (x.natAbs : Int) = -x := by omega
    have e2 : (y.natAbs : Int) = y := by omega
    simp [hx, hy, h1, h2, e1, e2, Int.neg_mul]
  · have e1 : (x.natAbs : Int) = x := by omega
    have e2 : (y.natAbs : Int) = -y := by omega
    simp [hx, hy, h1, h2, e1, e2, Int.mul_neg]
  · have e1 : (x.natAbs : Int) = x := by omega
    have e2 : (y.natAbs : Int) = y := by omega
    simp [hx, hy, h1, h2, e1, e2]

set_option maxHeartbeats 2000000 in
set_option maxRecDepth 100000 in
theorem sub_ok (s t : ByteArray) (x y : Int) (w : World) (hs : s.size ≤ 100000) (ht : t.size ≤ 100000) (hx : s.data.toList = txtZ x) (hy : t.data.toList = txtZ y) (bx : bigZ x = false) (byy : bigZ y = false) :
    Calls Tryd.prog 54 #[.string s, .string t] w (WritePost w (x + -y)) := by
  have hp := pair_ok s t x y w hs ht hx hy bx byy
  have hbx := big_bound bx
  have hby := big_bound byy
  have HP := Lib.hid hp
  have HBX := Lib.hid hbx
  have HBY := Lib.hid hby
  have BBX := Lib.hid bx
  have BBY := Lib.hid byy
  clear hp hx hy bx byy hbx hby
  go_enter Tryd.func54, Tryd.ntmps54
  go_wp2_with fail
  refine HP.out.mono ?_
  rintro e w1 ⟨a, c, la, b, d, lb, rfl, hlc, hld, hna, hnb, hra, hrb, b1⟩
  obtain ⟨nx, hnx⟩ : ∃ nx, nx = decide (x < 0) := ⟨_, rfl⟩
  obtain ⟨ny, hny⟩ : ∃ ny, ny = decide (y < 0) := ⟨_, rfl⟩
  obtain ⟨k1, hk1⟩ : ∃ k1, k1 = la.length := ⟨_, rfl⟩
  obtain ⟨k2, hk2⟩ : ∃ k2, k2 = lb.length := ⟨_, rfl⟩
  rw [← hnx, ← hny, ← hk1, ← hk2]
  have HMA : Hid (NumAt w1 (.agg #[.bool nx, .slice a k1 c]) x) := natAt w1 a k1 c la x nx hnx hk1 (by omega) hna hra
  have HMB : Hid (NumAt w1 (.agg #[.bool ny, .slice b k2 d]) y) := natAt w1 b k2 d lb y ny hny hk2 (by omega) hnb hrb
  have B1 := Lib.hid b1
  have HNX := Lib.hid hnx
  have HNY := Lib.hid hny
  have HK1 := Lib.hid hk1
  have HK2 := Lib.hid hk2
  have RA := Lib.hid hra
  have RB := Lib.hid hrb
  have NA := Lib.hid hna
  have NB := Lib.hid hnb
  have HLD := Lib.hid hld
  clear hlc hld hna hnb hra hrb b1 hnx hny hk1 hk2
  have hle : k2 ≤ d := by rw [HK2.out]; exact HLD.out
  have hk0 : 0 < k2 ↔ 0 < y.natAbs := by rw [HK2.out]; exact rep_len_pos RB.out
  have HLE := Lib.hid hle
  have HK0 := Lib.hid hk0
  clear hle hk0
  cases ny with
  | true =>
    have HMC : Hid (NumAt w1 (.agg #[.bool false, .slice b k2 d]) (-y)) := natAt w1 b k2 d lb (-y) false (by have h := HNY.out; symm at h; rw [decide_eq_true_eq] at h; simp; omega) HK2.out HLE.out NB.out (by rw [Int.natAbs_neg]; exact RB.out)
    have HS : Hid (∀ W, Below w1.heap.size w1 W → Calls Tryd.prog 99 #[.agg #[.bool nx, .slice a k1 c], .agg #[.bool false, .slice b k2 d]] W (SumPost W (x + -y))) := fun W hW => sum_any x (-y) _ _ _ (HMA.out.below hW) (HMC.out.below hW) KM (by rw [KM_eq]; omega) (by rw [KM_eq]; omega) HBX.out (by rw [Int.natAbs_neg]; exact HBY.out)
    go_wp2_with fail
    refine (HS.out _ ?_).mono ?_
    · exact own_two _ _ _
    rintro e w3 ⟨v, rfl, hv, b3⟩
    have hw := write_num v (x + -y) (KM + KM) w3 (by rw [KM_eq]; omega) (add_lt (by rw [KM_eq]; omega) HBX.out (by rw [Int.natAbs_neg]; exact HBY.out)) hv
    have HWR := Lib.hid hw
    have B3 : Hid (Below w.heap.size w w3) := B1.out.trans (((own_two w1 _ _).trans (b3.mono (own_two w1 _ _).size)).mono B1.out.size)
    clear hw hv b3
    go_wp2_with fail
    refine HWR.out.mono ?_
    rintro e w4 ⟨hq, b4⟩
    have B4 : Hid (Below w.heap.size w w4) := B3.out.trans (b4.mono B3.out.size)
    clear b4
    rcases hq with ⟨hb, rfl⟩ | ⟨hb, rfl⟩
    · have HB := Lib.hid hb
      clear hb
      go_wp2_with fail
      go_ret2
      exact ⟨.inl ⟨HB.out, rfl⟩, B4.out⟩
    · have HB := Lib.hid hb
      clear hb
      go_wp2_with fail
      go_ret2
      exact ⟨.inr ⟨HB.out, rfl⟩, B4.out⟩

  | false =>
    by_cases h0 : 0 < k2
    · have t1 : decide (0 < k2) = true := by simp; omega
      have HMC : Hid (NumAt w1 (.agg #[.bool true, .slice b k2 d]) (-y)) := natAt w1 b k2 d lb (-y) true (by have h := HNY.out; symm at h; rw [decide_eq_false_iff_not] at h; have := HK0.out.1 h0; symm; rw [decide_eq_true_eq]; omega) HK2.out HLE.out NB.out (by rw [Int.natAbs_neg]; exact RB.out)
      have HS : Hid (∀ W, Below w1.heap.size w1 W → Calls Tryd.prog 99 #[.agg #[.bool nx, .slice a k1 c], .agg #[.bool true, .slice b k2 d]] W (SumPost W (x + -y))) := fun W hW => sum_any x (-y) _ _ _ (HMA.out.below hW) (HMC.out.below hW) KM (by rw [KM_eq]; omega) (by rw [KM_eq]; omega) HBX.out (by rw [Int.natAbs_neg]; exact HBY.out)
      clear h0
      go_wp2_with fail
      refine (HS.out _ ?_).mono ?_
      · exact own_two _ _ _
      rintro e w3 ⟨v, rfl, hv, b3⟩
      have hw := write_num v (x + -y) (KM + KM) w3 (by rw [KM_eq]; omega) (add_lt (by rw [KM_eq]; omega) HBX.out (by rw [Int.natAbs_neg]; exact HBY.out)) hv
      have HWR := Lib.hid hw
      have B3 : Hid (Below w.heap.size w w3) := B1.out.trans (((own_two w1 _ _).trans (b3.mono (own_two w1 _ _).size)).mono B1.out.size)
      clear hw hv b3
      go_wp2_with fail
      refine HWR.out.mono ?_
      rintro e w4 ⟨hq, b4⟩
      have B4 : Hid (Below w.heap.size w w4) := B3.out.trans (b4.mono B3.out.size)
      clear b4
      rcases hq with ⟨hb, rfl⟩ | ⟨hb, rfl⟩
      · have HB := Lib.hid hb
        clear hb
        go_wp2_with fail
        go_ret2
        exact ⟨.inl ⟨HB.out, rfl⟩, B4.out⟩
      · have HB := Lib.hid hb
        clear hb
        go_wp2_with fail
        go_ret2
        exact ⟨.inr ⟨HB.out, rfl⟩, B4.out⟩

    · have t1 : decide (0 < k2) = false := by simp; omega
      have HMC : Hid (NumAt w1 (.agg #[.bool false, .slice b k2 d]) (-y)) := natAt w1 b k2 d lb (-y) false (by have hy0 : ¬ 0 < y.natAbs := fun h => h0 (HK0.out.2 h); symm; rw [decide_eq_false_iff_not]; omega) HK2.out HLE.out NB.out (by rw [Int.natAbs_neg]; exact RB.out)
      have HS : Hid (∀ W, Below w1.heap.size w1 W → Calls Tryd.prog 99 #[.agg #[.bool nx, .slice a k1 c], .agg #[.bool false, .slice b k2 d]] W (SumPost W (x + -y))) := fun W hW => sum_any x (-y) _ _ _ (HMA.out.below hW) (HMC.out.below hW) KM (by rw [KM_eq]; omega) (by rw [KM_eq]; omega) HBX.out (by rw [Int.natAbs_neg]; exact HBY.out)
      clear h0
      go_wp2_with fail
      refine (HS.out _ ?_).mono ?_
      · exact own_two _ _ _
      rintro e w3 ⟨v, rfl, hv, b3⟩
      have hw := write_num v (x + -y) (KM + KM) w3 (by rw [KM_eq]; omega) (add_lt (by rw [KM_eq]; omega) HBX.out (by rw [Int.natAbs_neg]; exact HBY.out)) hv
      have HWR := Lib.hid hw
      have B3 : Hid (Below w.heap.size w w3) := B1.out.trans (((own_two w1 _ _).trans (b3.mono (own_two w1 _ _).size)).mono B1.out.size)
      clear hw hv b3
      go_wp2_with fail
      refine HWR.out.mono ?_
      rintro e w4 ⟨hq, b4⟩
      have B4 : Hid (Below w.heap.size w w4) := B3.out.trans (b4.mono B3.out.size)
      clear b4
      rcases hq with ⟨hb, rfl⟩ | ⟨hb, rfl⟩
      · have HB := Lib.hid hb
        clear hb
        go_wp2_with fail
        go_ret2
        exact ⟨.inl ⟨HB.out, rfl⟩, B4.out⟩
      · have HB := Lib.hid hb
        clear hb
        go_wp2_with fail
        go_ret2
        exact ⟨.inr ⟨HB.out, rfl⟩, B4.out⟩

set_option maxHeartbeats 2000000 in
set_option maxRecDepth 100000 in
theorem icmp_ok (s t : ByteArray) (x y : Int) (w : World) (hs : s.size ≤ 100000) (ht : t.size ≤ 100000) (hx : s.data.toList = txtZ x) (hy : t.data.toList = txtZ y) (bx : bigZ x = false) (byy : bigZ y = false) :
    Calls Tryd.prog 55 #[.string s, .string t] w fun e w' => e = .returned (.tuple #[.int .i64 (cmpZ x y), .int .i64 0]) ∧ Below w.heap.size w w' := by
  have hp := pair_ok s t x y w hs ht hx hy bx byy
  have hbx := big_bound bx
  have hby := big_bound byy
  have HP := Lib.hid hp
  have HBX := Lib.hid hbx
  have HBY := Lib.hid hby
  have BBX := Lib.hid bx
  have BBY := Lib.hid byy
  clear hp hx hy bx byy hbx hby
  go_enter Tryd.func55, Tryd.ntmps55
  go_wp2_with fail
  refine HP.out.mono ?_
  rintro e w1 ⟨a, c, la, b, d, lb, rfl, hlc, hld, hna, hnb, hra, hrb, b1⟩
  obtain ⟨nx, hnx⟩ : ∃ nx, nx = decide (x < 0) := ⟨_, rfl⟩
  obtain ⟨ny, hny⟩ : ∃ ny, ny = decide (y < 0) := ⟨_, rfl⟩
  obtain ⟨k1, hk1⟩ : ∃ k1, k1 = la.length := ⟨_, rfl⟩
  obtain ⟨k2, hk2⟩ : ∃ k2, k2 = lb.length := ⟨_, rfl⟩
  rw [← hnx, ← hny, ← hk1, ← hk2]
  have HMA : Hid (NumAt w1 (.agg #[.bool nx, .slice a k1 c]) x) := natAt w1 a k1 c la x nx hnx hk1 (by omega) hna hra
  have HMB : Hid (NumAt w1 (.agg #[.bool ny, .slice b k2 d]) y) := natAt w1 b k2 d lb y ny hny hk2 (by omega) hnb hrb
  have B1 := Lib.hid b1
  have HNX := Lib.hid hnx
  have HNY := Lib.hid hny
  have HK1 := Lib.hid hk1
  have HK2 := Lib.hid hk2
  have RA := Lib.hid hra
  have RB := Lib.hid hrb
  have NA := Lib.hid hna
  have NB := Lib.hid hnb
  clear hlc hld hna hnb hra hrb b1 hnx hny hk1 hk2
  have l1 := rep_len_of la _ KM RA.out HBX.out
  have l2 := rep_len_of lb _ KM RB.out HBY.out
  rw [KM_eq] at l1 l2
  have hcm : ∀ W, Below w1.heap.size w1 W → Calls Tryd.prog 100 #[.slice a k1 c, .slice b k2 d] W (DrI W (cmpN x.natAbs y.natAbs)) := fun W hW =>
    (mcmp_any a b k1 k2 c d x.natAbs y.natAbs la lb W HK1.out.symm HK2.out.symm (by rw [HK1.out]; omega) (by rw [HK2.out]; omega) RA.out RB.out (NA.out.below hW) (NB.out.below hW)).mono fun e w' h => h
  have hcn : ∀ W, Below w1.heap.size w1 W → Calls Tryd.prog 100 #[.slice b k2 d, .slice a k1 c] W (DrI W (cmpN y.natAbs x.natAbs)) := fun W hW =>
    (mcmp_any b a k2 k1 d c y.natAbs x.natAbs lb la W HK2.out.symm HK1.out.symm (by rw [HK2.out]; omega) (by rw [HK1.out]; omega) RB.out RA.out (NB.out.below hW) (NA.out.below hW)).mono fun e w' h => h
  have HCM := Lib.hid hcm
  have HCN := Lib.hid hcn
  clear hcm hcn l1 l2
  have HX1 : Hid (nx = true ↔ x < 0) := by have := HNX.out; show nx = true ↔ x < 0; rw [this, decide_eq_true_eq]
  have HY1 : Hid (ny = true ↔ y < 0) := by have := HNY.out; show ny = true ↔ y < 0; rw [this, decide_eq_true_eq]
  cases nx with
  | true =>
    have HX2 : Hid (x < 0) := HX1.out.1 rfl
    cases ny with
    | true =>
      have HY2 : Hid (y < 0) := HY1.out.1 rfl
      go_wp2_with fail
      refine (HCN.out _ (own_two _ _ _)).mono ?_
      rintro e w3 ⟨rfl, q, rfl⟩
      go_wp2_with fail
      go_ret2
      exact ⟨ret_two (show _ = cmpZ x y by rw [show cmpZ x y = cmpN y.natAbs x.natAbs from by have := HX2.out; have := HY2.out; unfold cmpZ cmpN; split <;> split <;> (try split) <;> (try split) <;> omega]) rfl, B1.out.trans ((below_drewN (own_two w1 _ _) q).mono B1.out.size)⟩

    | false =>
      have HY2 : Hid (¬ y < 0) := fun h => by have := HY1.out.2 h; cases this
      go_wp2_with fail
      go_ret2
      exact ⟨ret_two (show -1 = cmpZ x y from by have := HX2.out; have := HY2.out; unfold cmpZ; rw [if_pos (by omega)]) rfl, B1.out.trans ((own_two w1 _ _).mono B1.out.size)⟩
  | false =>
    have HX2 : Hid (¬ x < 0) := fun h => by have := HX1.out.2 h; cases this
    cases ny with
    | true =>
      have HY2 : Hid (y < 0) := HY1.out.1 rfl
      go_wp2_with fail
      go_ret2
      exact ⟨ret_two (show 1 = cmpZ x y from by have := HX2.out; have := HY2.out; unfold cmpZ; rw [if_neg (by omega), if_pos (by omega)]) rfl, B1.out.trans ((own_two w1 _ _).mono B1.out.size)⟩
    | false =>
      have HY2 : Hid (¬ y < 0) := fun h => by have := HY1.out.2 h; cases this
      go_wp2_with fail
      refine (HCM.out _ (own_two _ _ _)).mono ?_
      rintro e w3 ⟨rfl, q, rfl⟩
      go_wp2_with fail
      go_ret2
      exact ⟨ret_two (show _ = cmpZ x y by rw [show cmpZ x y = cmpN x.natAbs y.natAbs from by have := HX2.out; have := HY2.out; unfold cmpZ cmpN; split <;> split <;> (try split) <;> (try split) <;> omega]) rfl, B1.out.trans ((below_drewN (own_two w1 _ _) q).mono B1.out.size)⟩


end Go.Proofs.YtnikhbdjlipcbaaDoor

namespace Go.Proofs.YtnikhbdjlipcbaaDoor
open Go.RowKit

set_option maxHeartbeats 2000000 in
set_option maxRecDepth 100000 in
theorem mul_ok (s t : ByteArray) (x y : Int) (w : World) (hs : s.size ≤ 100000) (ht : t.size ≤ 100000) (hx : s.data.toList = txtZ x) (hy : t.data.toList = txtZ y) (bx : bigZ x = false) (byy : bigZ y = false) :
    Calls Tryd.prog 49 #[.string s, .string t] w (WritePost w (x * y)) := by
  have hp := pair_ok s t x y w hs ht hx hy bx byy
  have hbx := big_bound bx
  have hby := big_bound byy
  have HP := Lib.hid hp
  have HBX := Lib.hid hbx
  have HBY := Lib.hid hby
  have BBX := Lib.hid bx
  have BBY := Lib.hid byy
  clear hp hx hy bx byy hbx hby
  go_enter Tryd.func49, Tryd.ntmps49
  go_wp2_with fail
  refine HP.out.mono ?_
  rintro e w1 ⟨a, c, la, b, d, lb, rfl, hlc, hld, hna, hnb, hra, hrb, b1⟩
  obtain ⟨nx, hnx⟩ : ∃ nx, nx = decide (x < 0) := ⟨_, rfl⟩
  obtain ⟨ny, hny⟩ : ∃ ny, ny = decide (y < 0) := ⟨_, rfl⟩
  obtain ⟨k1, hk1⟩ : ∃ k1, k1 = la.length := ⟨_, rfl⟩
  obtain ⟨k2, hk2⟩ : ∃ k2, k2 = lb.length := ⟨_, rfl⟩
  rw [← hnx, ← hny, ← hk1, ← hk2]
  have HMA : Hid (NumAt w1 (.agg #[.bool nx, .slice a k1 c]) x) := natAt w1 a k1 c la x nx hnx hk1 (by omega) hna hra
  have HMB : Hid (NumAt w1 (.agg #[.bool ny, .slice b k2 d]) y) := natAt w1 b k2 d lb y ny hny hk2 (by omega) hnb hrb
  have B1 := Lib.hid b1
  have HNX := Lib.hid hnx
  have HNY := Lib.hid hny
  have HK1 := Lib.hid hk1
  have HK2 := Lib.hid hk2
  have RA := Lib.hid hra
  have RB := Lib.hid hrb
  have NA := Lib.hid hna
  have NB := Lib.hid hnb
  clear hlc hld hna hnb hra hrb b1 hnx hny hk1 hk2
  have hz : (x * y).natAbs < Bs ^ (KM + KM) := mul_lt HBX.out HBY.out
  have l1 := rep_len_of la _ KM RA.out HBX.out
  have l2 := rep_len_of lb _ KM RB.out HBY.out
  rw [KM_eq] at l1 l2
  have htm : ∀ W, Below w1.heap.size w1 W → Calls Tryd.prog 95 #[.slice a k1 c, .slice b k2 d] W (MagNew W (x.natAbs * y.natAbs)) := fun W hW => by
    have := times_any a b k1 k2 c d la lb W HK1.out.symm HK2.out.symm (by rw [HK1.out]; omega) (by rw [HK2.out]; omega) RA.out.1 RB.out.1 (NA.out.below hW) (NB.out.below hW)
    rwa [RA.out.2.2, RB.out.2.2] at this
  have hzz := mul_sign x y nx ny HNX.out HNY.out
  have HZ := Lib.hid hz
  have HZZ := Lib.hid hzz
  have HTM := Lib.hid htm
  have HM : Hid (x.natAbs * y.natAbs < Bs ^ (KM + KM)) := by rw [Nat.pow_add]; exact Nat.mul_lt_mul'' HBX.out HBY.out
  clear hz hzz htm l1 l2
  go_wp2_with fail
  obtain ⟨W0, hW0⟩ : ∃ W0, W0 = (w1.alloc (.cells #[.bool nx, .slice a k1 c] 135)).alloc (.cells #[.bool ny, .slice b k2 d] 135) := ⟨_, rfl⟩
  rw [← hW0]
  have hA0 : Box2 W0 w1.heap.size nx (.slice a k1 c) := by rw [hW0]; exact Box2.alloc (show Box2 (w1.alloc (.cells #[.bool nx, .slice a k1 c] 135)) w1.heap.size nx (.slice a k1 c) from World.alloc_heap_new w1 _) _
  have hB0 : Box2 W0 (w1.heap.size + 1) ny (.slice b k2 d) := by
    rw [hW0]
    have := World.alloc_heap_new (w1.alloc (.cells #[.bool nx, .slice a k1 c] 135)) (.cells #[.bool ny, .slice b k2 d] 135)
    rw [World.size_alloc] at this
    exact this
  have hbl1 : Below w1.heap.size w1 W0 := by rw [hW0]; exact own_two _ _ _
  have HALL : Hid (∀ W : World, Below W0.heap.size W0 W → W.cell? ⟨w1.heap.size, 0, none⟩ = some (.bool nx) ∧ W.cell? ⟨w1.heap.size, 1, none⟩ = some (.slice a k1 c) ∧ W.cell? ⟨w1.heap.size + 1, 0, none⟩ = some (.bool ny) ∧ W.cell? ⟨w1.heap.size + 1, 1, none⟩ = some (.slice b k2 d) ∧ Below W0.heap.size W0 W) := fun W h => ⟨Box2.cell0 ((h.block _ hA0.lt).trans hA0), Box2.cell1 ((h.block _ hA0.lt).trans hA0), Box2.cell0 ((h.block _ hB0.lt).trans hB0), Box2.cell1 ((h.block _ hB0.lt).trans hB0), h⟩
  have HST : Hid (Below W0.heap.size W0 W0.drew) := (Below.refl _ _).drew
  have HBL := Lib.hid hbl1
  clear hA0 hB0 hbl1 hW0
  go_region_held3 (fun W => W.cell? ⟨w1.heap.size, 0, none⟩ = some (.bool nx) ∧ W.cell? ⟨w1.heap.size, 1, none⟩ = some (.slice a k1 c) ∧ W.cell? ⟨w1.heap.size + 1, 0, none⟩ = some (.bool ny) ∧ W.cell? ⟨w1.heap.size + 1, 1, none⟩ = some (.slice b k2 d) ∧ Below W0.heap.size W0 W)
    ((first | with_reducible exact HALL.out _ HST.out | with_reducible exact HALL.out _ (Below.refl _ _) | with_reducible exact HALL.out _ (HG2.out) | with_reducible exact HALL.out _ (HG1.out)))
    ((first
      | (go_at_call 95; refine (HTM.out _ (HBL.out.drew)).mono ?_; rintro e wp ⟨v, l, rfl, ho, hr, hb⟩; obtain ⟨a', c', rfl, hl, hc, hnn⟩ := nums_of_owns ho; have hl1 := rep_len_of l _ _ hr HM.out; rw [KM_eq] at hl1; obtain ⟨k, hk⟩ : ∃ k, k = l.length := ⟨_, rfl⟩; rw [← hk] at hl1 hc ⊢; have HG1 : Hid (Below W0.heap.size W0 wp) := HST.out.trans (hb.mono HST.out.size); have hwr := write_any (nx != ny) a' k c' (x.natAbs * y.natAbs) l wp hk.symm (by omega) hr hnn; rw [HZZ.out] at hwr; have HWR := Lib.hid hwr; clear ho hr hb hl hc hnn hk hwr hl1)
      | (go_at_call 93; refine HWR.out.mono ?_; rintro e wk hu; obtain ⟨r, n', rfl, hr, hb⟩ := WritePost.uni hu; have HG2 : Hid (Below W0.heap.size W0 wk) := HG1.out.trans (hb.mono HG1.out.size); have HR := Lib.hid hr; clear hu hr hb)))
  all_goals
    go_wp2_with fail
    go_ret2
    exact WriteU.back ⟨_, _, rfl, HR.out, B1.out.trans ((HBL.out.trans (HG2.out.mono HBL.out.size)).mono B1.out.size)⟩


end Go.Proofs.YtnikhbdjlipcbaaDoor
