/-
  The reference's Result, Mul, Add of integers, by value. No condition. The reference's Add of integers, by value. No condition.
-/
import Derived.Test.YtnikhbdjlipcbaaDoorWh
import Derived.Test.YtnikhbdjlipcbaaDoorVf
namespace Go.Proofs.YtnikhbdjlipcbaaDoor
open Go.RowKit

def resT (z : Int) : List UInt8 := if bigZ z = true then [] else txtZ z
def resF (z : Int) : Int := if bigZ z = true then 14 else 0
def sgnZ (neg : Bool) (n : Nat) : Int := if neg then -(n : Int) else (n : Int)
/-- Digits of a canonical integer. -/
def DigOK (w : World) (z : Int) (e : Ending) (w' : World) : Prop :=
  ∃ a n c, e = .returned (.tuple #[.slice a n c, .bool (decide (z < 0)), .bool true]) ∧ (decN z.natAbs).length = n ∧ n ≤ c ∧ Nums .i64 w' a (decN z.natAbs) ∧ Below w.heap.size w w'
theorem digits_ok (s : ByteArray) (z : Int) (w : World) (hs : s.size ≤ 1000000) (h : s.data.toList = txtZ z) : Calls Tryd.prog 58 #[.string s] w (DigOK w z) :=
  (digits_any s w hs).mono fun e w' hp => by
    rcases hp with ⟨y, a, n, c, e1, e2, e3, e4, e5, e6⟩ | ⟨e1, _⟩
    · rw [h, rdZ_txtZ] at e1; injection e1 with e1; subst e1
      exact ⟨a, n, c, e2, e3, e4, e5, e6⟩
    · rw [h, rdZ_txtZ] at e1; cases e1
theorem bothZ_ok {x y : Int} (bx : bigZ x = false) (byy : bigZ y = false) : bothZ (txtZ x) (txtZ y) = 0 := by
  unfold bothZ; rw [chkZ_txtZ, chkZ_txtZ, bx, byy]; rfl
theorem txtZ_len_le (z : Int) {n : Nat} (h : z.natAbs < 10 ^ n) : (txtZ z).length ≤ n + 2 := by
  have h1 := (decN_len_le z.natAbs (n + 1) (by omega)).2 (Nat.lt_of_lt_of_le h (Nat.pow_le_pow_right (by omega) (by omega)))
  unfold txtZ
  split
  · rw [List.length_cons, txtN_len]; omega
  · rw [txtN_len]; omega
theorem sgn_abs (neg : Bool) (n : Nat) : (sgnZ neg n).natAbs = n := by unfold sgnZ; cases neg <;> simp

set_option maxHeartbeats 2000000 in
set_option maxRecDepth 100000 in
theorem result_any (a : Option Addr) (n c : Nat) (la : List Nat) (neg : Bool) (w : World) (hla : la.length = n) (hn : n ≤ 900000) (da : ∀ x ∈ la, x < 10) (ha : Nums .i64 w a la) :
    Calls Tryd.prog 104 #[.slice a n c, .bool neg] w (SEPost w (resT (sgnZ neg (dval la))) (resF (sgnZ neg (dval la)))) := by
  have ht := text_any a n c la neg w hla hn da ha
  obtain ⟨Z, hZ⟩ : ∃ Z, Z = sgnZ neg (dval la) := ⟨_, rfl⟩
  have ht2 : Calls Tryd.prog 81 #[.slice a n c, .bool neg] w (StrPost w (txtZ Z)) := by rw [hZ]; exact ht
  have hc : ∀ W, Calls Tryd.prog 69 #[.string ⟨(txtZ Z).toArray⟩] W (ErrPost W (resF Z)) := fun W => by
    have := rcheck_any ⟨(txtZ Z).toArray⟩ W (by
      rw [← data_len]
      show (txtZ Z).length ≤ _
      have hb : Z.natAbs < 10 ^ n := by rw [hZ, sgn_abs, ← hla]; exact dval_lt la da
      have := txtZ_len_le Z hb
      omega)
    rwa [show (⟨(txtZ Z).toArray⟩ : ByteArray).data.toList = txtZ Z from rfl, chkZ_txtZ] at this
  rw [← hZ]
  have HT := Lib.hid ht2
  clear ht ht2 hla hn da ha hZ
  by_cases hb : bigZ Z = true
  · have e1 : resF Z = 14 := by unfold resF; rw [if_pos hb]
    have e2 : resT Z = [] := by unfold resT; rw [if_pos hb]
    rw [e1] at hc
    rw [e1, e2]
    have HC := Lib.hid hc
    clear hc hb e1 e2
    go_enter Tryd.func104, Tryd.ntmps104
    go_wp2_with fail
    refine HT.out.mono ?_
    rintro e w1 ⟨rfl, b1⟩
    have B1 := Lib.hid b1
    clear b1
    go_wp2_with fail
    refine (HC.out _).mono ?_
    rintro e w2 ⟨rfl, b2⟩
    have B2 := Lib.hid (B1.out.trans (b2.mono B1.out.size))
    clear b2
    go_wp2_with fail
    go_ret2
    exact ⟨rfl, B2.out⟩
  · have e1 : resF Z = 0 := by unfold resF; rw [if_neg hb]
    have e2 : resT Z = txtZ Z := by unfold resT; rw [if_neg hb]
    rw [e1] at hc
    rw [e1, e2]
    have HC := Lib.hid hc
    clear hc hb e1 e2
    go_enter Tryd.func104, Tryd.ntmps104
    go_wp2_with fail
    refine HT.out.mono ?_
    rintro e w1 ⟨rfl, b1⟩
    have B1 := Lib.hid b1
    clear b1
    go_wp2_with fail
    refine (HC.out _).mono ?_
    rintro e w2 ⟨rfl, b2⟩
    have B2 := Lib.hid (B1.out.trans (b2.mono B1.out.size))
    clear b2
    go_wp2_with fail
    go_ret2
    exact ⟨rfl, B2.out⟩
theorem sgn_mul (x y : Int) (nx ny : Bool) (hx : nx = decide (x < 0)) (hy : ny = decide (y < 0)) : sgnZ (nx != ny) (x.natAbs * y.natAbs) = x * y := by
  have key : ((x.natAbs * y.natAbs : Nat) : Int) = (x.natAbs : Int) * (y.natAbs : Int) := by push_cast; rfl
  unfold sgnZ
  rw [key]
  by_cases h1 : x < 0 <;> by_cases h2 : y < 0
  · have e1 : (x.natAbs : Int) = -x := by omega
    have e2 : (y.natAbs : Int) = -y := by omega
    simp [hx, hy, h1, h2, e1, e2, Int.neg_mul_neg]
  · have e1 : (x.natAbs : Int) = -x := by omega
    have e2 : (y.natAbs : Int) = y := by omega
    simp [hx, hy, h1, h2, e1, e2, Int.neg_mul]
  · have e1 : (x.natAbs : Int) = x := by omega
    have e2 : (y.natAbs : Int) = -y := by omega
    simp [hx, hy, h1, h2, e1, e2, Int.mul_neg]
  · have e1 : (x.natAbs : Int) = x := by omega
    have e2 : (y.natAbs : Int) = y := by omega
    simp [hx, hy, h1, h2, e1, e2]
set_option maxHeartbeats 2000000 in
set_option maxRecDepth 100000 in
theorem rimul_ok (s t : ByteArray) (x y : Int) (w : World) (hs : s.size ≤ 100000) (ht : t.size ≤ 100000) (hx : s.data.toList = txtZ x) (hy : t.data.toList = txtZ y) (bx : bigZ x = false) (byy : bigZ y = false) :
    Calls Tryd.prog 62 #[.string s, .string t] w (SEPost w (resT (x * y)) (resF (x * y))) := by
  have hb := rboth_any s t w (by omega) (by omega)
  rw [hx, hy, bothZ_ok bx byy] at hb
  have lx : (decN x.natAbs).length ≤ 1000 := by unfold bigZ at bx; simpa using bx
  have ly : (decN y.natAbs).length ≤ 1000 := by unfold bigZ at byy; simpa using byy
  have HB := Lib.hid hb
  have HDX := Lib.hid (fun W => digits_ok s x W (by omega) hx)
  have HDY := Lib.hid (fun W => digits_ok t y W (by omega) hy)
  clear hb hx hy bx byy
  obtain ⟨nx, hnx⟩ : ∃ nx, nx = decide (x < 0) := ⟨_, rfl⟩
  obtain ⟨ny, hny⟩ : ∃ ny, ny = decide (y < 0) := ⟨_, rfl⟩
  have hz := sgn_mul x y nx ny hnx hny
  obtain ⟨Z, hZ⟩ : ∃ Z, Z = x * y := ⟨_, rfl⟩
  rw [← hZ] at hz ⊢
  have HZ := Lib.hid hz
  unfold Hid DigOK at HDX HDY
  rw [← hnx] at HDX
  rw [← hny] at HDY
  have HDX := Lib.hid HDX
  have HDY := Lib.hid HDY
  clear hz hZ hnx hny
  go_enter Tryd.func62, Tryd.ntmps62
  go_wp2_with fail
  refine HB.out.mono ?_
  rintro e w1 ⟨rfl, b1⟩
  have B1 := Lib.hid b1
  clear b1
  go_wp2_with fail
  refine (HDX.out _).mono ?_
  rintro e w2 ⟨a, n, c, rfl, l2, c2, n2, b2⟩
  have B2 := Lib.hid b2
  have L2 := Lib.hid l2
  have N2 := Lib.hid n2
  rw [l2] at lx
  clear l2 n2 b2
  go_wp2_with fail
  refine (HDY.out _).mono ?_
  rintro e w3 ⟨b, m, d, rfl, l3, c3, n3, b3⟩
  have B3 : Hid (Below w.heap.size w w3) := (B1.out.trans (B2.out.mono B1.out.size)).trans (b3.mono (by have := B1.out.size; have := B2.out.size; omega))
  have L3 := Lib.hid l3
  have N2b := Lib.hid (N2.out.below b3)
  have N3 := Lib.hid n3
  rw [l3] at ly
  have P2 : 0 < n := by rw [← L2.out]; exact List.length_pos_iff.2 (decN_ne _)
  have P3 : 0 < m := by rw [← L3.out]; exact List.length_pos_iff.2 (decN_ne _)
  clear l3 n3 b3 B1 B2 N2 HB HDX HDY
  have HTM := Lib.hid (dtimes_any a b n m c d (decN x.natAbs) (decN y.natAbs) w3 L2.out L3.out (by omega) (by omega) P2 P3 (decN_lt _) (decN_lt _) N2b.out N3.out)
  go_wp2_with fail
  refine HTM.out.mono ?_
  rintro e w4 ⟨l, rfl, h1, h2, h3, h4, b4⟩
  have B4 := Lib.hid (B3.out.trans (b4.mono B3.out.size))
  have hr := result_any (some ⟨w3.heap.size, 0, none⟩) (n + m) (n + m) l (nx != ny) w4 h1 (by omega) h2 h4
  rw [h3, dval_decN, dval_decN, HZ.out] at hr
  have HR := Lib.hid hr
  clear h1 h2 h3 h4 b4 hr
  go_wp2_with fail
  refine HR.out.mono ?_
  rintro e w5 ⟨rfl, b5⟩
  have B5 := Lib.hid (B4.out.trans (b5.mono B4.out.size))
  clear b5
  go_wp2_with fail
  go_ret2
  exact ⟨rfl, B5.out⟩


end Go.Proofs.YtnikhbdjlipcbaaDoor

namespace Go.Proofs.YtnikhbdjlipcbaaDoor
open Go.RowKit

theorem sgn_same (x y : Int) (g : Bool) (hx : g = decide (x < 0)) (hy : g = decide (y < 0)) : sgnZ g (x.natAbs + y.natAbs) = x + y := by
  unfold sgnZ
  cases g
  · have h1 : ¬ x < 0 := by simpa using hx
    have h2 : ¬ y < 0 := by simpa using hy
    simp; omega
  · have h1 : x < 0 := by simpa using hx
    have h2 : y < 0 := by simpa using hy
    simp; omega
theorem sgn_ge (x y : Int) (nx ny : Bool) (hx : nx = decide (x < 0)) (hy : ny = decide (y < 0)) (hne : (nx == ny) = false) (h : y.natAbs ≤ x.natAbs) : sgnZ nx (x.natAbs - y.natAbs) = x + y := by
  unfold sgnZ
  cases nx <;> cases ny <;> simp at hne
  · have h1 : ¬ x < 0 := by simpa using hx
    have h2 : y < 0 := by simpa using hy
    simp; omega
  · have h1 : x < 0 := by simpa using hx
    have h2 : ¬ y < 0 := by simpa using hy
    simp; omega
theorem sgn_lt (x y : Int) (nx ny : Bool) (hx : nx = decide (x < 0)) (hy : ny = decide (y < 0)) (hne : (nx == ny) = false) (h : x.natAbs < y.natAbs) : sgnZ ny (y.natAbs - x.natAbs) = x + y := by
  unfold sgnZ
  cases nx <;> cases ny <;> simp at hne
  · have h1 : ¬ x < 0 := by simpa using hx
    have h2 : y < 0 := by simpa using hy
    simp; omega
  · have h1 : x < 0 := by simpa using hx
    have h2 : ¬ y < 0 := by simpa using hy
    simp; omega

set_option maxHeartbeats 2000000 in
set_option maxRecDepth 100000 in
theorem riadd_same (s t : ByteArray) (x y : Int) (w : World) (hs : s.size ≤ 100000) (ht : t.size ≤ 100000) (hx : s.data.toList = txtZ x) (hy : t.data.toList = txtZ y) (bx : bigZ x = false) (byy : bigZ y = false) (g : Bool) (hnx : g = decide (x < 0)) (hny : g = decide (y < 0)) :
    Calls Tryd.prog 68 #[.string s, .string t] w (SEPost w (resT (x + y)) (resF (x + y))) := by
  have hb := rboth_any s t w (by omega) (by omega)
  rw [hx, hy, bothZ_ok bx byy] at hb
  have lx : (decN x.natAbs).length ≤ 1000 := by unfold bigZ at bx; simpa using bx
  have ly : (decN y.natAbs).length ≤ 1000 := by unfold bigZ at byy; simpa using byy
  have HB := Lib.hid hb
  have HDX := Lib.hid (fun W => digits_ok s x W (by omega) hx)
  have HDY := Lib.hid (fun W => digits_ok t y W (by omega) hy)
  clear hb hx hy bx byy
  have hz := sgn_same x y g hnx hny
  obtain ⟨Z, hZ⟩ : ∃ Z, Z = x + y := ⟨_, rfl⟩
  rw [← hZ] at hz ⊢
  have HZ := Lib.hid hz
  unfold Hid DigOK at HDX HDY
  rw [← hnx] at HDX
  rw [← hny] at HDY
  have HDX := Lib.hid HDX
  have HDY := Lib.hid HDY
  have t1 : (g == g) = true := by simp
  clear hz hZ hnx hny
  go_enter Tryd.func68, Tryd.ntmps68
  go_wp2_with fail
  refine HB.out.mono ?_
  rintro e w1 ⟨rfl, b1⟩
  have B1 := Lib.hid b1
  clear b1
  go_wp2_with fail
  refine (HDX.out _).mono ?_
  rintro e w2 ⟨a, n, c, rfl, l2, c2, n2, b2⟩
  have B2 := Lib.hid b2
  have L2 := Lib.hid l2
  have N2 := Lib.hid n2
  rw [l2] at lx
  clear l2 n2 b2
  go_wp2_with fail
  refine (HDY.out _).mono ?_
  rintro e w3 ⟨b, m, d, rfl, l3, c3, n3, b3⟩
  have B3 : Hid (Below w.heap.size w w3) := (B1.out.trans (B2.out.mono B1.out.size)).trans (b3.mono (by have := B1.out.size; have := B2.out.size; omega))
  have L3 := Lib.hid l3
  have N2b := Lib.hid (N2.out.below b3)
  have N3 := Lib.hid n3
  rw [l3] at ly
  have P2 : 0 < n := by rw [← L2.out]; exact List.length_pos_iff.2 (decN_ne _)
  have P3 : 0 < m := by rw [← L3.out]; exact List.length_pos_iff.2 (decN_ne _)
  clear l3 n3 b3 B1 B2 N2 HB HDX HDY
  have HM := Lib.hid (dplus_any a b n m c d (decN x.natAbs) (decN y.natAbs) w3 L2.out L3.out (by omega) (by omega) (decN_lt _) (decN_lt _) N2b.out N3.out)
  go_wp2_with fail
  refine HM.out.mono ?_
  rintro e w4 ⟨v, l, rfl, ho, ⟨h1, h2, h3⟩, b4⟩
  have B4 := Lib.hid (B3.out.trans (b4.mono B3.out.size))
  obtain ⟨a', c', rfl, hl', hc', h4⟩ := nums_of_owns ho
  obtain ⟨K, hK⟩ : ∃ K, K = l.length := ⟨_, rfl⟩
  rw [← hK] at hl' h1 hc' ⊢
  have hr := result_any a' K c' l g w4 hK.symm (by omega) h2 h4
  rw [h3, dval_decN, dval_decN, HZ.out] at hr
  have HR := Lib.hid hr
  clear h1 h2 h3 h4 b4 hr ho hl' hc' hK
  go_wp2_with fail
  refine HR.out.mono ?_
  rintro e w5 ⟨rfl, b5⟩
  have B5 := Lib.hid (B4.out.trans (b5.mono B4.out.size))
  clear b5
  go_wp2_with fail
  go_ret2
  exact ⟨rfl, B5.out⟩

set_option maxHeartbeats 2000000 in
set_option maxRecDepth 100000 in
theorem riadd_ge (s t : ByteArray) (x y : Int) (w : World) (hs : s.size ≤ 100000) (ht : t.size ≤ 100000) (hx : s.data.toList = txtZ x) (hy : t.data.toList = txtZ y) (bx : bigZ x = false) (byy : bigZ y = false) (nx ny : Bool) (hnx : nx = decide (x < 0)) (hny : ny = decide (y < 0)) (t1 : (nx == ny) = false) (hle : y.natAbs ≤ x.natAbs) :
    Calls Tryd.prog 68 #[.string s, .string t] w (SEPost w (resT (x + y)) (resF (x + y))) := by
  have hb := rboth_any s t w (by omega) (by omega)
  rw [hx, hy, bothZ_ok bx byy] at hb
  have lx : (decN x.natAbs).length ≤ 1000 := by unfold bigZ at bx; simpa using bx
  have ly : (decN y.natAbs).length ≤ 1000 := by unfold bigZ at byy; simpa using byy
  have HB := Lib.hid hb
  have HDX := Lib.hid (fun W => digits_ok s x W (by omega) hx)
  have HDY := Lib.hid (fun W => digits_ok t y W (by omega) hy)
  clear hb hx hy bx byy
  have hz := sgn_ge x y nx ny hnx hny t1 hle
  obtain ⟨Z, hZ⟩ : ∃ Z, Z = x + y := ⟨_, rfl⟩
  rw [← hZ] at hz ⊢
  have HZ := Lib.hid hz
  unfold Hid DigOK at HDX HDY
  rw [← hnx] at HDX
  rw [← hny] at HDY
  have HDX := Lib.hid HDX
  have HDY := Lib.hid HDY
  have HLE := Lib.hid hle
  clear hz hZ hnx hny
  go_enter Tryd.func68, Tryd.ntmps68
  go_wp2_with fail
  refine HB.out.mono ?_
  rintro e w1 ⟨rfl, b1⟩
  have B1 := Lib.hid b1
  clear b1
  go_wp2_with fail
  refine (HDX.out _).mono ?_
  rintro e w2 ⟨a, n, c, rfl, l2, c2, n2, b2⟩
  have B2 := Lib.hid b2
  have L2 := Lib.hid l2
  have N2 := Lib.hid n2
  rw [l2] at lx
  clear l2 n2 b2
  go_wp2_with fail
  refine (HDY.out _).mono ?_
  rintro e w3 ⟨b, m, d, rfl, l3, c3, n3, b3⟩
  have B3 : Hid (Below w.heap.size w w3) := (B1.out.trans (B2.out.mono B1.out.size)).trans (b3.mono (by have := B1.out.size; have := B2.out.size; omega))
  have L3 := Lib.hid l3
  have N2b := Lib.hid (N2.out.below b3)
  have N3 := Lib.hid n3
  rw [l3] at ly
  have P2 : 0 < n := by rw [← L2.out]; exact List.length_pos_iff.2 (decN_ne _)
  have P3 : 0 < m := by rw [← L3.out]; exact List.length_pos_iff.2 (decN_ne _)
  clear l3 n3 b3 B1 B2 N2 HB HDX HDY
  have hg := greater_any a b n m c d (decN x.natAbs) (decN y.natAbs) w3 L2.out L3.out (by omega) (by omega) (decN_lt _) (decN_lt _) N2b.out N3.out
  rw [dval_decN, dval_decN] at hg
  obtain ⟨C, hC⟩ : ∃ C, C = cmpN x.natAbs y.natAbs := ⟨_, rfl⟩
  have t2 : decide (0 ≤ C) = true := by
    rw [hC]
    rcases Nat.lt_or_ge y.natAbs x.natAbs with h | h
    · rw [cmpN_gt h]; rfl
    · rw [cmpN_eq (by have := HLE.out; omega)]; rfl
  rw [← hC] at hg
  have HG := Lib.hid hg
  have HM := Lib.hid (dminus_any a b n m c d (decN x.natAbs) (decN y.natAbs) w3 L2.out L3.out (by omega) (by omega) (decN_lt _) (decN_lt _) (by rw [dval_decN, dval_decN]; exact HLE.out) N2b.out N3.out)
  clear hg hC hle
  go_wp2_with fail
  refine HG.out.mono ?_
  rintro e w' ⟨rfl, rfl⟩
  go_wp2_with fail
  refine HM.out.mono ?_
  rintro e w4 ⟨v, l, rfl, ho, ⟨h1, h2, h3⟩, b4⟩
  have B4 := Lib.hid (B3.out.trans (b4.mono B3.out.size))
  obtain ⟨a', c', rfl, hl', hc', h4⟩ := nums_of_owns ho
  obtain ⟨K, hK⟩ : ∃ K, K = l.length := ⟨_, rfl⟩
  rw [← hK] at hl' h1 hc' ⊢
  have hr := result_any a' K c' l nx w4 hK.symm (by omega) h2 h4
  rw [h3, dval_decN, dval_decN, HZ.out] at hr
  have HR := Lib.hid hr
  clear h1 h2 h3 h4 b4 hr ho hl' hc' hK
  go_wp2_with fail
  refine HR.out.mono ?_
  rintro e w5 ⟨rfl, b5⟩
  have B5 := Lib.hid (B4.out.trans (b5.mono B4.out.size))
  clear b5
  go_wp2_with fail
  go_ret2
  exact ⟨rfl, B5.out⟩

set_option maxHeartbeats 2000000 in
set_option maxRecDepth 100000 in
theorem riadd_lt (s t : ByteArray) (x y : Int) (w : World) (hs : s.size ≤ 100000) (ht : t.size ≤ 100000) (hx : s.data.toList = txtZ x) (hy : t.data.toList = txtZ y) (bx : bigZ x = false) (byy : bigZ y = false) (nx ny : Bool) (hnx : nx = decide (x < 0)) (hny : ny = decide (y < 0)) (t1 : (nx == ny) = false) (hlt : x.natAbs < y.natAbs) :
    Calls Tryd.prog 68 #[.string s, .string t] w (SEPost w (resT (x + y)) (resF (x + y))) := by
  have hb := rboth_any s t w (by omega) (by omega)
  rw [hx, hy, bothZ_ok bx byy] at hb
  have lx : (decN x.natAbs).length ≤ 1000 := by unfold bigZ at bx; simpa using bx
  have ly : (decN y.natAbs).length ≤ 1000 := by unfold bigZ at byy; simpa using byy
  have HB := Lib.hid hb
  have HDX := Lib.hid (fun W => digits_ok s x W (by omega) hx)
  have HDY := Lib.hid (fun W => digits_ok t y W (by omega) hy)
  clear hb hx hy bx byy
  have hz := sgn_lt x y nx ny hnx hny t1 hlt
  obtain ⟨Z, hZ⟩ : ∃ Z, Z = x + y := ⟨_, rfl⟩
  rw [← hZ] at hz ⊢
  have HZ := Lib.hid hz
  unfold Hid DigOK at HDX HDY
  rw [← hnx] at HDX
  rw [← hny] at HDY
  have HDX := Lib.hid HDX
  have HDY := Lib.hid HDY
  have HLE := Lib.hid hlt
  clear hz hZ hnx hny
  go_enter Tryd.func68, Tryd.ntmps68
  go_wp2_with fail
  refine HB.out.mono ?_
  rintro e w1 ⟨rfl, b1⟩
  have B1 := Lib.hid b1
  clear b1
  go_wp2_with fail
  refine (HDX.out _).mono ?_
  rintro e w2 ⟨a, n, c, rfl, l2, c2, n2, b2⟩
  have B2 := Lib.hid b2
  have L2 := Lib.hid l2
  have N2 := Lib.hid n2
  rw [l2] at lx
  clear l2 n2 b2
  go_wp2_with fail
  refine (HDY.out _).mono ?_
  rintro e w3 ⟨b, m, d, rfl, l3, c3, n3, b3⟩
  have B3 : Hid (Below w.heap.size w w3) := (B1.out.trans (B2.out.mono B1.out.size)).trans (b3.mono (by have := B1.out.size; have := B2.out.size; omega))
  have L3 := Lib.hid l3
  have N2b := Lib.hid (N2.out.below b3)
  have N3 := Lib.hid n3
  rw [l3] at ly
  have P2 : 0 < n := by rw [← L2.out]; exact List.length_pos_iff.2 (decN_ne _)
  have P3 : 0 < m := by rw [← L3.out]; exact List.length_pos_iff.2 (decN_ne _)
  clear l3 n3 b3 B1 B2 N2 HB HDX HDY
  have hg := greater_any a b n m c d (decN x.natAbs) (decN y.natAbs) w3 L2.out L3.out (by omega) (by omega) (decN_lt _) (decN_lt _) N2b.out N3.out
  rw [dval_decN, dval_decN, cmpN_lt HLE.out] at hg
  have HG := Lib.hid hg
  have HM := Lib.hid (dminus_any b a m n d c (decN y.natAbs) (decN x.natAbs) w3 L3.out L2.out (by omega) (by omega) (decN_lt _) (decN_lt _) (by rw [dval_decN, dval_decN]; have := HLE.out; omega) N3.out N2b.out)
  clear hg hlt
  go_wp2_with fail
  refine HG.out.mono ?_
  rintro e w' ⟨rfl, rfl⟩
  go_wp2_with fail
  refine HM.out.mono ?_
  rintro e w4 ⟨v, l, rfl, ho, ⟨h1, h2, h3⟩, b4⟩
  have B4 := Lib.hid (B3.out.trans (b4.mono B3.out.size))
  obtain ⟨a', c', rfl, hl', hc', h4⟩ := nums_of_owns ho
  obtain ⟨K, hK⟩ : ∃ K, K = l.length := ⟨_, rfl⟩
  rw [← hK] at hl' h1 hc' ⊢
  have hr := result_any a' K c' l ny w4 hK.symm (by omega) h2 h4
  rw [h3, dval_decN, dval_decN, HZ.out] at hr
  have HR := Lib.hid hr
  clear h1 h2 h3 h4 b4 hr ho hl' hc' hK
  go_wp2_with fail
  refine HR.out.mono ?_
  rintro e w5 ⟨rfl, b5⟩
  have B5 := Lib.hid (B4.out.trans (b5.mono B4.out.size))
  clear b5
  go_wp2_with fail
  go_ret2
  exact ⟨rfl, B5.out⟩

theorem riadd_ok (s t : ByteArray) (x y : Int) (w : World) (hs : s.size ≤ 100000) (ht : t.size ≤ 100000) (hx : s.data.toList = txtZ x) (hy : t.data.toList = txtZ y) (bx : bigZ x = false) (byy : bigZ y = false) :
    Calls Tryd.prog 68 #[.string s, .string t] w (SEPost w (resT (x + y)) (resF (x + y))) := by
  by_cases h : decide (x < 0) = decide (y < 0)
  · exact riadd_same s t x y w hs ht hx hy bx byy _ rfl h
  · have t1 : (decide (x < 0) == decide (y < 0)) = false := by simpa using h
    rcases Nat.lt_or_ge x.natAbs y.natAbs with h1 | h1
    · exact riadd_lt s t x y w hs ht hx hy bx byy _ _ rfl rfl t1 h1
    · exact riadd_ge s t x y w hs ht hx hy bx byy _ _ rfl rfl t1 h1

end Go.Proofs.YtnikhbdjlipcbaaDoor
