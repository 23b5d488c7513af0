/-
  Magnitudes of the program: divide by what is greater, and by one group. No condition.
-/
import Derived.Test.YtnmiiimbjojcmaaMd
namespace Go.Proofs.Ytnmiiimbjojcmaa
open Go.RowKit

theorem rep_ge (l : List Nat) (N : Nat) (h : Rep l N) (hne : l ≠ []) : Bs ^ (l.length - 1) ≤ N := by
  obtain ⟨h1, h2, h3⟩ := h
  obtain ⟨m, x, rfl⟩ : ∃ m x, l = m ++ [x] := ⟨l.dropLast, l.getLast hne, (List.dropLast_concat_getLast hne).symm⟩
  rw [List.getLast?_concat] at h2
  rw [val_snoc] at h3
  have hx : 1 ≤ x := by
    rcases Nat.eq_zero_or_pos x with rfl | h
    · exact absurd rfl h2
    · exact h
  have := Nat.mul_le_mul_left (Bs ^ m.length) hx
  simp; omega
theorem rep_lt (l : List Nat) (N : Nat) (h : Rep l N) : N < Bs ^ l.length := by rw [← h.2.2]; exact val_lt l h.1
theorem Bs_one : 1 < Bs := by decide
theorem rep_len_of (l : List Nat) (N k : Nat) (h : Rep l N) (hk : N < Bs ^ k) : l.length ≤ k := by
  by_cases hne : l = []
  · rw [hne]; simp
  · have h1 := rep_ge l N h hne
    have h2 := (Nat.pow_lt_pow_iff_right Bs_one).1 (Nat.lt_of_le_of_lt h1 hk)
    omega
theorem rep_top (l : List Nat) (N n : Nat) (h : Rep l N) (hn : l.length = n + 1) : 0 < l.getD n 0 := by
  have h2 := h.2.1
  rw [List.getLast?_eq_getElem?, hn, Nat.add_sub_cancel, List.getElem?_eq_getElem (by omega)] at h2
  rw [List.getD_eq_getElem?_getD, List.getElem?_eq_getElem (by omega)]
  simp at h2 ⊢
  omega
theorem rep_single {d : Nat} (h0 : 0 < d) (h : d < Bs) : Rep [d] d := ⟨by simpa using h, by simp; omega, by simp [val]⟩
theorem rep_nil : Rep [] 0 := ⟨by simp, by simp, rfl⟩
theorem rep_of_val {l : List Nat} {M N : Nat} (h : Rep l M) (e : M = N) : Rep l N := e ▸ h
/-- The scaled divisor keeps its length. -/
theorem scale_len (b v : List Nat) (B s n : Nat) (hb : Rep b B) (hn : b.length = n + 1) (hs : s = Bs / (b.getD n 0 + 1)) (hv : Rep v (B * s)) : v.length = n + 1 ∧ 1 ≤ s ∧ s < Bs := by
  have htop := rep_top b B n hb hn
  have hne : b ≠ [] := by intro h; rw [h] at hn; cases hn
  obtain ⟨h1, h2, h3⟩ := scale_ok (s := s) b hb.1 hne (by rw [hn]; exact hs)
  rw [hb.2.2, hn] at h3
  have h4 := rep_len_of v _ _ hv h3
  have h5 : b.length ≤ v.length := rep_len_le v b (B * s) B hv hb (Nat.le_mul_of_pos_right _ h1)
  refine ⟨by omega, h1, ?_⟩
  rw [hs]
  have : Bs / (b.getD n 0 + 1) ≤ Bs / 2 := Nat.div_le_div_left (by omega) (by omega)
  have := Bs_eq
  omega
/-- The start of long division. -/
theorem long_start (b u0 : List Nat) (A B s na nb : Nat) (hA : A < Bs ^ na) (hb : Rep b B) (hnb : b.length = nb + 1) (hs : 1 ≤ s) (hu : val u0 = A * s) (hul : u0.length = na + 1) (hle : nb + 1 ≤ na) :
    val (u0.drop (u0.length - (nb + 1))) < B * s := by
  refine div_top u0 _ _ (by omega) ?_
  have hne : b ≠ [] := by intro h; rw [h] at hnb; cases hnb
  have h1 := rep_ge b B hb hne
  rw [hnb, Nat.add_sub_cancel] at h1
  rw [hu, hul, show na + 1 - (nb + 1) = na - nb by omega]
  have h2 : Bs ^ na = Bs ^ (na - nb) * Bs ^ nb := by rw [← Nat.pow_add]; congr 1; omega
  have h3 := Nat.mul_le_mul_left (Bs ^ (na - nb)) h1
  have h4 : A < Bs ^ (na - nb) * B := by rw [← h2] at h3; omega
  have h5 := (Nat.mul_lt_mul_right (a := s) (by omega)).2 h4
  rw [Nat.mul_assoc] at h5
  exact h5
/-- Copying the rest into the row. -/
def ucp (u left : List Nat) (j i : Nat) : List Nat := u.take j ++ padL left i ++ u.drop (j + i)
theorem ucp_length (u left : List Nat) (j i : Nat) (h : j + i ≤ u.length) : (ucp u left j i).length = u.length := by
  unfold ucp; simp [padL_length]; omega
theorem ucp_start (u left : List Nat) (j : Nat) : ucp u left j 0 = u := by
  unfold ucp; simp [padL]
theorem ucp_step (u left : List Nat) (j i : Nat) (h : j + i < u.length) : (ucp u left j i).set (j + i) (left.getD i 0) = ucp u left j (i + 1) := by
  unfold ucp
  have hl : (u.take j ++ padL left i).length = j + i := by simp [padL_length]; omega
  rw [List.set_append_right _ _ (by omega), hl, Nat.sub_self, List.drop_eq_getElem_cons h, List.set_cons_zero, padL_succ, ← Nat.add_assoc]
  simp
theorem set_set_same (l : List Nat) (i x y : Nat) : (l.set i x).set i y = l.set i y := by simp
theorem scale_bd (b : List Nat) (B s n : Nat) (hb : Rep b B) (hn : b.length = n + 1) (hs : s = Bs / (b.getD n 0 + 1)) : 1 ≤ s ∧ s < Bs := by
  have htop := rep_top b B n hb hn
  have hne : b ≠ [] := by intro h; rw [h] at hn; cases hn
  obtain ⟨h1, h2, h3⟩ := scale_ok (s := s) b hb.1 hne (by rw [hn]; exact hs)
  refine ⟨h1, ?_⟩
  rw [hs]
  have : Bs / (b.getD n 0 + 1) ≤ Bs / 2 := Nat.div_le_div_left (by omega) (by omega)
  have := Bs_eq
  omega

/-- A slice with the numbers of a magnitude. -/
def MagAt (w : World) (v : Value) (N : Nat) : Prop := ∃ a c l, v = .slice a l.length c ∧ l.length ≤ c ∧ Nums .u32 w a l ∧ Rep l N
theorem MagAt.below {w w' : World} {v : Value} {N : Nat} (h : MagAt w v N) (hb : Below w.heap.size w w') : MagAt w' v N := by
  obtain ⟨a, c, l, h1, h2, h3, h4⟩ := h
  exact ⟨a, c, l, h1, h2, h3.below hb, h4⟩
theorem MagAt.of_own {w : World} {B : Nat} {v : Value} {l : List Nat} {N : Nat} (h : w.ownsRow B 101 1 v l.length (nums .u32 l)) (hr : Rep l N) : MagAt w v N := by
  obtain ⟨a, c, rfl, hl, hc, hn⟩ := nums_of_owns h
  exact ⟨a, c, l, rfl, hc, hn, hr⟩
theorem MagNew.at {w : World} {N : Nat} {e : Ending} {w' : World} (h : MagNew w N e w') : ∃ v, e = .returned v ∧ MagAt w' v N ∧ Below w.heap.size w w' := by
  obtain ⟨v, l, h1, h2, h3, h4⟩ := h
  exact ⟨v, h1, MagAt.of_own h2 h3, h4⟩
/-- Quotient and rest are handed back. -/
def QRPost (w : World) (A B : Nat) (e : Ending) (w' : World) : Prop :=
  ∃ v1 v2, e = .returned (.tuple #[v1, v2]) ∧ MagAt w' v1 (A / B) ∧ MagAt w' v2 (A % B) ∧ Below w.heap.size w w'

set_option maxHeartbeats 1000000 in
set_option maxRecDepth 100000 in
theorem divide_small (a b : Option Addr) (n m c d A B : Nat) (la lb : List Nat) (w : World) (hla : la.length = n) (hlb : lb.length = m) (hn : n ≤ 100000) (hm : m ≤ 100000) (hnc : n ≤ c)
    (ra : Rep la A) (rb : Rep lb B) (ha : Nums .u32 w a la) (hb : Nums .u32 w b lb) (hlt : A < B) :
    Calls Try.prog 46 #[.slice a n c, .slice b m d] w (QRPost w A B) := by
  have hc := mcmp_any a b n m c d A B la lb w hla hlb (by omega) (by omega) ra rb ha hb
  rw [cmpN_lt hlt] at hc
  have HC := Lib.hid hc
  have HN := Lib.hid ha
  have HR := Lib.hid ra
  have HL := Lib.hid hla
  have HLT := Lib.hid hlt
  clear hc ha hb ra rb hla hlb hlt
  go_enter Try.func46, Try.ntmps46
  go_wp2_with fail
  refine HC.out.mono ?_
  rintro e w' ⟨rfl, q, hw⟩
  have HW := Lib.hid hw
  clear hw
  go_wp2_with fail
  go_ret2
  refine ⟨.slice none 0 0, .slice a n c, rfl, ⟨none, 0, [], rfl, Nat.le_refl _, Nums.nil _ _ _, ?_⟩, ⟨a, c, la, by rw [HL.out], by rw [HL.out]; exact hnc, by rw [HW.out]; exact HN.out.drewN q, ?_⟩, by rw [HW.out]; exact below_drewN (Below.refl _ _) q⟩
  · rw [Nat.div_eq_of_lt HLT.out]; exact rep_nil
  · rw [Nat.mod_eq_of_lt HLT.out]; exact HR.out

/-- trim of one new group. -/
theorem trim_lit (w : World) (x : Nat) (hx : x < Bs) :
    Calls Try.prog 62 #[.slice (some ⟨w.heap.size, 0, none⟩) 1 1] (w.alloc (.cells #[.int .u32 (x : Int)] 101)) fun e w' =>
      (∃ v l, e = .returned v ∧ w'.ownsRow w.heap.size 101 1 v l.length (nums .u32 l) ∧ Rep l x) ∧ w.alloc (.cells #[.int .u32 (x : Int)] 101) = w' := by
  have hlit : (w.alloc (.cells #[.int .u32 (x : Int)] 101)).ownsRow w.heap.size 101 1 (.slice (some ⟨w.heap.size, 0, none⟩) 1 1) 1 (nums .u32 [x]) :=
    World.ownsRow_lit w #[.int .u32 (x : Int)] 1 (Nat.le_refl _) (by unfold maxLen; omega) (by simp)
  have h := trim_own hlit (by omega) (by simpa using hx)
  refine h.mono fun e w' ⟨⟨v, l, e1, e2, e3⟩, e4⟩ => ?_
  subst e4
  exact ⟨⟨v, l, e1, e2, by simpa [val] using e3⟩, rfl⟩

set_option maxHeartbeats 1000000 in
set_option maxRecDepth 100000 in
theorem divide_one (a b : Option Addr) (n c d A B : Nat) (la lb : List Nat) (w : World) (hla : la.length = n) (hlb : lb.length = 1) (hn : n ≤ 100000)
    (ra : Rep la A) (rb : Rep lb B) (ha : Nums .u32 w a la) (hb : Nums .u32 w b lb) (hle : B ≤ A) :
    Calls Try.prog 46 #[.slice a n c, .slice b 1 d] w (QRPost w A B) := by
  have hcm := mcmp_any a b n 1 c d A B la lb w hla hlb (by omega) (by omega) ra rb ha hb
  obtain ⟨z, hz, hz0⟩ : ∃ z, z = cmpN A B ∧ 0 ≤ z := ⟨_, rfl, by
    rcases Nat.lt_or_ge B A with h | h
    · rw [cmpN_gt h]; omega
    · rw [cmpN_eq (by omega)]; omega⟩
  rw [← hz] at hcm
  obtain ⟨y, rfl⟩ : ∃ y, lb = [y] := by
    match lb, hlb with
    | [y], _ => exact ⟨y, rfl⟩
  have hy : B = y := by have := rb.2.2; simpa [val] using this.symm
  subst hy
  have hy0 := rep_top [B] B 0 rb rfl
  simp at hy0
  have hyb : B < 1000000000 := rb.1 B (by simp)
  obtain ⟨gb, ob, rfl, hgb, hcb⟩ := hb 0 (by simp)
  simp only [Nat.add_zero, List.getD_cons_zero] at hcb
  have hsh := fun q => short_any a n c B la (w.drewN q) hla (by omega) hy0 (by omega) ra.1 (ha.drewN q)
  rw [ra.2.2] at hsh
  have HC := Lib.hid hcm
  have HS := Lib.hid hsh
  clear hcm ha hb ra rb hla hlb hle hz hsh
  have hyb2 : B < Bs := hyb
  have HYB := Lib.hid hyb2
  clear hyb2
  go_enter Try.func46, Try.ntmps46
  go_wp2_with fail
  refine HC.out.mono ?_
  rintro e w1 ⟨rfl, q, rfl⟩
  go_wp2_with fail
  refine (HS.out q).mono ?_
  rintro e w2 ⟨v, l, rfl, ho, hr, hb2⟩
  have M1 := Lib.hid (MagAt.of_own ho hr)
  have B2 : Hid (Below w.heap.size w w2) := (below_drewN (Below.refl _ _) q).trans hb2
  have hmod : A % B < B := Nat.mod_lt _ hy0
  obtain ⟨r, hr2⟩ : ∃ r, r = A % B := ⟨_, rfl⟩
  rw [← hr2] at hmod ⊢
  have HR := Lib.hid hr2
  clear ho hr hb2 hr2
  go_wp2_with fail
  refine (trim_lit w2 r (Nat.lt_trans hmod HYB.out)).mono ?_
  rintro e w3 ⟨⟨v3, l3, rfl, ho3, hr3⟩, hw3⟩
  have B3 : Hid (Below w.heap.size w w3) := by rw [← hw3]; exact B2.out.alloc B2.out.size _
  have M3 := Lib.hid (MagAt.of_own ho3 hr3)
  have M13 : Hid (MagAt w3 v (A / B)) := by rw [← hw3]; exact M1.out.below ((Below.refl _ _).alloc (Nat.le_refl _) _)
  clear hw3 ho3 hr3
  go_wp2_with fail
  go_ret2
  exact ⟨v, v3, rfl, M13.out, by rw [← HR.out]; exact M3.out, B3.out⟩

end Go.Proofs.Ytnmiiimbjojcmaa
