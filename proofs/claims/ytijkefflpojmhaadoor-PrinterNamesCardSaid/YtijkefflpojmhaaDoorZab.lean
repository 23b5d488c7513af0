/-
  Magnitudes of the program: divide by what is greater, and by one group. No condition. Magnitudes of the program: long division. No condition. The reference's Digits. No condition. The reference's Text. No condition. slices.Reverse of bytes; the program's write. No condition. The program's write. No condition. The program's groups: an iterator over the groups of digits of a text. No condition. The program's read: the magnitude of a text. No condition. The reference's Check, Both, Gcd. No condition. The reference's Check of rationals: Slash, written. No condition. The reference's Check of rationals. No condition. The reference's Check of rationals, joined. No condition. The program's pair and Gcd. No condition. The program's Gcd. No condition.
-/
import Derived.Test.YtijkefflpojmhaaDoorZaa
import Derived.Outline
import Derived.Laws.IdiomStrings
import Derived.RangeFuncBox
import Derived.RangeFuncLeaves
import Derived.RangeFuncWrites
import Derived.Shelf.Abstract
import Derived.OwnWalkIn
import Derived.TacticsInMore
import Derived.LoopNIn
import Derived.LoopIn
import Derived.Maps.AppendAt
import Derived.RegionIn
import Derived.RegionTactic
namespace Go.Proofs.YtijkefflpojmhaaDoor
open Go.RowKit

theorem rep_ge (l : List Nat) (N : Nat) (h : Rep l N) (hne : l ≠ []) : Bs ^ (l.length - 1) ≤ N := by
  obtain ⟨h1, h2, h3⟩ := h
  obtain ⟨m, x, rfl⟩ : ∃ m x, l = m ++ [x] := ⟨l.dropLast, l.getLast hne, (List.dropLast_concat_getLast hne).symm⟩
  rw [List.getLast?_concat] at h2
  rw [val_snoc] at h3
  have hx : 1 ≤ x := by
    rcases Nat.eq_zero_or_pos x with rfl | h
    · exact absurd rfl h2
    · exact h
  have := Nat.mul_le_mul_left (Bs ^ m.length) hx
  simp; omega
theorem rep_lt (l : List Nat) (N : Nat) (h : Rep l N) : N < Bs ^ l.length := by rw [← h.2.2]; exact val_lt l h.1
theorem Bs_one : 1 < Bs := by decide
theorem rep_len_of (l : List Nat) (N k : Nat) (h : Rep l N) (hk : N < Bs ^ k) : l.length ≤ k := by
  by_cases hne : l = []
  · rw [hne]; simp
  · have h1 := rep_ge l N h hne
    have h2 := (Nat.pow_lt_pow_iff_right Bs_one).1 (Nat.lt_of_le_of_lt h1 hk)
    omega
theorem rep_top (l : List Nat) (N n : Nat) (h : Rep l N) (hn : l.length = n + 1) : 0 < l.getD n 0 := by
  have h2 := h.2.1
  rw [List.getLast?_eq_getElem?, hn, Nat.add_sub_cancel, List.getElem?_eq_getElem (by omega)] at h2
  rw [List.getD_eq_getElem?_getD, List.getElem?_eq_getElem (by omega)]
  simp at h2 ⊢
  omega
theorem rep_single {d : Nat} (h0 : 0 < d) (h : d < Bs) : Rep [d] d := ⟨by simpa using h, by simp; omega, by simp [val]⟩
theorem rep_nil : Rep [] 0 := ⟨by simp, by simp, rfl⟩
theorem rep_of_val {l : List Nat} {M N : Nat} (h : Rep l M) (e : M = N) : Rep l N := e ▸ h
/-- The scaled divisor keeps its length. -/
theorem scale_len (b v : List Nat) (B s n : Nat) (hb : Rep b B) (hn : b.length = n + 1) (hs : s = Bs / (b.getD n 0 + 1)) (hv : Rep v (B * s)) : v.length = n + 1 ∧ 1 ≤ s ∧ s < Bs := by
  have htop := rep_top b B n hb hn
  have hne : b ≠ [] := by intro h; rw [h] at hn; cases hn
  obtain ⟨h1, h2, h3⟩ := scale_ok (s := s) b hb.1 hne (by rw [hn]; exact hs)
  rw [hb.2.2, hn] at h3
  have h4 := rep_len_of v _ _ hv h3
  have h5 : b.length ≤ v.length := rep_len_le v b (B * s) B hv hb (Nat.le_mul_of_pos_right _ h1)
  refine ⟨by omega, h1, ?_⟩
  rw [hs]
  have : Bs / (b.getD n 0 + 1) ≤ Bs / 2 := Nat.div_le_div_left (by omega) (by omega)
  have := Bs_eq
  omega
/-- The start of long division. -/
theorem long_start (b u0 : List Nat) (A B s na nb : Nat) (hA : A < Bs ^ na) (hb : Rep b B) (hnb : b.length = nb + 1) (hs : 1 ≤ s) (hu : val u0 = A * s) (hul : u0.length = na + 1) (hle : nb + 1 ≤ na) :
    val (u0.drop (u0.length - (nb + 1))) < B * s := by
  refine div_top u0 _ _ (by omega) ?_
  have hne : b ≠ [] := by intro h; rw [h] at hnb; cases hnb
  have h1 := rep_ge b B hb hne
  rw [hnb, Nat.add_sub_cancel] at h1
  rw [hu, hul, show na + 1 - (nb + 1) = na - nb by omega]
  have h2 : Bs ^ na = Bs ^ (na - nb) * Bs ^ nb := by rw [← Nat.pow_add]; congr 1; omega
  have h3 := Nat.mul_le_mul_left (Bs ^ (na - nb)) h1
  have h4 : A < Bs ^ (na - nb) * B := by rw [← h2] at h3; omega
  have h5 := (Nat.mul_lt_mul_right (a := s) (by omega)).2 h4
  rw [Nat.mul_assoc] at h5
  exact h5
/-- Copying the rest into the row. -/
def ucp (u left : List Nat) (j i : Nat) : List Nat := u.take j ++ padL left i ++ u.drop (j + i)
theorem ucp_length (u left : List Nat) (j i : Nat) (h : j + i ≤ u.length) : (ucp u left j i).length = u.length := by
  unfold ucp; simp [padL_length]; omega
theorem ucp_start (u left : List Nat) (j : Nat) : ucp u left j 0 = u := by
  unfold ucp; simp [padL]
theorem ucp_step (u left : List Nat) (j i : Nat) (h : j + i < u.length) : (ucp u left j i).set (j + i) (left.getD i 0) = ucp u left j (i + 1) := by
  unfold ucp
  have hl : (u.take j ++ padL left i).length = j + i := by simp [padL_length]; omega
  rw [List.set_append_right _ _ (by omega), hl, Nat.sub_self, List.drop_eq_getElem_cons h, List.set_cons_zero, padL_succ, ← Nat.add_assoc]
  simp
theorem set_set_same (l : List Nat) (i x y : Nat) : (l.set i x).set i y = l.set i y := by simp
theorem scale_bd (b : List Nat) (B s n : Nat) (hb : Rep b B) (hn : b.length = n + 1) (hs : s = Bs / (b.getD n 0 + 1)) : 1 ≤ s ∧ s < Bs := by
  have htop := rep_top b B n hb hn
  have hne : b ≠ [] := by intro h; rw [h] at hn; cases hn
  obtain ⟨h1, h2, h3⟩ := scale_ok (s := s) b hb.1 hne (by rw [hn]; exact hs)
  refine ⟨h1, ?_⟩
  rw [hs]
  have : Bs / (b.getD n 0 + 1) ≤ Bs / 2 := Nat.div_le_div_left (by omega) (by omega)
  have := Bs_eq
  omega

/-- A slice with the numbers of a magnitude. -/
def MagAt (w : World) (v : Value) (N : Nat) : Prop := ∃ a c l, v = .slice a l.length c ∧ l.length ≤ c ∧ Nums .u32 w a l ∧ Rep l N
theorem MagAt.below {w w' : World} {v : Value} {N : Nat} (h : MagAt w v N) (hb : Below w.heap.size w w') : MagAt w' v N := by
  obtain ⟨a, c, l, h1, h2, h3, h4⟩ := h
  exact ⟨a, c, l, h1, h2, h3.below hb, h4⟩
theorem MagAt.of_own {w : World} {B : Nat} {v : Value} {l : List Nat} {N : Nat} (h : w.ownsRow B 120 1 v l.length (nums .u32 l)) (hr : Rep l N) : MagAt w v N := by
  obtain ⟨a, c, rfl, hl, hc, hn⟩ := nums_of_owns h
  exact ⟨a, c, l, rfl, hc, hn, hr⟩
theorem MagNew.at {w : World} {N : Nat} {e : Ending} {w' : World} (h : MagNew w N e w') : ∃ v, e = .returned v ∧ MagAt w' v N ∧ Below w.heap.size w w' := by
  obtain ⟨v, l, h1, h2, h3, h4⟩ := h
  exact ⟨v, h1, MagAt.of_own h2 h3, h4⟩
/-- Quotient and rest are handed back. -/
def QRPost (w : World) (A B : Nat) (e : Ending) (w' : World) : Prop :=
  ∃ v1 v2, e = .returned (.tuple #[v1, v2]) ∧ MagAt w' v1 (A / B) ∧ MagAt w' v2 (A % B) ∧ Below w.heap.size w w'

set_option maxHeartbeats 1000000 in
set_option maxRecDepth 100000 in
theorem divide_small (a b : Option Addr) (n m c d A B : Nat) (la lb : List Nat) (w : World) (hla : la.length = n) (hlb : lb.length = m) (hn : n ≤ 100000) (hm : m ≤ 100000) (hnc : n ≤ c)
    (ra : Rep la A) (rb : Rep lb B) (ha : Nums .u32 w a la) (hb : Nums .u32 w b lb) (hlt : A < B) :
    Calls Tryd.prog 86 #[.slice a n c, .slice b m d] w (QRPost w A B) := by
  have hc := mcmp_any a b n m c d A B la lb w hla hlb (by omega) (by omega) ra rb ha hb
  rw [cmpN_lt hlt] at hc
  have HC := Lib.hid hc
  have HN := Lib.hid ha
  have HR := Lib.hid ra
  have HL := Lib.hid hla
  have HLT := Lib.hid hlt
  clear hc ha hb ra rb hla hlb hlt
  go_enter Tryd.func86, Tryd.ntmps86
  go_wp2_with fail
  refine HC.out.mono ?_
  rintro e w' ⟨rfl, q, hw⟩
  have HW := Lib.hid hw
  clear hw
  go_wp2_with fail
  go_ret2
  refine ⟨.slice none 0 0, .slice a n c, rfl, ⟨none, 0, [], rfl, Nat.le_refl _, Nums.nil _ _ _, ?_⟩, ⟨a, c, la, by rw [HL.out], by rw [HL.out]; exact hnc, by rw [HW.out]; exact HN.out.drewN q, ?_⟩, by rw [HW.out]; exact below_drewN (Below.refl _ _) q⟩
  · rw [Nat.div_eq_of_lt HLT.out]; exact rep_nil
  · rw [Nat.mod_eq_of_lt HLT.out]; exact HR.out

/-- trim of one new group. -/
theorem trim_lit (w : World) (x : Nat) (hx : x < Bs) :
    Calls Tryd.prog 93 #[.slice (some ⟨w.heap.size, 0, none⟩) 1 1] (w.alloc (.cells #[.int .u32 (x : Int)] 120)) fun e w' =>
      (∃ v l, e = .returned v ∧ w'.ownsRow w.heap.size 120 1 v l.length (nums .u32 l) ∧ Rep l x) ∧ w.alloc (.cells #[.int .u32 (x : Int)] 120) = w' := by
  have hlit : (w.alloc (.cells #[.int .u32 (x : Int)] 120)).ownsRow w.heap.size 120 1 (.slice (some ⟨w.heap.size, 0, none⟩) 1 1) 1 (nums .u32 [x]) :=
    World.ownsRow_lit w #[.int .u32 (x : Int)] 1 (Nat.le_refl _) (by unfold maxLen; omega) (by simp)
  have h := trim_own hlit (by omega) (by simpa using hx)
  refine h.mono fun e w' ⟨⟨v, l, e1, e2, e3⟩, e4⟩ => ?_
  subst e4
  exact ⟨⟨v, l, e1, e2, by simpa [val] using e3⟩, rfl⟩

set_option maxHeartbeats 1000000 in
set_option maxRecDepth 100000 in
theorem divide_one (a b : Option Addr) (n c d A B : Nat) (la lb : List Nat) (w : World) (hla : la.length = n) (hlb : lb.length = 1) (hn : n ≤ 100000)
    (ra : Rep la A) (rb : Rep lb B) (ha : Nums .u32 w a la) (hb : Nums .u32 w b lb) (hle : B ≤ A) :
    Calls Tryd.prog 86 #[.slice a n c, .slice b 1 d] w (QRPost w A B) := by
  have hcm := mcmp_any a b n 1 c d A B la lb w hla hlb (by omega) (by omega) ra rb ha hb
  obtain ⟨z, hz, hz0⟩ : ∃ z, z = cmpN A B ∧ 0 ≤ z := ⟨_, rfl, by
    rcases Nat.lt_or_ge B A with h | h
    · rw [cmpN_gt h]; omega
    · rw [cmpN_eq (by omega)]; omega⟩
  rw [← hz] at hcm
  obtain ⟨y, rfl⟩ : ∃ y, lb = [y] := by
    match lb, hlb with
    | [y], _ => exact ⟨y, rfl⟩
  have hy : B = y := by have := rb.2.2; simpa [val] using this.symm
  subst hy
  have hy0 := rep_top [B] B 0 rb rfl
  simp at hy0
  have hyb : B < 1000000000 := rb.1 B (by simp)
  obtain ⟨gb, ob, rfl, hgb, hcb⟩ := hb 0 (by simp)
  simp only [Nat.add_zero, List.getD_cons_zero] at hcb
  have hsh := fun q => short_any a n c B la (w.drewN q) hla (by omega) hy0 (by omega) ra.1 (ha.drewN q)
  rw [ra.2.2] at hsh
  have HC := Lib.hid hcm
  have HS := Lib.hid hsh
  clear hcm ha hb ra rb hla hlb hle hz hsh
  have hyb2 : B < Bs := hyb
  have HYB := Lib.hid hyb2
  clear hyb2
  go_enter Tryd.func86, Tryd.ntmps86
  go_wp2_with fail
  refine HC.out.mono ?_
  rintro e w1 ⟨rfl, q, rfl⟩
  go_wp2_with fail
  refine (HS.out q).mono ?_
  rintro e w2 ⟨v, l, rfl, ho, hr, hb2⟩
  have M1 := Lib.hid (MagAt.of_own ho hr)
  have B2 : Hid (Below w.heap.size w w2) := (below_drewN (Below.refl _ _) q).trans hb2
  have hmod : A % B < B := Nat.mod_lt _ hy0
  obtain ⟨r, hr2⟩ : ∃ r, r = A % B := ⟨_, rfl⟩
  rw [← hr2] at hmod ⊢
  have HR := Lib.hid hr2
  clear ho hr hb2 hr2
  go_wp2_with fail
  refine (trim_lit w2 r (Nat.lt_trans hmod HYB.out)).mono ?_
  rintro e w3 ⟨⟨v3, l3, rfl, ho3, hr3⟩, hw3⟩
  have B3 : Hid (Below w.heap.size w w3) := by rw [← hw3]; exact B2.out.alloc B2.out.size _
  have M3 := Lib.hid (MagAt.of_own ho3 hr3)
  have M13 : Hid (MagAt w3 v (A / B)) := by rw [← hw3]; exact M1.out.below ((Below.refl _ _).alloc (Nat.le_refl _) _)
  clear hw3 ho3 hr3
  go_wp2_with fail
  go_ret2
  exact ⟨v, v3, rfl, M13.out, by rw [← HR.out]; exact M3.out, B3.out⟩

end Go.Proofs.YtijkefflpojmhaaDoor

namespace Go.Proofs.YtijkefflpojmhaaDoor
open Go.RowKit

/-- The row that is divided, while zeros are appended. -/
def PadR (w : World) (n N : Nat) (v : Value) (wr : World) : Prop :=
  ∃ u : List Nat, u.length ≤ n + 1 ∧ wr.ownsRow w.heap.size 120 1 v u.length (nums .u32 u) ∧ (∀ x ∈ u, x < Bs) ∧ val u = N ∧ Below w.heap.size w wr

/-- The loop that lays the rest back into the row. -/
def CpR (w5 : World) (gu j p : Nat) (u left : List Nat) (iv : Value) (wr : World) : Prop :=
  ∃ i : Nat, i ≤ p + 3 ∧ iv = .int .i64 i ∧ RowAt wr gu 120 (nums .u32 (ucp u left j i)) ∧ w5.grownBy wr (some gu)
theorem take_drop_getD (l : List Nat) (j m k : Nat) (h : k < m) : ((l.drop j).take m).getD k 0 = l.getD (j + k) 0 := by
  rw [List.getD_eq_getElem?_getD, List.getElem?_take_of_lt h, List.getElem?_drop, List.getD_eq_getElem?_getD]

/-- The long division: the places from i on are done. -/
def DvR (w : World) (gu gv gq : Nat) (u0 v : List Nat) (V p K : Nat) (iv : Value) (wr : World) : Prop :=
  ∃ (i : Nat) (u q : List Nat), i ≤ K ∧ iv = .int .i64 ((i : Int) - 1) ∧ RowAt wr gu 120 (nums .u32 u) ∧ RowAt wr gv 120 (nums .u32 v) ∧ RowAt wr gq 120 (nums .u32 q) ∧ DivAt u0 u q V (p + 2) i ∧ Below w.heap.size w wr

set_option maxHeartbeats 4000000 in
set_option maxRecDepth 100000 in
theorem divide_long (a b : Option Addr) (n p c d A B : Nat) (la lb : List Nat) (w : World) (hla : la.length = n) (hlb : lb.length = p + 2) (hn : n ≤ 100000) (hm : p ≤ 99998)
    (ra : Rep la A) (rb : Rep lb B) (ha : Nums .u32 w a la) (hb : Nums .u32 w b lb) (hle : B ≤ A) :
    Calls Tryd.prog 86 #[.slice a n c, .slice b (p + 2) d] w (QRPost w A B) := by
  obtain ⟨i0, hi, hz0, hz1, hz2⟩ := info_parts infoU32
  have hcm := mcmp_any a b n (p + 2) c d A B la lb w hla hlb (by omega) (by omega) ra rb ha hb
  obtain ⟨z, hz, hz0'⟩ : ∃ z, z = cmpN A B ∧ 0 ≤ z := ⟨_, rfl, by
    rcases Nat.lt_or_ge B A with h | h
    · rw [cmpN_gt h]; omega
    · rw [cmpN_eq (by omega)]; omega⟩
  rw [← hz] at hcm
  obtain ⟨y, hy⟩ : ∃ y, y = lb.getD (p + 1) 0 := ⟨_, rfl⟩
  have hyb : y < 1000000000 := by rw [hy]; exact getD_lt lb _ rb.1
  obtain ⟨gb, ob, rfl, hgb, hcb⟩ := hb (p + 1) (by omega)
  rw [← hy] at hcb
  obtain ⟨s, hs⟩ : ∃ s, s = 1000000000 / (y + 1) := ⟨_, rfl⟩
  have hsI : (1000000000 : Int) / ((y : Int) + 1) = (s : Int) := by rw [hs]; simp
  have hsl := fun v hv => scale_len lb v B s (p + 1) rb hlb (by rw [hs, ← hy]; rfl) hv
  have hsb : s ≤ 1000000000 := by rw [hs]; exact Nat.div_le_self _ _
  have hnb : p + 2 ≤ n := by have := rep_len_le la lb A B ra rb hle; omega
  have HSL := Lib.hid hsl
  have HC := Lib.hid hcm
  have RA := Lib.hid ra
  have RB := Lib.hid rb
  have HA := Lib.hid ha
  have HB := Lib.hid hb
  have HLA := Lib.hid hla
  have HLB := Lib.hid hlb
  have HLE := Lib.hid hle
  obtain ⟨hs1, hs2⟩ := scale_bd lb B s (p + 1) rb hlb (by rw [hs, ← hy]; rfl)
  have hs3 : s < 1000000000 := hs2
  have hsm : (1000000000 : Int) / ((y : Int) + 1) % 4294967296 = (s : Int) := by rw [hsI]; omega
  have HSM := Lib.hid hsm
  have HS2 := Lib.hid hs2
  have t1 : (((p : Int) + 2) == 1) = false := by rw [beq_eq_false_iff_ne]; omega
  clear hcm hz hs hsI hsl hsm hs2 ra rb ha hb hla hlb hle hy
  go_enter Tryd.func86, Tryd.ntmps86
  go_wp2_with fail
  refine HC.out.mono ?_
  rintro e w1 ⟨rfl, q, rfl⟩
  go_wp2_with fail
  rw [HSM.out]
  obtain ⟨W1, hW1⟩ : ∃ W1, W1 = (w.drewN q).alloc (.cells #[.int .u32 (s : Int)] 120) := ⟨_, rfl⟩
  have b1 : Below w.heap.size w W1 := by rw [hW1]; exact (below_drewN (Below.refl _ _) q).alloc (Nat.le_refl _) _
  have hlit : Nums .u32 W1 (some ⟨w.heap.size, 0, none⟩) [s] := by
    intro i hi
    obtain rfl : i = 0 := by simpa using hi
    refine ⟨_, 0, rfl, by rw [hW1]; simp [World.drewN], ?_⟩
    rw [hW1]
    exact (rowAt_alloc (w := w.drewN q) (c := #[.int .u32 (s : Int)]) (t := 120) rfl rfl).cell (i := 0) (by simp)
  have htm := times_any a (some ⟨w.heap.size, 0, none⟩) n 1 c 1 la [s] W1 HLA.out rfl (by omega) (by omega) RA.out.1 (by intro x hx; rw [List.mem_singleton.1 hx]; exact HS2.out) (HA.out.below b1) hlit
  rw [RA.out.2.2, show val [s] = s by simp [val]] at htm
  rw [← hW1]
  have HT := Lib.hid htm
  have BW1 := Lib.hid b1
  have LIT1 := Lib.hid hlit
  clear b1 hlit htm hW1
  refine HT.out.mono ?_
  rintro e w2 ⟨v2, u, rfl, ho2, hr2, b2⟩
  have hB2 := BW1.out.trans (b2.mono BW1.out.size)
  have hul : u.length ≤ n + 1 := rep_len_of u _ _ hr2 (by
    have h1 := rep_lt la A RA.out
    rw [HLA.out] at h1
    rw [Nat.pow_succ]
    exact Nat.mul_lt_mul_of_lt_of_lt h1 HS2.out)
  have hO2 : w2.ownsRow w.heap.size 120 1 v2 u.length (nums .u32 u) := by
    obtain ⟨h1, h2⟩ := ho2
    refine ⟨h1, ?_⟩
    rcases h2 with h | ⟨g, cap, cur, e1, e2, e3⟩
    · exact .inl h
    · exact .inr ⟨g, cap, cur, e1, Nat.le_trans BW1.out.size e2, e3⟩
  have hst : PadR w n (A * s) v2 w2 := ⟨u, hul, hO2, hr2.1, hr2.2.2, hB2⟩
  have HST := Lib.hid hst
  clear ho2 hr2 b2 hB2 hul hO2 hst HT
  go_wp2_with fail
  go_loopw [10] (PadR w n (A * s)) (fun v _ => n + 1 - (match v with | .slice _ k _ => k | _ => 0))
  case atStart => exact HST.out
  case round =>
    obtain ⟨u, hul, ho, hd, hv, hb⟩ := hrel
    obtain ⟨au, cu, rfl, _, huc, _⟩ := nums_of_owns ho
    have HO := Lib.hid ho
    have HD := Lib.hid hd
    have HV := Lib.hid hv
    have HBU := Lib.hid hb
    obtain ⟨k, hk⟩ : ∃ k, k = u.length := ⟨_, rfl⟩
    rw [← hk] at HO hul huc ⊢
    have HK := Lib.hid hk
    clear ho hd hv hb hk HST
    by_cases hlt : k ≤ n
    · go_wp2_with (at_builtin; refine wpList_append1 _ rfl (.tmp 58) (.tmp 59) 128 rfl w.heap.size 120 i0 (.int .u32 0) 4 Tryd.underlying128 hi hz0 hz1 hz2 rfl _ _ _ rfl (HO.out.alloc _) ⟨wr.heap.size, 0, none⟩ 1 (.int .u32 0) rfl ?c1 rfl ?c3 ?c4 ?c5 ?_)
      case c3 => unfold maxLen; omega
      case c4 => omega
      case c5 => have := HBU.out.size; simp; omega
      intro v3 w3 ho3 hg3 hne3 hpl3
      have n3 : Below w.heap.size w w3 := (HBU.out.alloc HBU.out.size _).grown hg3 (by have := HBU.out.size; simp; omega) (fun k hk => (HO.out.lt k hk).1)
      have ho4 : w3.ownsRow w.heap.size 120 1 v3 (k + 1) (nums .u32 (u ++ [0])) := by rw [← nums_snoc]; exact ho3
      obtain ⟨a3, c3, rfl, _, _, _⟩ := nums_of_owns ho4
      have HO4 := Lib.hid ho4
      have N3 := Lib.hid n3
      clear ho3 hg3 hne3 hpl3 ho4 n3
      go_wp2_with fail
      go_roundw
      case rel =>
        refine ⟨u ++ [0], by simp; have := HK.out; omega, by rw [List.length_append, ← HK.out]; exact HO4.out, ?_, by rw [val_snoc]; simp [HV.out], N3.out⟩
        intro x hx
        rcases List.mem_append.1 hx with hx | hx
        · exact HD.out x hx
        · rw [List.mem_singleton.1 hx]; exact Bs_pos
      case measure => simp; omega
    · obtain rfl : k = n + 1 := by omega
      obtain ⟨w3, rfl⟩ : ∃ w3 : World, w3 = wr := ⟨_, rfl⟩
      clear hlt hul
      go_wp2_with fail
      obtain ⟨W4, hW4⟩ : ∃ W4, W4 = w3.alloc (.cells #[.int .u32 (s : Int)] 120) := ⟨_, rfl⟩
      have b34 : Below w3.heap.size w3 W4 := by rw [hW4]; exact (Below.refl _ _).alloc (Nat.le_refl _) _
      have hlit2 : Nums .u32 W4 (some ⟨w3.heap.size, 0, none⟩) [s] := by
        intro i hi
        obtain rfl : i = 0 := by simpa using hi
        refine ⟨_, 0, rfl, by rw [hW4]; simp, ?_⟩
        rw [hW4]
        exact (rowAt_alloc (w := w3) (c := #[.int .u32 (s : Int)]) (t := 120) rfl rfl).cell (i := 0) (by simp)
      have b4 := HBU.out.trans (b34.mono HBU.out.size)
      have htm := times_any (some ⟨gb, ob, none⟩) (some ⟨w3.heap.size, 0, none⟩) (p + 2) 1 d 1 lb [s] W4 HLB.out rfl (by omega) (by omega) RB.out.1 (by intro x hx; rw [List.mem_singleton.1 hx]; exact HS2.out) (HB.out.below b4) hlit2
      rw [RB.out.2.2, show val [s] = s by simp [val]] at htm
      rw [← hW4]
      rcases rowAt_of_owns HO.out with ⟨_, h0, _⟩ | ⟨gu, cu', hu, hgu, hcu, hcum, _, hru⟩
      · omega
      injection hu with hu1 _ hu3
      subst hu1 hu3
      have hru4 : RowAt W4 gu 120 (nums .u32 u) := hru.below b34 hru.lt
      have hgu4 : gu < W4.heap.size := hru4.lt
      refine htm.mono ?_
      rintro e w5 ⟨v5, vl, rfl, ho5, hr5, b5⟩
      have hvl : vl.length = p + 2 := (HSL.out vl hr5).1
      rw [hvl] at ho5
      rcases rowAt_of_owns ho5 with ⟨_, h0, _⟩ | ⟨gv, cv, rfl, hgv, hcv, hcvm, _, hrv⟩
      · omega
      have hru5 : RowAt w5 gu 120 (nums .u32 u) := hru4.below b5 hru4.lt
      have hguv : gu < gv := Nat.lt_of_lt_of_le hgu4 hgv
      have b05 := b4.trans (b5.mono b4.size)
      have RU5 := Lib.hid hru5
      have RV5 := Lib.hid hrv
      have RR5 := Lib.hid hr5
      have B05 := Lib.hid b05
      have HVL := Lib.hid hvl
      clear hW4 b34 hlit2 b4 htm hru4 hgu4 ho5 hr5 b5 hru5 hrv b05 hru hgv HO HBU LIT1 BW1 hvl
      obtain ⟨K, hK⟩ : ∃ K, K + p + 1 = n := ⟨n - p - 1, by omega⟩
      have hK1 : K + p + 1 ≤ n := by omega
      have hK2 : n ≤ K + p + 1 := by omega
      clear hK
      go_wp2_with (at_make; refine wpList_make_full _ rfl _ _ 128 rfl w5.heap.size 120 i0 (.int .u32 0) 1 Tryd.underlying128 hi hz0 hz1 .i64 .i64 _ _ K rfl rfl ?m0 ?m1 ?m2 ?m3 ?m4 ?_)
      case m0 => omega
      case m1 => omega
      case m2 => rw [hz2]; omega
      case m3 => unfold maxLen; omega
      case m4 => exact Nat.le_refl _
      intro w6 ho6 hg6
      rw [nums_zero_made] at ho6
      rcases rowAt_of_owns ho6 with ⟨_, h0, _⟩ | ⟨gq, cq, hq6, _, _, _, _, hrq⟩
      · omega
      injection hq6 with hq61 _ hq63
      subst hq63
      injection hq61 with hq61
      injection hq61 with hq61 _
      have hgq : w5.heap.size = gq := hq61
      have RU6 := Lib.hid (RU5.out.kept hg6 (by simp))
      have RV6 := Lib.hid (RV5.out.kept hg6 (by simp))
      have RQ6 := Lib.hid hrq
      have B06 := Lib.hid (B05.out.grown hg6 B05.out.size (fun k hk => by cases hk))
      have hgvq : gv < gq := by have := RV5.out.lt; omega
      have hst2 : DvR w gu gv gq u vl (B * s) p K (.int .i64 ((K : Int) - 1)) w6 := by
        have hV : val vl = B * s := RR5.out.2.2
        have hdl := long_start lb u A B s n (p + 1) (by have := rep_lt la A RA.out; rwa [HLA.out] at this) RB.out HLB.out hs1 HV.out HK.out.symm (by omega)
        refine ⟨K, u, List.replicate K 0, Nat.le_refl _, rfl, RU6.out, RV6.out, RQ6.out, ?_, B06.out⟩
        have hds := div_start u (B * s) (p + 1 + 1) (by have := HK.out; omega) HD.out hdl
        rwa [show u.length - (p + 1 + 1) = K by have := HK.out; omega] at hds
      have HST2 := Lib.hid hst2
      have hGQ := Lib.hid hgq
      clear ho6 hg6 hrq hq61 RU5 RV5 B05 RU6 RV6 RQ6 B06 hst2 hgq
      rw [hGQ.out]
      go_wp2_with fail
      rw [show ((n : Int) + 1 - ((p : Int) + 2) - 1) = (K : Int) - 1 by omega]
      go_loopw [12] (DvR w gu gv gq u vl (B * s) p K) (fun i _ => (intOf i + 1).toNat)
      case atStart => exact HST2.out
      case round =>
        clear HST2
        obtain ⟨w7, rfl⟩ : ∃ w7 : World, w7 = wr := ⟨_, rfl⟩
        obtain ⟨i, uu, q, hiK, rfl, ru, rv, rq, hat, hb⟩ := hrel
        have RU := Lib.hid ru
        have RV := Lib.hid rv
        have RQ := Lib.hid rq
        have HAT := Lib.hid hat
        have HB7 := Lib.hid hb
        have huul : uu.length = n + 1 := by rw [hat.1]; exact HK.out.symm
        have HUL := Lib.hid huul
        clear ru rv rq hat hb huul
        by_cases hi0 : 1 ≤ i
        · obtain ⟨j, rfl⟩ : ∃ j, i = j + 1 := ⟨i - 1, by omega⟩
          rw [show (((j + 1 : Nat) : Int) - 1) = (j : Int) by omega]
          have hcu : ∀ k x, k < n + 1 → x = uu.getD k 0 → w7.cell? ⟨gu, k, none⟩ = some (.int .u32 (x : Int)) := fun k x hk hx => by
            rw [RU.out.cell (by rw [nums_length, HUL.out]; exact hk), nums_get _ _ _ (by rw [HUL.out]; exact hk), hx]
          have hcv : ∀ k x, k < p + 2 → x = vl.getD k 0 → w7.cell? ⟨gv, k, none⟩ = some (.int .u32 (x : Int)) := fun k x hk hx => by
            rw [RV.out.cell (by rw [nums_length, HVL.out]; exact hk), nums_get _ _ _ (by rw [HVL.out]; exact hk), hx]
          obtain ⟨u2, hu2⟩ : ∃ x, x = uu.getD (j + (p + 2)) 0 := ⟨_, rfl⟩
          obtain ⟨u1, hu1⟩ : ∃ x, x = uu.getD (j + (p + 1)) 0 := ⟨_, rfl⟩
          obtain ⟨u0, hu0⟩ : ∃ x, x = uu.getD (j + p) 0 := ⟨_, rfl⟩
          obtain ⟨y1, hy1⟩ : ∃ x, x = vl.getD (p + 1) 0 := ⟨_, rfl⟩
          obtain ⟨y0, hy0⟩ : ∃ x, x = vl.getD p 0 := ⟨_, rfl⟩
          have c2 := hcu _ _ (by omega) hu2
          have c1 := hcu _ _ (by omega) hu1
          have c0 := hcu (j + (p + 2) - 2) u0 (by omega) (by rw [hu0]; congr 1)
          have d1 := hcv _ _ (by omega) hy1
          have d0 := hcv _ _ (by omega) hy0
          have bu2 : u2 < 1000000000 := by rw [hu2]; exact getD_lt uu _ HAT.out.2.1
          have bu1 : u1 < 1000000000 := by rw [hu1]; exact getD_lt uu _ HAT.out.2.1
          have bu0 : u0 < 1000000000 := by rw [hu0]; exact getD_lt uu _ HAT.out.2.1
          have by1 : y1 < 1000000000 := by rw [hy1]; exact getD_lt vl _ RR5.out.1
          have by0 : y0 < 1000000000 := by rw [hy0]; exact getD_lt vl _ RR5.out.1
          clear hcu hcv
          have HU2 := Lib.hid hu2
          have HU1 := Lib.hid hu1
          have HU0 := Lib.hid hu0
          have HY1 := Lib.hid hy1
          have HY0 := Lib.hid hy0
          clear hu2 hu1 hu0 hy1 hy0
          obtain ⟨hw1, hw2, hw3, hw4, hw5, hw6⟩ := div_window u uu q (B * s) (p + 2) j (by have := HK.out; omega) (by have := RR5.out.2.2; rw [← this]; exact val_pos vl RR5.out.2.1 (by intro h; have := HVL.out; rw [h] at this; cases this)) (by have := rep_lt vl _ RR5.out; rw [HVL.out] at this; omega) HAT.out
          have hdo := digit_ok ((uu.drop j).take (p + 2 + 1)) vl (p + 2) hw1 HVL.out (by omega) (fun x hx => HAT.out.2.1 x (List.mem_of_mem_drop (List.mem_of_mem_take hx))) RR5.out.1 (rep_top vl _ (p + 1) RR5.out HVL.out) (by rw [hw2, RR5.out.2.2]; exact hw3)
          rw [hw2, RR5.out.2.2, take_drop_getD _ _ _ _ (by omega), take_drop_getD _ _ _ _ (by omega), take_drop_getD _ _ _ _ (by omega), ← HU2.out, show p + 2 - 1 = p + 1 by omega, show p + 2 - 2 = p by omega, ← HU1.out, ← HU0.out, ← HY1.out, ← HY0.out] at hdo
          obtain ⟨hd1, hd2, hd3⟩ := hdo
          have hy1p : 1 ≤ y1 := by rw [HY1.out]; exact rep_top vl _ (p + 1) RR5.out HVL.out
          have hgs := fun q => guess_any u2 u1 u0 y1 y0 (w7.drewN q) hd3 bu1 bu0 by0 hy1p by1
          have hgl := gss_lt u2 u1 u0 y1 y0
          obtain ⟨dg, hdg⟩ : ∃ dg, dg = gss u2 u1 u0 y1 y0 := ⟨_, rfl⟩
          rw [← hdg] at hd1 hd2 hgl
          have hgs2 : ∀ q, Calls Tryd.prog 95 #[.int .u64 u2, .int .u64 u1, .int .u64 u0, .int .u64 y1, .int .u64 y0] (w7.drewN q) fun e w' => e = .returned (.int .u64 dg) ∧ ∃ m, w' = (w7.drewN q).drewN m := fun q => by rw [hdg]; exact hgs q
          have HGS := Lib.hid hgs2
          have HW5 := Lib.hid hw5
          have HW6 := Lib.hid hw6
          have HW1 := Lib.hid hw1
          have HW2 := Lib.hid hw2
          have HD1 := Lib.hid hd1
          have HD2 := Lib.hid hd2
          have hgl2 : dg < 1000000000 := hgl
          clear hgs hgs2 hdg hd1 hd2 hd3 hw1 hw2 hw3 hw4 hw5 hw6 hgl
          go_wp2_with fail
          have s1 : IntKind.i64.wrap ((j : Int) + ((p : Int) + 2)) = (j : Int) + ((p : Int) + 2) := IntWalk.i64_in _ (by omega)
          have s2 : IntKind.i64.wrap ((j : Int) + ((p : Int) + 2) - 1) = (j : Int) + ((p : Int) + 2) - 1 := IntWalk.i64_in _ (by omega)
          have s3 : IntKind.i64.wrap ((j : Int) + ((p : Int) + 2) - 2) = (j : Int) + ((p : Int) + 2) - 2 := IntWalk.i64_in _ (by omega)
          have s4 : IntKind.i64.wrap ((p : Int) + 2 - 1) = (p : Int) + 2 - 1 := IntWalk.i64_in _ (by omega)
          have s5 : IntKind.i64.wrap ((p : Int) + 2 - 2) = (p : Int) + 2 - 2 := IntWalk.i64_in _ (by omega)
          have v1 : IntKind.u64.wrap (u2 : Int) = (u2 : Int) := IntWalk.u64_in _ (by omega)
          have v2 : IntKind.u64.wrap (u1 : Int) = (u1 : Int) := IntWalk.u64_in _ (by omega)
          have v3 : IntKind.u64.wrap (u0 : Int) = (u0 : Int) := IntWalk.u64_in _ (by omega)
          have v4 : IntKind.u64.wrap (y1 : Int) = (y1 : Int) := IntWalk.u64_in _ (by omega)
          have v5 : IntKind.u64.wrap (y0 : Int) = (y0 : Int) := IntWalk.u64_in _ (by omega)
          go_quiet ((go_at_call 95; exact Calls.quiet_of (HGS.out _)))
          obtain ⟨W8, hW8⟩ : ∃ W8, W8 = w7.drewN nq := ⟨_, rfl⟩
          have hb8 : Below w7.heap.size w7 W8 := by rw [hW8]; exact below_drewN (Below.refl _ _) nq
          rw [← hW8]
          clear hW8 s1 s2 s3 s4 s5 v1 v2 v3 v4 v5 c0 c1 c2 d0 d1 bu2 bu1 bu0 by1 by0 hy1p
          obtain ⟨V, hV⟩ : ∃ V, V = B * s := ⟨_, rfl⟩
          obtain ⟨X, hX⟩ : ∃ X, X = val (uu.drop j) := ⟨_, rfl⟩
          have hVp : 0 < V := by rw [hV, ← RR5.out.2.2]; exact val_pos vl RR5.out.2.1 (by intro h; have := HVL.out; rw [h] at this; cases this)
          have hUd : ∀ x ∈ (uu.drop j).take (p + 2 + 1), x < Bs := fun x hx => HAT.out.2.1 x (List.mem_of_mem_drop (List.mem_of_mem_take hx))
          have hX2 : val ((uu.drop j).take (p + 2 + 1)) = X := by rw [hX]; exact HW2.out
          have hdd : X / V ≤ dg ∧ dg ≤ X / V + 1 := by rw [hX, hV]; exact ⟨HD1.out, HD2.out⟩
          have hDlt : X / V < Bs := by have := Bs_eq; omega
          have hNU : ∀ W, Below w7.heap.size w7 W → Nums .u32 W (some ⟨gu, j, none⟩) ((uu.drop j).take (p + 2 + 1)) := fun W hW e he => by
            rw [HW1.out] at he
            have hr := RU.out.below hW RU.out.lt
            refine ⟨gu, j, rfl, hr.lt, ?_⟩
            rw [hr.cell (by rw [nums_length, HUL.out]; omega), nums_get _ _ _ (by rw [HUL.out]; omega), take_drop_getD _ _ _ _ he]
          have hNV : ∀ W, Below w7.heap.size w7 W → Nums .u32 W (some ⟨gv, 0, none⟩) vl := fun W hW e he => by
            have hr := RV.out.below hW RV.out.lt
            refine ⟨gv, 0, rfl, hr.lt, ?_⟩
            rw [Nat.zero_add, hr.cell (by rw [nums_length]; exact he), nums_get _ _ _ he]
          have htrU : ∀ W, Below w7.heap.size w7 W → Calls Tryd.prog 93 #[.slice (some ⟨gu, j, none⟩) (p + 2 + 1) (cu - j)] W (TrimPost W (some ⟨gu, j, none⟩) (p + 2 + 1) (cu - j) ((uu.drop j).take (p + 2 + 1))) := fun W hW =>
            trim_any _ _ _ _ W HW1.out (by omega) (by omega) hUd (hNU W hW)
          have htmV : ∀ W a2 n2 c2 l2 x, Below w7.heap.size w7 W → l2.length = n2 → n2 ≤ 400000 → Rep l2 x → Nums .u32 W a2 l2 → Calls Tryd.prog 94 #[.slice (some ⟨gv, 0, none⟩) (p + 2) cv, .slice a2 n2 c2] W (MagNew W (V * x)) := fun W a2 n2 c2 l2 x hW h1 h2 h3 h4 => by
            have := times_any (some ⟨gv, 0, none⟩) a2 (p + 2) n2 cv c2 vl l2 W HVL.out h1 (by omega) h2 RR5.out.1 h3.1 (hNV W hW) h4
            rwa [RR5.out.2.2, h3.2.2, ← hV] at this
          have HUD := Lib.hid hUd
          have HX2 := Lib.hid hX2
          have HNU := Lib.hid hNU
          have HTU := Lib.hid htrU
          have HTV := Lib.hid htmV
          have HDD := Lib.hid hdd
          have HXX := Lib.hid hX
          have HVV := Lib.hid hV
          have HB8 := Lib.hid hb8
          clear hUd hX2 hNU hNV htrU htmV hdd hX hV hb8
          go_wp2_with fail
          refine (trim_lit W8 dg (by have := Bs_eq; omega)).mono ?_
          rintro e w9 ⟨⟨v9, l9, rfl, ho9, hr9⟩, hw9⟩
          have hb9 : Below w7.heap.size w7 w9 := by rw [← hw9]; exact HB8.out.alloc HB8.out.size _
          obtain ⟨a9, c9, rfl, hl9, hc9, hn9⟩ := nums_of_owns ho9
          have hlen9 : l9.length ≤ 1 := rep_len_of l9 dg 1 hr9 (by have := Bs_eq; simp; omega)
          have HT9 := Lib.hid (HTV.out w9 a9 l9.length c9 l9 dg hb9 rfl (by omega) hr9 hn9)
          have HB9 := Lib.hid hb9
          clear ho9 hr9 hw9 hb9 hl9 hn9
          go_wp2_with fail
          refine HT9.out.mono ?_
          rintro e w10 ⟨v10, l10, rfl, ho10, hr10, hb10⟩
          obtain ⟨a10, c10, rfl, _, hc10, hn10⟩ := nums_of_owns ho10
          have HB10 := Lib.hid (HB9.out.trans (hb10.mono HB9.out.size))
          have hlen10 : l10.length ≤ 200000 := by
            have h1 := rep_len_of l10 _ (p + 2 + 1) hr10 (by
              have h2 := rep_lt vl _ RR5.out
              rw [HVL.out, ← HVV.out] at h2
              rw [Nat.pow_succ]
              exact Nat.mul_lt_mul_of_lt_of_lt h2 (by have := Bs_eq; omega))
            omega
          have HN10 := Lib.hid hn10
          have HR10 := Lib.hid hr10
          clear ho10 hr10 hb10 hn10 HT9
          go_wp2_with fail
          rw [show j + (p + 2) + 1 - j = p + 2 + 1 by omega]
          refine (HTU.out w10 HB10.out).mono ?_
          rintro e w' ⟨⟨k, hk, rfl, hrk⟩, rfl⟩
          rw [HX2.out] at hrk
          have HRK := Lib.hid hrk
          have hcp := mcmp_any (some ⟨gu, j, none⟩) a10 k l10.length (cu - j) c10 X (V * dg) (((uu.drop j).take (p + 2 + 1)).take k) l10 w10 (by rw [List.length_take, HW1.out]; omega) rfl (by omega) (by omega) hrk HR10.out ((HNU.out w10 HB10.out).take k) HN10.out
          have HCP := Lib.hid hcp
          clear hrk hcp
          go_wp2_with fail
          obtain ⟨cz, hcz⟩ : ∃ cz, cz = cmpN X (V * dg) := ⟨_, rfl⟩
          have HCP2 := HCP.out
          rw [← hcz] at HCP2
          refine HCP2.mono ?_
          rintro e w11 ⟨rfl, q11, hw11⟩
          have hb11 : Below w7.heap.size w7 w11 := by rw [hw11]; exact below_drewN HB10.out q11
          have HN11 : Hid (Nums .u32 w11 a10 l10) := by rw [hw11]; exact HN10.out.drewN q11
          have HB11 := Lib.hid hb11
          have HCZ := Lib.hid hcz
          clear hcz hw11 hb11 HCP HCP2 HN10 HB8 HB9 HGS
          obtain ⟨D, hD⟩ : ∃ D, D = X / V := ⟨_, rfl⟩
          have hdgD : (dg = D ∧ 0 ≤ cz ∧ V * dg = V * D) ∨ (dg = D + 1 ∧ cz < 0) := by
            have h1 := HDD.out
            rw [← hD] at h1
            have h2 := Nat.div_mul_le_self X V
            rw [← hD, Nat.mul_comm] at h2
            rcases Nat.lt_or_ge X (V * dg) with h3 | h3
            · right
              refine ⟨?_, by rw [HCZ.out, cmpN_lt h3]; omega⟩
              rcases Nat.lt_or_ge D dg with h4 | h4
              · omega
              · exfalso
                have := Nat.mul_le_mul_left V h4
                omega
            · left
              have h4 : dg ≤ D := by rw [hD]; exact (Nat.le_div_iff_mul_le hVp).2 (by rw [Nat.mul_comm]; exact h3)
              have h5 : dg = D := by omega
              refine ⟨h5, ?_, by rw [h5]⟩
              rw [HCZ.out]
              rcases Nat.lt_or_ge (V * dg) X with h6 | h6
              · rw [cmpN_gt h6]; omega
              · rw [cmpN_eq (by omega)]; omega
          have HDG := Lib.hid hdgD
          have HDX := Lib.hid hD
          have hDb : D < 1000000000 := by rw [hD]; have := Bs_eq; omega
          clear hdgD hD hDlt
          go_upto_if 131 with (fail)
          go_cut [13, 14] (fun d13 p14 wx => d13 = .int .u64 (D : Int) ∧ MagAt wx p14 (V * D) ∧ Below w7.heap.size w7 wx)
          case first => as_aux_lemma =>
            rcases HDG.out with ⟨h1, h2, h3⟩ | ⟨h1, h2⟩
            · have t2 : decide (cz < 0) = false := by simp; omega
              have H1 := Lib.hid h1
              have H3 := Lib.hid h3
              clear h1 h3
              go_wp2_with fail
              go_meet
              exact ⟨by rw [H1.out], ⟨a10, c10, l10, rfl, hc10, HN11.out, by rw [← H3.out]; exact HR10.out⟩, HB11.out⟩
            · have t2 : decide (cz < 0) = true := by simp; omega
              subst h1
              have e1 : (((D + 1 : Nat) : Int)) = (D : Int) + 1 := by omega
              rw [e1]
              clear e1
              go_wp2_with fail
              refine (trim_lit w11 D (by have := Bs_eq; omega)).mono ?_
              rintro e w12 ⟨⟨v12, l12, rfl, ho12, hr12⟩, hw12⟩
              have hb12 : Below w7.heap.size w7 w12 := by rw [← hw12]; exact HB11.out.alloc HB11.out.size _
              obtain ⟨a12, c12, rfl, hl12, hc12, hn12⟩ := nums_of_owns ho12
              have hlen12 : l12.length ≤ 1 := rep_len_of l12 D 1 hr12 (by have := Bs_eq; simp; omega)
              have HT12 := Lib.hid (HTV.out w12 a12 l12.length c12 l12 D hb12 rfl (by omega) hr12 hn12)
              have HB12 := Lib.hid hb12
              clear ho12 hr12 hw12 hb12 hl12 hn12
              go_wp2_with fail
              refine HT12.out.mono ?_
              rintro e w13 ⟨v13, l13, rfl, ho13, hr13, hb13⟩
              have HM13 := Lib.hid (MagAt.of_own ho13 hr13)
              have HB13 := Lib.hid (HB12.out.trans (hb13.mono HB12.out.size))
              clear ho13 hr13 hb13
              go_wp2_with fail
              go_meet
              exact ⟨rfl, HM13.out, HB13.out⟩
          case rest => as_aux_lemma =>
            obtain ⟨rfl, hm14, hb14⟩ := hcut
            obtain ⟨w14, hw14⟩ : ∃ w14 : World, w14 = wc := ⟨_, rfl⟩
            subst hw14
            obtain ⟨a14, c14, l14, rfl, hc14, hn14, hr14⟩ := hm14
            have HB14 := Lib.hid hb14
            have HN14 := Lib.hid hn14
            have HR14 := Lib.hid hr14
            have hlen14 : l14.length ≤ 200000 := by
              have h1 := rep_len_of l14 _ (p + 2 + 1) hr14 (by
                have h2 := rep_lt vl _ RR5.out
                rw [HVL.out, ← HVV.out] at h2
                rw [Nat.pow_succ]
                exact Nat.mul_lt_mul_of_lt_of_lt h2 (by have := Bs_eq; omega))
              omega
            clear hb14 hn14 hr14 HCZ HDG HN11 HB11 HRK
            go_wp2_with fail
            rw [show j + (p + 2) + 1 - j = p + 2 + 1 by omega]
            refine (HTU.out w14 HB14.out).mono ?_
            rintro e w' ⟨⟨k2, hk2, rfl, hrk⟩, rfl⟩
            rw [HX2.out] at hrk
            have hXV : X = V * D + X % V := by rw [HDX.out]; exact (Nat.div_add_mod X V).symm
            have hmn := minus_any (some ⟨gu, j, none⟩) a14 k2 l14.length (cu - j) c14 (((uu.drop j).take (p + 2 + 1)).take k2) l14 w14 (by rw [List.length_take, HW1.out]; omega) rfl (by omega) (by
              have h1 := rep_len_le _ _ X (V * D) hrk HR14.out (by omega)
              rwa [List.length_take, HW1.out, show min k2 (p + 2 + 1) = k2 by omega] at h1) hrk.1 HR14.out.1 (by rw [hrk.2.2, HR14.out.2.2]; omega) ((HNU.out w14 HB14.out).take k2) HN14.out
            rw [hrk.2.2, HR14.out.2.2, show X - V * D = X % V by omega] at hmn
            have HMN := Lib.hid hmn
            clear hrk hmn hXV
            go_wp2_with fail
            refine HMN.out.mono ?_
            rintro e w15 ⟨v15, L, rfl, ho15, hrL, hb15⟩
            obtain ⟨aL, cL, rfl, _, hcL, _⟩ := nums_of_owns ho15
            have HB15 := Lib.hid (HB14.out.trans (hb15.mono HB14.out.size))
            have HO15 := Lib.hid ho15
            have HRL := Lib.hid hrL
            have hLl : L.length ≤ 200000 := by
              have h1 := rep_len_of L _ (p + 2) hrL (by
                have h2 := rep_lt vl _ RR5.out
                rw [HVL.out, ← HVV.out] at h2
                exact Nat.lt_trans (Nat.mod_lt _ hVp) h2)
              omega
            have hgu14 : gu < w14.heap.size := Nat.lt_of_lt_of_le RU.out.lt HB14.out.size
            clear ho15 hrL hb15 HMN HN14 HR14 HB14
            have hru15 := RU.out.below HB15.out RU.out.lt
            have hst3 : CpR w15 gu j p uu L (.int .i64 0) w15 := ⟨0, Nat.zero_le _, rfl, by rw [ucp_start]; exact hru15, only_refl _ _⟩
            have HST3 := Lib.hid hst3
            clear hst3 hru15
            obtain ⟨kL, hkL⟩ : ∃ kL, kL = L.length := ⟨_, rfl⟩
            rw [← hkL] at HO15 hLl hcL ⊢
            have HKL := Lib.hid hkL
            clear hkL
            go_wp2_with fail
            go_loopw [152] (CpR w15 gu j p uu L) (fun i _ => p + 3 - (intOf i).toNat)
            case atStart => exact HST3.out
            case round =>
              obtain ⟨w16, rfl⟩ : ∃ w16 : World, w16 = wr := ⟨_, rfl⟩
              obtain ⟨i, hi3, rfl, hru, hgw⟩ := hrel
              have RU16 := Lib.hid hru
              have GW := Lib.hid hgw
              clear hru hgw HST3
              have hbw : Below w.heap.size w w16 := (HB7.out.trans (HB15.out.mono HB7.out.size)).grown GW.out (by have := HB7.out.size; have := HB15.out.size; omega) (fun k hk => by injection hk with hk; omega)
              have HBW := Lib.hid hbw
              clear hbw
              by_cases hlt : i < p + 3
              · have hji : j + i < n + 1 := by omega
                have hul2 : (ucp uu L j i).length = n + 1 := by rw [ucp_length _ _ _ _ (by rw [HUL.out]; omega)]; exact HUL.out
                obtain ⟨xo, hxo⟩ : ∃ xo : Nat, w16.cell? ⟨gu, j + i, none⟩ = some (.int .u32 (xo : Int)) :=
                  ⟨_, by rw [RU16.out.cell (by rw [nums_length]; omega), nums_get _ _ _ (by omega)]⟩
                have hfz : w16.frozen? ⟨gu, j + i, none⟩ = false := RU16.out.frozen (j + i)
                have hstep := ucp_step uu L j i (by rw [HUL.out]; omega)
                have HSTEP := Lib.hid hstep
                clear hstep hul2
                have hset : ∀ x : Nat, RowAt (w16.setCell ⟨gu, j + i, none⟩ (.int .u32 (x : Int))) gu 120 (nums .u32 ((ucp uu L j i).set (j + i) x)) := fun x => by
                  rw [← nums_set]; exact RU16.out.set (j + i) _
                have HSET := Lib.hid hset
                clear hset
                by_cases hiL : i < kL
                · have hnL : Nums .u32 w16 aL L := by
                    have := HO15.out.kept GW.out (.inr (fun h => by have := (HO15.out.lt gu h).1; omega))
                    obtain ⟨aL', cL', e1, _, _, e2⟩ := nums_of_owns this
                    injection e1 with e1 _ _
                    rw [e1]; exact e2
                  obtain ⟨gL, oL, rfl, hgL, hcl⟩ := hnL i (by have := HKL.out; omega)
                  have hgne : gL ≠ gu := by
                    intro h
                    subst h
                    rcases rowAt_of_owns HO15.out with ⟨h0, _⟩ | ⟨g', c', e1, hb', _⟩
                    · injection h0 with h0; cases h0
                    · injection e1 with e1 _ _; injection e1 with e1; injection e1 with e1 _; omega
                  obtain ⟨x, hx⟩ : ∃ x, x = L.getD i 0 := ⟨_, rfl⟩
                  rw [← hx] at hcl
                  have hcl2 : (w16.setCell ⟨gu, j + i, none⟩ (.int .u32 0)).cell? ⟨gL, oL + i, none⟩ = some (.int .u32 (x : Int)) := by
                    rw [World.cell?_setCell_other _ _ _ _ (by intro h; injection h with h; exact hgne h.symm)]; exact hcl
                  have hc2 : (w16.setCell ⟨gu, j + i, none⟩ (.int .u32 0)).cell? ⟨gu, j + i, none⟩ = some (.int .u32 0) := World.cell?_setCell_same' _ _ _ (by rw [hxo]; rfl)
                  have hfz2 : (w16.setCell ⟨gu, j + i, none⟩ (.int .u32 0)).frozen? ⟨gu, j + i, none⟩ = false := by rw [World.frozen?_setCell]; exact hfz
                  have HX3 := Lib.hid hx
                  clear hx hnL hcl
                  go_wp2_with fail
                  go_roundw
                  case rel =>
                    refine ⟨i + 1, by omega, by go_num, ?_, only_setCell (only_setCell GW.out (.inl rfl) _) (.inl rfl) _⟩
                    have h1 := (HSET.out 0).set (j + i) (.int .u32 (x : Int))
                    rw [nums_set, set_set_same, HX3.out, HSTEP.out] at h1
                    rw [HX3.out]
                    exact h1
                  case measure => simp [intOf] <;> omega
                · have hx0 : L.getD i 0 = 0 := getD_out (by have := HKL.out; omega)
                  have HX0 := Lib.hid hx0
                  clear hx0
                  go_wp2_with fail
                  go_roundw
                  case rel =>
                    refine ⟨i + 1, by omega, by go_num, ?_, only_setCell GW.out (.inl rfl) _⟩
                    have h1 := HSET.out 0
                    have h2 := HSTEP.out
                    rw [HX0.out] at h2
                    rw [h2] at h1
                    exact h1
                  case measure => simp [intOf] <;> omega
              · obtain rfl : i = p + 3 := by omega
                have hrq := (RQ.out.below HB15.out RQ.out.lt).kept GW.out (by intro h; injection h with h; omega)
                have hrv := (RV.out.below HB15.out RV.out.lt).kept GW.out (by intro h; injection h with h; omega)
                have hql : q.length = K := by have := HAT.out.2.2.1; have := HK.out; omega
                have hjq : j < K := by omega
                obtain ⟨qo, hqo⟩ : ∃ qo : Nat, w16.cell? ⟨gq, j, none⟩ = some (.int .u32 (qo : Int)) :=
                  ⟨_, by rw [hrq.cell (by rw [nums_length]; omega), nums_get _ _ _ (by omega)]⟩
                have hfz : w16.frozen? ⟨gq, j, none⟩ = false := hrq.frozen j
                have hds := div_step u uu q L (B * s) (p + 2) j (by have := HK.out; omega) (by rw [← HVV.out]; exact hVp) (by have := rep_lt vl _ RR5.out; rw [HVL.out] at this; omega) HAT.out (by rw [← HXX.out, ← HVV.out]; exact HRL.out)
                rw [← HXX.out, ← HVV.out, ← HDX.out] at hds
                have hds2 : DivAt u (ucp uu L j (p + 3)) (q.set j D) (B * s) (p + 2) j := by rw [← HVV.out]; exact hds
                have HDS := Lib.hid hds2
                have HRQ := Lib.hid hrq
                have HRV := Lib.hid hrv
                clear hrq hrv hql hds hds2
                go_wp2_with fail
                go_roundw
                case rel =>
                  refine ⟨j, ucp uu L j (p + 3), q.set j D, by omega, rfl, RU16.out.other (by show gu ≠ gq; omega) _, HRV.out.other (by show gv ≠ gq; omega) _, ?_, HDS.out, HBW.out.setCell (p := ⟨gq, j, none⟩) (by show w.heap.size ≤ gq; omega) _⟩
                  rw [← nums_set]
                  exact HRQ.out.set j _
                case measure => simp [intOf] <;> omega
        · obtain rfl : i = 0 := by omega
          have hend := div_end u uu q (B * s) (p + 2) HAT.out
          have hnu : Nums .u32 w7 (some ⟨gu, 0, none⟩) uu := fun e he => ⟨gu, 0, rfl, RU.out.lt, by rw [Nat.zero_add, RU.out.cell (by rw [nums_length]; exact he), nums_get _ _ _ he]⟩
          have hql : q.length = K := by have := HAT.out.2.2.1; have := HK.out; omega
          have hnq : ∀ W, Below w7.heap.size w7 W → Nums .u32 W (some ⟨gq, 0, none⟩) q := fun W hW e he => by
            have hr := RQ.out.below hW RQ.out.lt
            exact ⟨gq, 0, rfl, hr.lt, by rw [Nat.zero_add, hr.cell (by rw [nums_length]; exact he), nums_get _ _ _ he]⟩
          have htu := trim_any (some ⟨gu, 0, none⟩) (n + 1) cu uu w7 HUL.out (by omega) (by omega) HAT.out.2.1 hnu
          have HTU := Lib.hid htu
          have HNU := Lib.hid hnu
          have HNQ := Lib.hid hnq
          have HQL := Lib.hid hql
          have HEND := Lib.hid hend
          clear htu hnu hnq hql hend
          go_wp2_with fail
          refine HTU.out.mono ?_
          rintro e w' ⟨⟨k, hk, rfl, hrk⟩, rfl⟩
          have hsh := short_any (some ⟨gu, 0, none⟩) k cu s (uu.take k) w7 (by rw [List.length_take, HUL.out]; omega) (by omega) hs1 (by omega) hrk.1 (HNU.out.take k)
          rw [hrk.2.2] at hsh
          have HSH := Lib.hid hsh
          clear hrk hsh
          go_wp2_with fail
          refine HSH.out.mono ?_
          rintro e w8 ⟨v8, l8, rfl, ho8, hr8, hb8⟩
          have M8 := Lib.hid (MagAt.of_own ho8 hr8)
          have HB8 := Lib.hid hb8
          have htq := trim_any (some ⟨gq, 0, none⟩) K K q w8 HQL.out (by omega) (Nat.le_refl _) HAT.out.2.2.2.1 (HNQ.out w8 hb8)
          have HTQ := Lib.hid htq
          clear ho8 hr8 hb8 htq
          go_wp2_with fail
          refine HTQ.out.mono ?_
          rintro e w' ⟨⟨k3, hk3, rfl, hrk3⟩, rfl⟩
          have HR3 := Lib.hid hrk3
          clear hrk3
          go_wp2_with fail
          go_ret2
          have hun := unscale A B s hs1
          have e1 : val u = A * s := HV.out
          refine ⟨.slice (some ⟨gq, 0, none⟩) k3 K, v8, rfl, ⟨some ⟨gq, 0, none⟩, K, q.take k3, by rw [List.length_take, HQL.out]; congr 1; omega, by rw [List.length_take, HQL.out]; omega, (HNQ.out w8 HB8.out).take k3, ?_⟩, ?_, HB7.out.trans (HB8.out.mono HB7.out.size)⟩
          · have := HR3.out
            rw [HEND.out.2, e1, hun.1] at this
            exact this
          · have := M8.out
            rw [HEND.out.1, e1, hun.2] at this
            exact this

end Go.Proofs.YtijkefflpojmhaaDoor

namespace Go.Proofs.YtijkefflpojmhaaDoor
open Go.RowKit

theorem rdZ_pos {l : List UInt8} (h : l.head? ≠ some 45) (hc : CanN l) : rdZ l = some (dval (undig l) : Int) := by
  unfold rdZ; rw [if_neg h]
  unfold rdN; rw [if_pos ((rdN_test l).2 hc)]; rfl
theorem rdZ_neg {l : List UInt8} (h : l.head? = some 45) (hc : CanN l.tail) (h0 : l.tail.head? ≠ some 48) : ∃ z : Int, rdZ l = some z ∧ z < 0 ∧ z.natAbs = dval (undig l.tail) := by
  have e := txtN_undig _ hc
  unfold rdZ; rw [if_pos h]
  unfold rdN; rw [if_pos ((rdN_test l.tail).2 hc)]
  cases hd : dval (undig l.tail) with
  | zero =>
    rw [hd] at e
    exfalso; apply h0; rw [← e]; rfl
  | succ n => exact ⟨_, rfl, by omega, by omega⟩
theorem rdZ_no {l : List UInt8} (h : l.head? ≠ some 45) (hc : ¬ CanN l) : rdZ l = none := by
  unfold rdZ; rw [if_neg h, rdN_none hc]; rfl
theorem rdZ_nog {l : List UInt8} (h : l.head? = some 45) (hc : ¬ CanN l.tail) : rdZ l = none := by
  unfold rdZ; rw [if_pos h, rdN_none hc]
theorem rdZ_no0 {l : List UInt8} (h : l.head? = some 45) (h0 : l.tail.head? = some 48) : rdZ l = none := by
  unfold rdZ; rw [if_pos h]
  cases e : rdN l.tail with
  | none => rfl
  | some n =>
    cases n with
    | zero => rfl
    | succ n =>
      exfalso
      have e := rdN_some e
      have hh := canN_txtN (n + 1)
      rw [← e] at hh
      have h1 := hh.2.2 h0
      have h2 : l.tail = [48] := by
        match hl : l.tail, h1 with
        | [c], _ => rw [hl] at h0; simp at h0; rw [h0]
      have : txtN (n + 1) = txtN 0 := by rw [← e, h2]; rfl
      have := txtN_inj this
      omega
theorem undig_drop (l : List UInt8) (k : Nat) (c : UInt8) (h : l[k]? = some c) : undig (l.drop (k + 1)) ++ [c.toNat - 48] = undig (l.drop k) := by
  have hk : k < l.length := (List.getElem?_eq_some_iff.1 h).1
  rw [List.drop_eq_getElem_cons hk]
  have : l[k] = c := by rw [List.getElem?_eq_getElem hk] at h; injection h
  unfold undig
  rw [this]
  simp
theorem decN_undig {l : List UInt8} (h : CanN l) : decN (dval (undig l)) = undig l := by
  have := congrArg undig (txtN_undig l h)
  rwa [undig_txtN] at this

/-- What Digits hands back. -/
def DigPost (w : World) (l : List UInt8) (e : Ending) (w' : World) : Prop :=
  (∃ z a n c, rdZ l = some z ∧ e = .returned (.tuple #[.slice a n c, .bool (decide (z < 0)), .bool true]) ∧ (decN z.natAbs).length = n ∧ n ≤ c ∧ Nums .i64 w' a (decN z.natAbs) ∧ Below w.heap.size w w') ∨
  (rdZ l = none ∧ e = .returned (.tuple #[.slice none 0 0, .bool false, .bool false]) ∧ Below w.heap.size w w')
/-- The loop: the bytes behind place i have been taken. -/
def DgR (w : World) (t : ByteArray) (n : Nat) (o iv : Value) (wr : World) : Prop :=
  ∃ i : Nat, i ≤ n ∧ iv = .int .i64 ((i : Int) - 1) ∧ wr.ownsRow w.heap.size 3 1 o (n - i) (nums .i64 (undig (t.data.toList.drop i))) ∧ (∀ c ∈ t.data.toList.drop i, 48 ≤ c.toNat ∧ c.toNat ≤ 57) ∧ Below w.heap.size w wr
theorem dgR_start (w : World) (t : ByteArray) (n : Nat) (h : t.size = n) : DgR w t n (.slice none 0 0) (.int .i64 ((n : Int) - 1)) w := by
  refine ⟨n, Nat.le_refl _, rfl, ?_, ?_, Below.refl _ _⟩
  · rw [List.drop_eq_nil_of_le (by rw [data_len]; omega), Nat.sub_self]
    exact World.ownsRow_nil _ _ _ _
  · rw [List.drop_eq_nil_of_le (by rw [data_len]; omega)]; simp
theorem data_drop (s : ByteArray) (k : Nat) (h : k < s.size) : s.data.toList.drop k = s[k] :: s.data.toList.drop (k + 1) := by
  rw [List.drop_eq_getElem_cons (by rw [data_len]; exact h)]
  congr 1

end Go.Proofs.YtijkefflpojmhaaDoor

namespace Go.Proofs.YtijkefflpojmhaaDoor
open Go.RowKit

theorem txtZ_neg {n : Nat} (h : 0 < n) : txtZ (-(n : Int)) = 45 :: txtN n := by
  unfold txtZ; rw [if_pos (by omega), Int.natAbs_neg, Int.natAbs_natCast]
theorem txtZ_pos (n : Nat) : txtZ (n : Int) = txtN n := by
  unfold txtZ; rw [if_neg (by omega), Int.natAbs_natCast]
theorem top_dig (l : List Nat) (k : Nat) (hk : k + 1 ≤ l.length) (d : ∀ x ∈ l, x < 10) (h : dval (l.take (k + 1)) = dval l) (h0 : l.getD k 0 ≠ 0) : decN (dval l) = l.take (k + 1) ∧ 0 < dval l := by
  have hD : Dig (l.take (k + 1)) := by
    refine ⟨fun x hx => d x (List.mem_of_mem_take hx), ?_⟩
    rw [List.take_add_one, List.getElem?_eq_getElem (by omega)]
    simp only [Option.toList_some, List.getLast?_concat]
    rw [List.getD_eq_getElem?_getD, List.getElem?_eq_getElem (by omega)] at h0
    simpa using h0
  have e := decL_dval _ hD
  rw [h] at e
  have hne : dval l ≠ 0 := by
    intro hz
    rw [hz, decL_zero] at e
    have := congrArg List.length e
    rw [List.length_take] at this
    simp at this; omega
  exact ⟨by unfold decN; rw [if_neg hne, e], by omega⟩
/-- The bytes that Text lays: the sign, and the digits from the top down to place i. -/
def txtP (neg : Bool) (l : List Nat) (i : Nat) : List UInt8 := (if neg then [45] else []) ++ (l.drop i).reverse.map dgB
theorem txtP_start (neg : Bool) (l : List Nat) : txtP neg l l.length = if neg then [45] else [] := by simp [txtP]
theorem txtP_step (neg : Bool) (l : List Nat) (i : Nat) (h : i < l.length) : txtP neg l (i + 1) ++ [dgB (l.getD i 0)] = txtP neg l i := by
  unfold txtP
  have : l.drop i = l.getD i 0 :: l.drop (i + 1) := by
    rw [List.drop_eq_getElem_cons h, List.getD_eq_getElem?_getD, List.getElem?_eq_getElem h]; rfl
  rw [this]; simp
theorem txtP_end (neg : Bool) (V : Nat) (h : 0 < V) : txtP neg (decN V) 0 = txtZ (if neg then -(V : Int) else (V : Int)) := by
  unfold txtP
  cases neg
  · simp [txtZ_pos, txtN]
  · simp [txtZ_neg h, txtN]
theorem txtP_len (neg : Bool) (l : List Nat) (i : Nat) (h : i ≤ l.length) : (txtP neg l i).length ≤ l.length + 1 - i := by
  unfold txtP; cases neg <;> simp <;> omega

theorem infoU8 : (Tryd.prog.info? 5).map (fun i => (i.zero, i.size, i.bytes)) = some (some (.int .u8 0), 1, 1) := by kernel_rfl
/-- Bytes as cells. -/
def bytesV (l : List UInt8) : List Value := l.map fun b : UInt8 => Value.int .u8 (b.toNat : Int)
theorem bytesV_length (l : List UInt8) : (bytesV l).length = l.length := by simp [bytesV]
theorem bytesV_snoc (l : List UInt8) (b : UInt8) : bytesV l ++ [.int .u8 (b.toNat : Int)] = bytesV (l ++ [b]) := by simp [bytesV]
theorem bytesV_get (l : List UInt8) (i : Nat) (h : i < l.length) : (bytesV l)[i]? = some (.int .u8 (l[i].toNat : Int)) := by
  simp [bytesV, List.getElem?_eq_getElem h]
/-- string(b) of bytes that the call owns. -/
theorem conv_own {w : World} {B : Nat} {v : Value} {n : Nat} {l : List UInt8} (h : w.ownsRow B 5 1 v n (bytesV l)) (dst : TypeId) (hd : Tryd.prog.underlying dst = some .string) :
    (convert 43 dst v).run Tryd.prog w = .ok (.string ⟨l.toArray⟩) w := by
  have hn : l.length = n := by have := h.1; rw [bytesV_length] at this; omega
  rcases rowAt_of_owns h with ⟨rfl, hz, _⟩ | ⟨g, c, rfl, _, hc, _, _, hr⟩
  · rw [run_convert_bytes_nil w 43 5 Tryd.underlying43 Tryd.underlying5 0 0 dst hd]
    rw [List.eq_nil_of_length_eq_zero (hn.trans hz)]; rfl
  · have := run_convert_bytes_back (P := Tryd.prog) w 43 dst 5 ⟨g, 0, none⟩ c l Tryd.underlying43 Tryd.underlying5 hd (fun j hj => by
      rw [add_plain, Nat.zero_add, hr.cell (by rw [bytesV_length]; exact hj), bytesV_get l j hj])
    rw [hn] at this
    exact this

/-- A text is handed back. -/
def StrPost (w : World) (l : List UInt8) (e : Ending) (w' : World) : Prop := e = .returned (.string ⟨l.toArray⟩) ∧ Below w.heap.size w w'
def TrimT (la : List Nat) (n : Nat) (v : Value) : Prop := ∃ k : Nat, k ≤ n ∧ v = .int .i64 (k : Int) ∧ dval (la.take k) = dval la
def TxtR (w : World) (neg : Bool) (D : List Nat) (o iv : Value) (wr : World) : Prop :=
  ∃ i : Nat, i ≤ D.length ∧ iv = .int .i64 ((i : Int) - 1) ∧ wr.ownsRow w.heap.size 5 1 o (txtP neg D i).length (bytesV (txtP neg D i)) ∧ Below w.heap.size w wr

end Go.Proofs.YtijkefflpojmhaaDoor

namespace Go.Proofs.YtijkefflpojmhaaDoor
open Go.RowKit

/-- A list of bytes while it is turned round: i have been swapped. -/
def revAt (l : List UInt8) (i : Nat) : List UInt8 := (List.range l.length).map fun k => if k < i ∨ l.length ≤ k + i then l.getD (l.length - 1 - k) 0 else l.getD k 0
theorem revAt_length (l : List UInt8) (i : Nat) : (revAt l i).length = l.length := by simp [revAt]
theorem revAt_get (l : List UInt8) (i k : Nat) (h : k < l.length) : (revAt l i)[k]? = some (if k < i ∨ l.length ≤ k + i then l.getD (l.length - 1 - k) 0 else l.getD k 0) := by
  simp [revAt, h]
theorem revAt_start (l : List UInt8) : revAt l 0 = l := by
  apply List.ext_getElem?
  intro k
  by_cases h : k < l.length
  · rw [revAt_get l 0 k h, if_neg (by omega), List.getD_eq_getElem?_getD, List.getElem?_eq_getElem h]; rfl
  · rw [List.getElem?_eq_none (by rw [revAt_length]; omega), List.getElem?_eq_none (by omega)]
theorem revAt_end (l : List UInt8) (i : Nat) (hi : l.length ≤ i + i + 1) : revAt l i = l.reverse := by
  apply List.ext_getElem?
  intro k
  by_cases h : k < l.length
  · rw [revAt_get l i k h, List.getElem?_reverse h]
    by_cases hk : k < i ∨ l.length ≤ k + i
    · rw [if_pos hk, List.getD_eq_getElem?_getD, List.getElem?_eq_getElem (by omega)]; rfl
    · rw [if_neg hk, List.getD_eq_getElem?_getD, show l.length - 1 - k = k by omega, List.getElem?_eq_getElem h]; rfl
  · rw [List.getElem?_eq_none (by rw [revAt_length]; omega), List.getElem?_eq_none (by rw [List.length_reverse]; omega)]
theorem revAt_step (l : List UInt8) (i : Nat) (hi : i + i + 1 < l.length) : ((revAt l i).set i (l.getD (l.length - 1 - i) 0)).set (l.length - 1 - i) (l.getD i 0) = revAt l (i + 1) := by
  apply List.ext_getElem?
  intro k
  by_cases h : k < l.length
  · rw [revAt_get l (i + 1) k h, List.getElem?_set, List.getElem?_set, List.length_set, revAt_length]
    by_cases h1 : l.length - 1 - i = k
    · rw [if_pos h1, if_pos (by omega), if_pos (by omega), show l.length - 1 - k = i by omega]
    · rw [if_neg h1]
      by_cases h2 : i = k
      · subst h2
        rw [if_pos rfl, if_pos (by omega), if_pos (by omega)]
      · rw [if_neg h2, revAt_get l i k h]
        by_cases h3 : k < i ∨ l.length ≤ k + i
        · rw [if_pos h3, if_pos (by omega)]
        · rw [if_neg h3, if_neg (by omega)]
  · rw [List.getElem?_eq_none (by simp [revAt_length]; omega), List.getElem?_eq_none (by rw [revAt_length]; omega)]
theorem revAt_mid (l : List UInt8) (i : Nat) (hi : i + i + 1 < l.length) : (revAt l i)[i]? = some (l.getD i 0) ∧ (revAt l i)[l.length - 1 - i]? = some (l.getD (l.length - 1 - i) 0) := by
  rw [revAt_get _ _ _ (by omega), revAt_get _ _ _ (by omega), if_neg (by omega), if_neg (by omega)]
  exact ⟨rfl, rfl⟩
/-- The digits that write lays: k groups. -/
def WrAt (l ds : List Nat) (k : Nat) : Prop := ds.length = 9 * k ∧ (∀ x ∈ ds, x < 10) ∧ dval ds = val (l.take k)
/-- .. and i digits of the next group; t is left of it. -/
def WrIn (l ds : List Nat) (k i t : Nat) : Prop := ds.length = 9 * k + i ∧ (∀ x ∈ ds, x < 10) ∧ t < 10 ^ (9 - i) ∧ dval ds + 10 ^ (9 * k + i) * t = val (l.take (k + 1))
theorem wr_start (l : List Nat) : WrAt l [] 0 := ⟨rfl, by simp, by simp [dval, val]⟩
theorem Bs_pow (k : Nat) : Bs ^ k = 10 ^ (9 * k) := by rw [Bs_eq, show 1000000000 = 10 ^ 9 by rfl, ← Nat.pow_mul]
theorem wr_in (l ds : List Nat) (k : Nat) (hl : ∀ x ∈ l, x < Bs) (h : WrAt l ds k) : WrIn l ds k 0 (l.getD k 0) := by
  obtain ⟨h1, h2, h3⟩ := h
  refine ⟨h1, h2, ?_, ?_⟩
  · have := getD_lt l k hl; rw [Bs_eq] at this; exact this
  · rw [h3, val_take, Bs_pow]; rfl
theorem wr_step (l ds : List Nat) (k i t : Nat) (hi : i < 9) (h : WrIn l ds k i t) : WrIn l (ds ++ [t % 10]) k (i + 1) (t / 10) := by
  obtain ⟨h1, h2, h3, h4⟩ := h
  refine ⟨by simp [h1]; omega, ?_, ?_, ?_⟩
  · intro x hx
    rcases List.mem_append.1 hx with hx | hx
    · exact h2 x hx
    · rw [List.mem_singleton.1 hx]; omega
  · rw [show 9 - i = (9 - (i + 1)) + 1 by omega, Nat.pow_succ] at h3; omega
  · rw [dval_snoc, h1, ← h4, ← Nat.add_assoc, Nat.pow_succ]
    have := Nat.div_add_mod t 10
    generalize 10 ^ (9 * k + i) = P at *
    generalize t / 10 = q at *
    generalize t % 10 = r at *
    generalize dval ds = D at *
    grind
theorem wr_out (l ds : List Nat) (k t : Nat) (h : WrIn l ds k 9 t) : WrAt l ds (k + 1) := by
  obtain ⟨h1, h2, h3, h4⟩ := h
  have : t = 0 := by simpa using h3
  subst this
  exact ⟨by omega, h2, by simpa using h4⟩

theorem bytesV_set (l : List UInt8) (i : Nat) (b : UInt8) : (bytesV l).set i (.int .u8 (b.toNat : Int)) = bytesV (l.set i b) := by simp [bytesV, List.map_set]
theorem bytesV_at (l : List UInt8) (i : Nat) (b : UInt8) (h : l[i]? = some b) : (bytesV l)[i]? = some (.int .u8 (b.toNat : Int)) := by
  unfold bytesV; rw [List.getElem?_map, h]; rfl

/-- The loop of Reverse. -/
def RevR (w : World) (g n : Nat) (l : List UInt8) (iv jv : Value) (wr : World) : Prop :=
  ∃ i : Nat, i + i ≤ n ∧ iv = .int .i64 i ∧ jv = .int .i64 ((n : Int) - 1 - i) ∧ RowAt wr g 5 (bytesV (revAt l i)) ∧ w.grownBy wr (some g)
def RevPost (w : World) (g : Nat) (l : List UInt8) (e : Ending) (w' : World) : Prop :=
  (∃ v, e = .returned v) ∧ RowAt w' g 5 (bytesV l.reverse) ∧ w.grownBy w' (some g)

set_option maxHeartbeats 1000000 in
set_option maxRecDepth 100000 in
theorem reverse_any (g n c : Nat) (l : List UInt8) (w : World) (hl : l.length = n) (hn : n ≤ 1000000) (h : RowAt w g 5 (bytesV l)) :
    Calls Tryd.prog 97 #[.slice (some ⟨g, 0, none⟩) n c] w (RevPost w g l) := by
  have hst : RevR w g n l (.int .i64 0) (.int .i64 ((n : Int) - 1)) w := ⟨0, Nat.zero_le _, rfl, by simp, by rw [revAt_start]; exact h, only_refl _ _⟩
  have HST := Lib.hid hst
  have HL := Lib.hid hl
  clear h hl hst
  go_enter Tryd.func97, Tryd.ntmps97
  go_wp2_with fail
  go_loopw [2, 3] (RevR w g n l) (fun i _ _ => n - (intOf i).toNat)
  case atStart => exact HST.out
  case round =>
    obtain ⟨w1, rfl⟩ : ∃ w1 : World, w1 = wr := ⟨_, rfl⟩
    obtain ⟨i, hin, rfl, rfl, hr, hg⟩ := hrel
    by_cases hlt : i + i + 1 < n
    · obtain ⟨k, hk⟩ : ∃ k : Nat, k = n - 1 - i := ⟨_, rfl⟩
      have hkI : (n : Int) - 1 - (i : Int) = (k : Int) := by omega
      have hmid := revAt_mid l i (by rw [HL.out]; exact hlt)
      have hstp := revAt_step l i (by rw [HL.out]; exact hlt)
      rw [HL.out, ← hk] at hmid hstp
      obtain ⟨x, hx⟩ : ∃ x, x = l.getD i 0 := ⟨_, rfl⟩
      obtain ⟨y, hy⟩ : ∃ y, y = l.getD k 0 := ⟨_, rfl⟩
      rw [← hx, ← hy] at hmid hstp
      have hlen : (bytesV (revAt l i)).length = n := by rw [bytesV_length, revAt_length]; exact HL.out
      have hki : i < k := by omega
      have hkn : k < n := by omega
      have c1 : w1.cell? ⟨g, i, none⟩ = some (.int .u8 (x.toNat : Int)) := by rw [hr.cell (by omega)]; exact bytesV_at _ _ _ hmid.1
      have c2 : w1.cell? ⟨g, k, none⟩ = some (.int .u8 (y.toNat : Int)) := by rw [hr.cell (by omega)]; exact bytesV_at _ _ _ hmid.2
      have f1 : ∀ e, w1.frozen? ⟨g, e, none⟩ = false := fun e => hr.frozen e
      have HR := Lib.hid hr
      have HG := Lib.hid hg
      have HS := Lib.hid hstp
      have hk1 : n - 1 - i ≤ k := by omega
      rw [hkI]
      have hkI2 : (k : Int) = (n : Int) - 1 - i := hkI.symm
      have HKI := Lib.hid hkI2
      clear hr hg hstp hmid hk hx hy hlen hkI hkI2
      go_wp2_with fail
      go_region
      all_goals
        go_wp2_with fail
        go_roundw
        case measure => simp [intOf] <;> omega
        case rel =>
          refine ⟨i + 1, by omega, by go_num, by rw [HKI.out]; congr 1; omega, ?_, ?_⟩
          · have h1 := (HR.out.set i (.int .u8 (y.toNat : Int))).set k (.int .u8 (x.toNat : Int))
            rw [bytesV_set, bytesV_set, HS.out] at h1
            exact h1
          · exact only_drewN (only_setCell (only_setCell HG.out (.inl rfl) _) (.inl rfl) _) 1
    · have he := revAt_end l i (by rw [HL.out]; omega)
      rw [he] at hr
      have HR := Lib.hid hr
      have HG := Lib.hid hg
      clear hr hg he
      have hij : (n : Int) - 1 - (i : Int) ≤ i := by omega
      go_wp2_with fail
      go_end0
      exact ⟨⟨_, rfl⟩, HR.out, HG.out⟩

end Go.Proofs.YtijkefflpojmhaaDoor

namespace Go.Proofs.YtijkefflpojmhaaDoor
open Go.RowKit

/-- What write hands back. -/
def WritePost (w : World) (z : Int) (e : Ending) (w' : World) : Prop :=
  ((bigZ z = true ∧ e = .returned (.tuple #[.string ByteArray.empty, .int .i64 14])) ∨ (bigZ z = false ∧ e = .returned (.tuple #[.string ⟨(txtZ z).toArray⟩, .int .i64 0]))) ∧ Below w.heap.size w w'
def bytesD (ds : List Nat) : List Value := bytesV (ds.map dgB)
theorem bytesD_length (ds : List Nat) : (bytesD ds).length = ds.length := by simp [bytesD, bytesV]
theorem bytesD_snoc (ds : List Nat) (d : Nat) (h : d < 10) : bytesD ds ++ [.int .u8 ((48 : Int) + (d : Int))] = bytesD (ds ++ [d]) := by
  have : ((dgB d).toNat : Int) = (48 : Int) + (d : Int) := by rw [dgB_toNat h]; omega
  unfold bytesD bytesV
  simp [this]
theorem bytesD_get (ds : List Nat) (i : Nat) (hi : i < ds.length) (h : ∀ x ∈ ds, x < 10) : (bytesD ds)[i]? = some (.int .u8 ((48 : Int) + ((ds.getD i 0 : Nat) : Int))) := by
  unfold bytesD bytesV
  have h1 : ds.getD i 0 < 10 := digD_lt ds i h
  have : ((dgB (ds.getD i 0)).toNat : Int) = (48 : Int) + ((ds.getD i 0 : Nat) : Int) := by rw [dgB_toNat h1]; omega
  rw [← this, List.getD_eq_getElem?_getD, List.getElem?_eq_getElem hi]
  simp [hi]
theorem bytesD_take (ds : List Nat) (k : Nat) : (bytesD ds).take k = bytesD (ds.take k) := by simp [bytesD, bytesV, List.map_take]

def WrO (w W0 : World) (l : List Nat) (n : Nat) (bv iv : Value) (wr : World) : Prop :=
  ∃ (k : Nat) (ds : List Nat), k ≤ n ∧ iv = .int .i64 k ∧ wr.ownsRow W0.heap.size 5 1 bv ds.length (bytesD ds) ∧ WrAt l ds k ∧ Below W0.heap.size W0 wr ∧ Below w.heap.size w wr
def WrJ (w W0 : World) (l : List Nat) (k : Nat) (bv tv jv : Value) (wr : World) : Prop :=
  ∃ (i t : Nat) (ds : List Nat), i ≤ 9 ∧ jv = .int .i64 i ∧ tv = .int .u32 t ∧ t < 1000000000 ∧ wr.ownsRow W0.heap.size 5 1 bv ds.length (bytesD ds) ∧ WrIn l ds k i t ∧ Below W0.heap.size W0 wr ∧ Below w.heap.size w wr
def WrT (g c : Nat) (ds : List Nat) (bv : Value) : Prop := ∃ k : Nat, 1 ≤ k ∧ k ≤ ds.length ∧ bv = .slice (some ⟨g, 0, none⟩) k c ∧ dval (ds.take k) = dval ds

/-- The bytes, the last one first. -/
def WrC (w : World) (z : Int) (v : Value) (wx : World) : Prop :=
  ∃ g c bs, v = .slice (some ⟨g, 0, none⟩) (bs : List UInt8).length c ∧ RowAt wx g 5 (bytesV bs) ∧ bs.reverse = txtZ z ∧ bs.length ≤ 460000 ∧ w.heap.size ≤ g ∧ Below w.heap.size w wx
theorem conv_row {w : World} {g c : Nat} {l : List UInt8} (h : RowAt w g 5 (bytesV l)) (dst : TypeId) (hd : Tryd.prog.underlying dst = some .string) :
    (convert 43 dst (.slice (some ⟨g, 0, none⟩) l.length c)).run Tryd.prog w = .ok (.string ⟨l.toArray⟩) w :=
  run_convert_bytes_back (P := Tryd.prog) w 43 dst 5 ⟨g, 0, none⟩ c l Tryd.underlying43 Tryd.underlying5 hd (fun j hj => by
    rw [add_plain, Nat.zero_add, h.cell (by rw [bytesV_length]; exact hj), bytesV_get l j hj])

set_option maxHeartbeats 2000000 in
set_option maxRecDepth 100000 in
theorem write_any (neg : Bool) (a : Option Addr) (n c N : Nat) (l : List Nat) (w : World) (hl : l.length = n) (hn : n ≤ 50000) (hr : Rep l N) (ha : Nums .u32 w a l) :
    Calls Tryd.prog 87 #[.agg #[.bool neg, .slice a n c]] w (WritePost w (if neg = true then -(N : Int) else (N : Int))) := by
  obtain ⟨i0, hi, hz0, hz1, hz2⟩ := info_parts infoU8
  obtain ⟨z, hz⟩ : ∃ z, z = (if neg = true then -(N : Int) else (N : Int)) := ⟨_, rfl⟩
  rw [← hz]
  have HZ := Lib.hid hz
  have HL := Lib.hid hl
  have HR := Lib.hid hr
  have HA := Lib.hid ha
  clear hz hl hr ha
  by_cases h0 : n < 1
  · have hz0' : z = 0 := by
      have hN : N = 0 := by
        have h1 := HR.out.2.2
        rw [List.eq_nil_of_length_eq_zero (l := l) (by have := HL.out; omega)] at h1
        simpa [val] using h1.symm
      rw [HZ.out, hN]; cases neg <;> rfl
    have t1 : ((n : Int) == 0) = true := by rw [beq_iff_eq]; omega
    have hzb : bigZ z = false := by rw [hz0']; rfl
    have HZB := Lib.hid hzb
    have HZ0 := Lib.hid hz0'
    clear hz0' hzb
    go_enter Tryd.func87, Tryd.ntmps87
    go_wp2_with fail
    go_ret2
    exact ⟨.inr ⟨HZB.out, by rw [HZ0.out]; rfl⟩, (Below.refl _ _).alloc (Nat.le_refl _) _⟩
  · have t1 : ((n : Int) == 0) = false := by rw [beq_eq_false_iff_ne]; omega
    obtain ⟨W0, hW0⟩ : ∃ W0, W0 = w.alloc (.cells #[.bool neg, .slice a n c] 130) := ⟨_, rfl⟩
    have hbx := rowAt_alloc (w := w) (c := #[.bool neg, .slice a n c]) (t := 130) rfl rfl
    rw [← hW0] at hbx
    have hsz : w.heap.size < W0.heap.size := hbx.lt
    have hb0 : Below w.heap.size w W0 := by rw [hW0]; exact (Below.refl _ _).alloc (Nat.le_refl _) _
    have hNp : 0 < N := by
      have h1 := HR.out
      rw [← h1.2.2]
      refine val_pos l h1.2.1 (fun h => ?_)
      have := HL.out
      rw [h] at this; simp at this; omega
    have hst : WrO w W0 l n (.slice none 0 0) (.int .i64 0) W0 := ⟨0, [], Nat.zero_le _, rfl, World.ownsRow_nil _ _ _ _, wr_start l, Below.refl _ _, hb0⟩
    have HST := Lib.hid hst
    have HBX := Lib.hid hbx
    have HB0 := Lib.hid hb0
    have HW0 := Lib.hid hW0
    have HNP := Lib.hid hNp
    clear hst hbx hb0 hW0 hNp
    go_enter Tryd.func87, Tryd.ntmps87
    go_wp2_with fail
    rw [← HW0.out]
    go_loopw [4, 14] (WrO w W0 l n) (fun _ i _ => n - (intOf i).toNat)
    case atStart => exact HST.out
    case round =>
      obtain ⟨w1, rfl⟩ : ∃ w1 : World, w1 = wr := ⟨_, rfl⟩
      obtain ⟨k, ds, hkn, rfl, ho, hat, hb1, hb2⟩ := hrel
      have HO := Lib.hid ho
      have HT := Lib.hid hat
      have HB1 := Lib.hid hb1
      have HB2 := Lib.hid hb2
      clear ho hat hb1 hb2 HST
      by_cases hlt : k < n
      · obtain ⟨g, og, rfl, hg, hc⟩ := HA.out.below HB2.out k (by have := HL.out; omega)
        obtain ⟨x, hx⟩ : ∃ x, x = l.getD k 0 := ⟨_, rfl⟩
        rw [← hx] at hc
        have hxb : x < 1000000000 := by rw [hx]; exact getD_lt l k HR.out.1
        have hst : WrJ w W0 l k u4 (.int .u32 x) (.int .i64 0) w1 := ⟨0, x, ds, by omega, rfl, rfl, hxb, HO.out, by rw [hx]; exact wr_in l ds k HR.out.1 HT.out, HB1.out, HB2.out⟩
        have HST2 := Lib.hid hst
        clear hst hx HO HT
        go_wp2_with fail
        go_loopw [4, 6, 18] (WrJ w W0 l k) (fun _ _ j _ => 9 - (intOf j).toNat)
        case atStart => exact HST2.out
        case round =>
          obtain ⟨w2, rfl⟩ : ∃ w2 : World, w2 = wr := ⟨_, rfl⟩
          obtain ⟨i, t, ds, hi9, rfl, rfl, htb, ho, hat, hb1, hb2⟩ := hrel
          have HO := Lib.hid ho
          have HT := Lib.hid hat
          have HB3 := Lib.hid hb1
          have HB4 := Lib.hid hb2
          have hdl : ds.length ≤ 450009 := by have := hat.1; omega
          clear ho hat hb1 hb2 HST2
          by_cases hlt2 : i < 9
          · have hstp := wr_step l ds k i t hlt2 HT.out
            obtain ⟨d, hd⟩ : ∃ d, d = t % 10 := ⟨_, rfl⟩
            obtain ⟨q, hq⟩ : ∃ q, q = t / 10 := ⟨_, rfl⟩
            rw [← hd, ← hq] at hstp
            have hdI : (t : Int) % 10 = (d : Int) := by omega
            have hqI : (t : Int) / 10 = (q : Int) := by omega
            have hdb : d < 10 := by omega
            have hqb : q < 1000000000 := by omega
            have HSTP := Lib.hid hstp
            have HDI := Lib.hid hdI
            have HQI := Lib.hid hqI
            obtain ⟨m, hm⟩ : ∃ m, m = ds.length := ⟨_, rfl⟩
            have HO' := HO.out
            rw [← hm] at HO' hdl
            have HO2 := Lib.hid HO'
            have HM := Lib.hid hm
            clear hstp hd hq hqI HO' HO hm
            go_wp2_with (at_builtin; refine wpList_append1 _ rfl (.tmp 20) (.tmp 25) 43 rfl W0.heap.size 5 i0 (.int .u8 0) 1 Tryd.underlying43 hi hz0 hz1 hz2 rfl _ _ _ rfl (HO2.out.alloc _) ⟨w2.heap.size, 0, none⟩ 1 (.int .u8 ((48 : Int) + (d : Int))) rfl ?c1 rfl ?c3 ?c4 ?c5 ?_)
            case c1 => simp
            case c3 => unfold maxLen; omega
            case c4 => omega
            case c5 => have := HB3.out.size; simp; omega
            intro v3 w3 ho3 hg3 hne3 hpl3
            have n3 : Below W0.heap.size W0 w3 := (HB3.out.alloc HB3.out.size _).grown hg3 (by have := HB3.out.size; simp; omega) (fun k hk => (HO2.out.lt k hk).1)
            have n4 : Below w.heap.size w w3 := (HB4.out.alloc HB4.out.size _).grown hg3 (by have := HB4.out.size; simp; omega) (fun k hk => by have := (HO2.out.lt k hk).1; omega)
            rw [bytesD_snoc ds d hdb] at ho3
            have HO3 := Lib.hid ho3
            have N3 := Lib.hid n3
            have N4 := Lib.hid n4
            clear ho3 hg3 hne3 hpl3 n3 n4 hdI
            go_wp2_with fail
            go_roundw
            case rel => exact ⟨i + 1, q, ds ++ [d], by omega, by go_num, by rw [HQI.out], by omega, by rw [List.length_append, ← HM.out]; exact HO3.out, HSTP.out, N3.out, N4.out⟩
            case measure => simp [intOf] <;> omega
          · obtain rfl : i = 9 := by omega
            have hout := wr_out l ds k t HT.out
            have HOUT := Lib.hid hout
            clear hout
            go_wp2_with fail
            go_roundw
            case rel => exact ⟨k + 1, ds, by omega, by go_num, HO.out, HOUT.out, HB3.out, HB4.out⟩
            case measure => simp [intOf] <;> omega
      · obtain rfl : k = n := by omega
        have hdv : dval ds = N := by rw [HT.out.2.2, List.take_of_length_le (by have := HL.out; omega)]; exact HR.out.2.2
        have hdl : ds.length = 9 * k := HT.out.1
        have hd10 := HT.out.2.1
        rcases rowAt_of_owns HO.out with ⟨_, hz, _⟩ | ⟨g, cb, rfl, hg, hcb, hcm, _, hrow⟩
        · omega
        obtain ⟨m, hm⟩ : ∃ m, m = ds.length := ⟨_, rfl⟩
        rw [← hm] at hdl
        have HO' := HO.out
        rw [← hm] at HO' hcb ⊢
        have HO2 := Lib.hid HO'
        have HROW := Lib.hid hrow
        have HDV := Lib.hid hdv
        have HD10 := Lib.hid hd10
        have HM := Lib.hid hm
        have hm1 : 1 ≤ m := by omega
        have hm2 : m ≤ 450000 := by omega
        clear HO HO' hrow hdv hd10 hdl hm
        go_wp2_with fail
        go_loop [4] (WrT g cb ds) (fun v => match v with | .slice _ k _ => k | _ => 0)
        case atStart => exact ⟨m, hm1, by rw [HM.out]; omega, rfl, by rw [HM.out, List.take_of_length_le (Nat.le_refl _)]⟩
        case round =>
          obtain ⟨e, he1, he2, rfl, hv⟩ := hrel
          rw [← HM.out] at he2
          obtain ⟨j, rfl⟩ : ∃ j, e = j + 1 := ⟨e - 1, by omega⟩
          have HV := Lib.hid hv
          have hce : w1.cell? ⟨g, j, none⟩ = some (.int .u8 ((48 : Int) + ((ds.getD j 0 : Nat) : Int))) := by
            rw [HROW.out.cell (by rw [bytesD_length, ← HM.out]; omega)]
            exact bytesD_get ds j (by rw [← HM.out]; omega) HD10.out
          obtain ⟨y, hy⟩ : ∃ y, y = ds.getD j 0 := ⟨_, rfl⟩
          rw [← hy] at hce
          have hyb : y < 10 := by rw [hy]; exact digD_lt ds j HD10.out
          have HY := Lib.hid hy
          clear hv hy
          by_cases hy0 : y < 1
          · have hst := dtrim_step ds j HV.out (by rw [← HY.out]; omega)
            have t2 : (((48 : Int) + (y : Int)) == 48) = true := by rw [beq_iff_eq]; omega
            have hj1 : 1 ≤ j := by
              rcases Nat.eq_zero_or_pos j with h | h
              · exfalso
                rw [h] at hst
                have := HNP.out
                rw [HDV.out] at hst
                simp [dval] at hst; omega
              · exact h
            have HSTP := Lib.hid hst
            clear hst
            go_wp2_with fail
            go_round
            case rel => exact ⟨j, hj1, by rw [← HM.out]; omega, rfl, HSTP.out⟩
            case measure => simp
          · have t2 : (((48 : Int) + (y : Int)) == 48) = false := by rw [beq_eq_false_iff_ne]; omega
            have htop := (top_dig ds j (by rw [← HM.out]; omega) HD10.out HV.out (by rw [← HY.out]; omega)).1
            rw [HDV.out] at htop
            have hlen : (decN N).length = j + 1 := by rw [htop, List.length_take, ← HM.out]; omega
            have hbz : bigZ z = decide (1000 < j + 1) := by
              unfold bigZ
              rw [HZ.out]
              cases neg
              · simp [hlen]
              · simp [hlen]
            have HTOP := Lib.hid htop
            have HBZ := Lib.hid hbz
            clear htop hlen hbz
            by_cases hbig : 1000 < j + 1
            · have e : bigZ z = true := by rw [HBZ.out]; simpa using hbig
              have E := Lib.hid e
              have t3 : decide ((1000 : Int) < (j : Int) + 1) = true := by simp; omega
              clear e
              go_wp2_with fail
              go_ret2
              exact ⟨.inl ⟨E.out, rfl⟩, HB2.out⟩
            · have e : bigZ z = false := by rw [HBZ.out]; simpa using hbig
              have E := Lib.hid e
              have t3 : decide ((1000 : Int) < (j : Int) + 1) = false := by simp; omega
              have hneg : w1.cell? ⟨w.heap.size, 0, none⟩ = some (.bool neg) := (HB1.out.cell (p := ⟨w.heap.size, 0, none⟩) hsz).trans (HBX.out.cell (i := 0) (by simp))
              have hown := ownsRow_take HO2.out (show j + 1 ≤ m by omega)
              rw [bytesD_take, ← HTOP.out] at hown
              have HOWN := Lib.hid hown
              clear e hown
              go_upto_if 47 with (fail)
              go_cut [4] (fun v wx => WrC w z v wx)
              case first => as_aux_lemma =>
                have hjl : (decN N).length = j + 1 := by rw [HTOP.out, List.length_take, ← HM.out]; omega
                cases neg with
                | false =>
                  have hfin : WrC w z (.slice (some ⟨g, 0, none⟩) (j + 1) cb) w1 := by
                    refine ⟨g, cb, (decN N).map dgB, by rw [List.length_map, hjl], ?_, ?_, by rw [List.length_map, hjl]; omega, by omega, HB2.out⟩
                    · rcases rowAt_of_owns HOWN.out with ⟨h, _⟩ | ⟨g', c', h, _, _, _, _, hr⟩
                      · injection h with h; cases h
                      · injection h with h; injection h with h; injection h with h
                        subst h; exact hr
                    · rw [HZ.out]; simp [txtZ_pos, txtN]
                  have HF := Lib.hid hfin
                  clear hfin hjl
                  go_wp2_with fail
                  go_meet
                  exact HF.out
                | true =>
                  go_wp2_with (at_builtin; refine wpList_append1 _ rfl (.tmp 48) (.tmp 49) 43 rfl W0.heap.size 5 i0 (.int .u8 0) 1 Tryd.underlying43 hi hz0 hz1 hz2 rfl _ _ _ rfl (HOWN.out.alloc _) ⟨w1.heap.size, 0, none⟩ 1 (.int .u8 45) rfl ?d1 rfl ?d3 ?d4 ?d5 ?_)
                  case d3 => unfold maxLen; omega
                  case d4 => omega
                  case d5 => have := HB1.out.size; simp; omega
                  intro v4 w4 ho4 hg4 hne4 hpl4
                  have n4 : Below w.heap.size w w4 := (HB2.out.alloc HB2.out.size _).grown hg4 (by have := HB2.out.size; simp; omega) (fun k hk => by have := (HOWN.out.lt k hk).1; omega)
                  have hfin : WrC w z v4 w4 := by
                    rcases rowAt_of_owns ho4 with ⟨_, h, _⟩ | ⟨g', c', h, hgB, _, _, _, hr⟩
                    · omega
                    · refine ⟨g', c', (decN N).map dgB ++ [45], by rw [h, List.length_append, List.length_map, hjl]; rfl, ?_, ?_, by rw [List.length_append, List.length_map, hjl]; simp; omega, by omega, n4⟩
                      · have : bytesD (decN N) ++ [.int .u8 45] = bytesV ((decN N).map dgB ++ [45]) := by simp [bytesD, bytesV]
                        rw [this] at hr; exact hr
                      · have hzn : z = -(N : Int) := by have := HZ.out; simpa using this
                        rw [hzn, txtZ_neg HNP.out]; simp [txtN]
                  have HF := Lib.hid hfin
                  clear ho4 hg4 hne4 hpl4 n4 hfin hjl
                  go_wp2_with fail
                  go_meet
                  exact HF.out
              case rest => as_aux_lemma =>
                obtain ⟨g5, c5, bs, rfl, hr5, htx, hbl, hg5, hb5⟩ := hcut
                have HR5 := Lib.hid hr5
                have HTX := Lib.hid htx
                have HB5 := Lib.hid hb5
                have hlt5 := hr5.lt
                obtain ⟨w5, hw5⟩ : ∃ w5 : World, w5 = wc := ⟨_, rfl⟩
                subst hw5
                have hrev := reverse_any g5 bs.length c5 bs w5 rfl (by omega) hr5
                have HREV := Lib.hid hrev
                clear hr5 htx hb5 hrev hlt5
                go_wp2_with fail
                refine HREV.out.mono ?_
                rintro e w6 ⟨⟨v6, rfl⟩, hr6, hg6⟩
                have hcv := conv_row (c := c5) hr6 114 Tryd.underlying114
                rw [List.length_reverse, HTX.out] at hcv
                have hb6 : Below w.heap.size w w6 := below_only HB5.out hg6 HB5.out.size hg5
                have HB6 := Lib.hid hb6
                clear hr6 hg6 hb6
                go_wp2_with fail
                go_ret2
                exact ⟨.inr ⟨E.out, rfl⟩, HB6.out⟩

end Go.Proofs.YtijkefflpojmhaaDoor

namespace Go.Proofs.YtijkefflpojmhaaDoor
open Go.RowKit Go.Shelf

attribute [local go_sem] Oper.semAt_some

/-- The k-th group of digits, the last one first. -/
def chunk (t : ByteArray) (k : Nat) : ByteArray := t.extract (t.size - 9 * (k + 1)) (t.size - 9 * k)
/-- What a round keeps for the iterator: the boxed text. -/
def KeepBox (B : Nat) (W W' : World) : Prop := W'.heap[B]? = W.heap[B]?
theorem keepBox_t {B : Nat} {W1 W2 W3 : World} (h : KeepBox B W1 W2) (k : KeepBox B W2 W3) : KeepBox B W1 W3 := k.trans h
theorem keepBox_b {B : Nat} {w : World} (hB : B < w.heap.size) (W : World) (l : Nat) (o o' : Obj) (hl : w.heap.size ≤ l) (h : W.heap[l]? = some o) (_ho : o.isCells = false) (_ : o.isWalk = false) : KeepBox B W (W.putObj l o') := by
  have hlt := (Array.getElem?_eq_some_iff.1 h).1
  by_cases hb : B < W.heap.size
  · exact (grownBy_putObj' W l o').block B hb (by intro e; injection e with e; omega)
  · unfold KeepBox
    rw [Array.getElem?_eq_none (by omega), Array.getElem?_eq_none (by have := (grownBy_putObj' W l o').size; omega)]
theorem range_succ' (k : Nat) : List.range k ++ [k] = List.range (k + 1) := List.range_succ.symm
theorem range_prefix {k m : Nat} (h : k ≤ m) : List.range k <+: List.range m := by
  refine ⟨(List.range' k (m - k)), ?_⟩
  rw [List.range_eq_range', List.range_eq_range']
  have := List.range'_append (s := 0) (m := k) (n := m - k) (step := 1)
  simp only [Nat.zero_add, Nat.one_mul] at this
  rw [this]; congr 1; omega

set_option maxRecDepth 100000 in
set_option maxHeartbeats 2000000 in
theorem groups1_in (F : Fence) (n : Nat) (hF : F.fn 104) (hro : F.round = none) (hn : 1 ≤ n) (l Bs m : Nat) (t : ByteArray) (hs : t.size ≤ 1000000) (hm1 : t.size ≤ 9 * m) (hm2 : 9 * m < t.size + 9) (J Jx : List Nat → World → Prop)
    (hY : ∀ pre x W, J pre W → pre.length < m → YieldAt F (n - 1) Tryd.prog l #[.string (chunk t x)] W fun e W' =>
      (e = .returned (.bool true) ∧ J (pre ++ [x]) W' ∧ KeepBox Bs W W') ∨ (e = .returned (.bool false) ∧ Jx (pre ++ [x]) W'))
    (W : World) (hBs : Boxed W Bs 9 (.string t)) (h0 : J [] W) :
    CallsIn F n Tryd.prog 104 #[.func (.yield l) #[] #[], .pointer (some ⟨Bs, 0, none⟩)] W fun e W' => (∃ v, e = .returned v) ∧
      ((∃ ys, ys = List.range m ∧ J ys W') ∨ (∃ pre, pre <+: List.range m ∧ Jx pre W')) := by
  refine callsIn_of_wp Tryd.func104 rfl hF ?_ hro
  simp only [Tryd.ntmps104, List.size_toArray, List.length_cons, List.length_nil, Nat.reduceAdd, Nat.reduceSub, Array.replicate_succ, Array.replicate_zero, List.push_toArray, List.append_toArray, List.nil_append, List.cons_append]
  have hc0 := hBs.cell
  gi_wp2
  clear hc0
  gi_loopw [3] (fun i wr => ∃ k : Nat, k ≤ m ∧ i = .int .i64 ((t.size : Int) - 9 * (k : Int)) ∧ J (List.range k) wr ∧ Boxed wr Bs 9 (.string t))
    (fun i _ => (intOf i + 9).toNat)
  case atStart => exact ⟨0, Nat.zero_le _, by simp, h0, hBs⟩
  case round =>
    obtain ⟨k, hk, rfl, hJs, hnx⟩ := hrel
    have hcx : wr.cell? ⟨Bs, 0, none⟩ = some (.string t) := hnx.cell
    by_cases hlt : k < m
    · obtain ⟨e, he⟩ : ∃ e, e = t.size - 9 * k := ⟨_, rfl⟩
      have he1 : 1 ≤ e := by omega
      have heI : ((t.size : Int) - 9 * (k : Int)) = (e : Int) := by omega
      have hes : e ≤ t.size := by omega
      obtain ⟨fn, tmps, assign, body, hy, hR⟩ := hY _ k wr hJs (by simpa using hlt)
      have hch : chunk t k = t.extract (e - 9) e := by unfold chunk; rw [he]; congr 1
      rw [hch] at hy
      rw [heI]
      have HCH := Lib.hid hch
      have HE := Lib.hid he
      have HEI := Lib.hid heI
      clear hch he heI hJs
      by_cases h9 : 10 ≤ e
      · obtain ⟨f, rfl⟩ : ∃ f, e = f + 9 := ⟨e - 9, by omega⟩
        rw [Nat.add_sub_cancel] at hy
        have hf : ((f + 9 : Nat) : Int) = (f : Int) + 9 := by omega
        have hf1 : 1 ≤ f := by omega
        rw [hf]
        clear hf h9
        gi_wp2
        refine hR.mono ?_
        rintro ee W3 (⟨rfl, hJ3, hk3⟩ | ⟨rfl, hJx3⟩)
        · gi_wp2
          go_roundw
          case rel => exact ⟨k + 1, by omega, by congr 1; have := HEI.out; omega, by rw [← range_succ']; exact hJ3, hk3.trans hnx⟩
          case measure => simp [intOf] <;> omega
        · gi_wp2
          refine bodyPost_ret (results_none rfl _ _ _) rfl ?_
          exact ⟨⟨_, rfl⟩, .inr ⟨_, by rw [range_succ']; exact range_prefix (by omega), hJx3⟩⟩
      · rw [show e - 9 = 0 by omega] at hy
        gi_wp2
        refine hR.mono ?_
        rintro ee W3 (⟨rfl, hJ3, hk3⟩ | ⟨rfl, hJx3⟩)
        · gi_wp2
          go_roundw
          case rel => exact ⟨k + 1, by omega, by congr 1; have := HEI.out; omega, by rw [← range_succ']; exact hJ3, hk3.trans hnx⟩
          case measure => simp [intOf] <;> omega
        · gi_wp2
          refine bodyPost_ret (results_none rfl _ _ _) rfl ?_
          exact ⟨⟨_, rfl⟩, .inr ⟨_, by rw [range_succ']; exact range_prefix (by omega), hJx3⟩⟩
    · obtain rfl : k = m := by omega
      have hle : ((t.size : Int) - 9 * (k : Int)) ≤ 0 := by omega
      gi_wp2
      go_end0
      exact ⟨⟨_, rfl⟩, .inl ⟨_, rfl, hJs⟩⟩

set_option maxHeartbeats 1000000 in
/-- groups(s): the text is boxed; the function value captures the box. -/
theorem groups_in (F : Fence) (n : Nat) (hF : F.fn 99) (hro : F.round = none) (t : ByteArray) (w : World) :
    CallsIn F n Tryd.prog 99 #[.string t] w fun e w' => e = .returned (.func (.func 104) #[] #[.pointer (some ⟨w.heap.size, 0, none⟩)]) ∧ w' = w.alloc (.cells #[.string t] 9) := by
  refine callsIn_of_wp Tryd.func99 rfl hF ?_ hro
  simp only [Tryd.ntmps99, List.size_toArray, List.length_cons, List.length_nil, Nat.reduceAdd, Nat.reduceSub, Array.replicate_succ, Array.replicate_zero, List.push_toArray, List.append_toArray, List.nil_append, List.cons_append]
  gi_wp2
  go_ret
  exact ⟨rfl, rfl⟩

/-- groups(s) hands back a value that yields the groups, one after the other. -/
theorem groups_stops (F : Fence) (n : Nat) (hF : F.fn 104) (hro : F.round = none) (hn : 1 ≤ n) (Bs m : Nat) (t : ByteArray) (hs : t.size ≤ 1000000) (hm1 : t.size ≤ 9 * m) (hm2 : 9 * m < t.size + 9) (w : World) (hc : Boxed w Bs 9 (.string t)) :
    SeqStopsK F n Tryd.prog 104 #[.pointer (some ⟨Bs, 0, none⟩)] (fun x : Nat => #[Value.string (chunk t x)]) (KeepBox Bs) (fun ys => ys = List.range m) (fun pre => pre <+: List.range m) m w := fun l J Jx W hW _ _ hY h0 =>
  groups1_in F n hF hro hn l Bs m t hs hm1 hm2 J Jx hY W ((hW.block Bs hc.lt).trans hc) h0

end Go.Proofs.YtijkefflpojmhaaDoor

namespace Go.Proofs.YtijkefflpojmhaaDoor
open Go.RowKit Go.Shelf

attribute [local go_sem] Oper.semAt_some

theorem dval_undig_snoc (l : List UInt8) (c : UInt8) : dval (undig (l ++ [c])) = (c.toNat - 48) + 10 * dval (undig l) := by
  unfold undig; simp [dval]
theorem groups_val (D : List Nat) (m : Nat) : val ((List.range m).map fun k => dval ((D.drop (9 * k)).take 9)) + Bs ^ m * dval (D.drop (9 * m)) = dval D := by
  induction m with
  | zero => simp [val]
  | succ m ih =>
    rw [List.range_succ, List.map_append, List.map_cons, List.map_nil, val_snoc, List.length_map, List.length_range]
    have h1 := dval_split (D.drop (9 * m)) 9
    rw [List.drop_drop, show 9 * m + 9 = 9 * (m + 1) by omega] at h1
    rw [h1] at ih
    rw [Nat.pow_succ]
    have hB : Bs = 10 ^ 9 := rfl
    rw [← hB] at ih
    generalize val ((List.range m).map fun k => dval ((D.drop (9 * k)).take 9)) = V at *
    generalize dval ((D.drop (9 * m)).take 9) = x at *
    generalize dval (D.drop (9 * (m + 1))) = y at *
    generalize Bs ^ m = P at *
    generalize Bs = b at *
    grind
theorem undig_extract (T : List UInt8) (k : Nat) (h : 9 * k ≤ T.length) : undig ((T.drop (T.length - 9 * (k + 1))).take (T.length - 9 * k - (T.length - 9 * (k + 1)))) = ((undig T).drop (9 * k)).take 9 := by
  unfold undig
  rw [← List.map_drop, ← List.map_take]
  congr 1
  apply List.ext_getElem?
  intro i
  have hlen : ((T.drop (T.length - 9 * (k + 1))).take (T.length - 9 * k - (T.length - 9 * (k + 1)))).length = T.length - 9 * k - (T.length - 9 * (k + 1)) := by
    rw [List.length_take, List.length_drop]; omega
  by_cases hi : i < T.length - 9 * k - (T.length - 9 * (k + 1))
  · rw [List.getElem?_reverse (by omega), hlen, List.getElem?_take_of_lt (by omega), List.getElem?_drop, List.getElem?_take_of_lt (by omega), List.getElem?_drop, List.getElem?_reverse (by omega)]
    congr 1; omega
  · rw [List.getElem?_eq_none (by rw [List.length_reverse, hlen]; omega), List.getElem?_eq_none]
    rw [List.length_take, List.length_drop, List.length_reverse]; omega
theorem rep_trim_of {l : List Nat} {N : Nat} {k : Nat} (h : Rep (l.take k) (val l)) (e : val l = N) : Rep (l.take k) N := e ▸ h

/-- The value of a group. -/
def grp (t : ByteArray) (k : Nat) : Nat := dval (undig (chunk t k).data.toList)
/-- Block B is the number, with its sign and groups. -/
def Box2 (W : World) (B : Nat) (neg : Bool) (v : Value) : Prop := W.heap[B]? = some (.cells #[.bool neg, v] 130 (0, 0))
theorem Box2.lt {W : World} {B : Nat} {neg : Bool} {v : Value} (h : Box2 W B neg v) : B < W.heap.size := (Array.getElem?_eq_some_iff.1 h).1
theorem Box2.cell0 {W : World} {B : Nat} {neg : Bool} {v : Value} (h : Box2 W B neg v) : W.cell? ⟨B, 0, none⟩ = some (.bool neg) := by
  simp [World.cell?, show W.heap[B]? = _ from h]
theorem Box2.cell1 {W : World} {B : Nat} {neg : Bool} {v : Value} (h : Box2 W B neg v) : W.cell? ⟨B, 1, none⟩ = some v := by
  simp [World.cell?, show W.heap[B]? = _ from h]
theorem Box2.frozen {W : World} {B : Nat} {neg : Bool} {v : Value} (h : Box2 W B neg v) (i : Nat) : W.frozen? ⟨B, i, none⟩ = false := by
  simp [World.frozen?, show W.heap[B]? = _ from h]
theorem Box2.kept {W W' : World} {row : Option Nat} {B : Nat} {neg : Bool} {v : Value} (h : Box2 W B neg v) (hg : W.grownBy W' row) (hne : some B ≠ row) : Box2 W' B neg v := (hg.block B h.lt hne).trans h
theorem Box2.alloc {W : World} {B : Nat} {neg : Bool} {v : Value} (h : Box2 W B neg v) (o : Obj) : Box2 (W.alloc o) B neg v := h.kept (World.grownBy_alloc W o none) (by simp)
theorem Box2.set1 {W : World} {B : Nat} {neg : Bool} {v : Value} (v' : Value) (h : Box2 W B neg v) : Box2 (W.setCell ⟨B, 1, none⟩ v') B neg v' := by
  unfold Box2 at h ⊢
  simp only [World.setCell, Array.getElem?_modify]
  simp [h]
theorem Box2.set0 {W : World} {B : Nat} {neg : Bool} {v : Value} (b : Bool) (h : Box2 W B neg v) : Box2 (W.setCell ⟨B, 0, none⟩ (.bool b)) B b v := by
  unfold Box2 at h ⊢
  simp only [World.setCell, Array.getElem?_modify]
  simp [h]
theorem Box2.other {W : World} {B : Nat} {neg : Bool} {v : Value} (h : Box2 W B neg v) {a : Addr} (ha : B ≠ a.block) (u : Value) : Box2 (W.setCell a u) B neg v := (Below.heap_setCell W a u B ha).trans h
theorem Box2.drewN {W : World} {B : Nat} {neg : Bool} {v : Value} (h : Box2 W B neg v) (n : Nat) : Box2 (W.drewN n) B neg v := h
theorem chunk_list (t : ByteArray) (k : Nat) (h : 9 * k ≤ t.size) : undig (chunk t k).data.toList = ((undig t.data.toList).drop (9 * k)).take 9 := by
  unfold chunk
  rw [Lib.extract_data]
  have := undig_extract t.data.toList k (by rw [data_len]; exact h)
  rw [data_len] at this
  exact this
theorem grp_lt (t : ByteArray) (k : Nat) (h : ∀ c ∈ t.data.toList, 48 ≤ c.toNat ∧ c.toNat ≤ 57) : grp t k < Bs := by
  have hd : ∀ c ∈ (chunk t k).data.toList, 48 ≤ c.toNat ∧ c.toNat ≤ 57 := fun c hc => by
    unfold chunk at hc
    rw [Lib.extract_data] at hc
    exact h c (List.mem_of_mem_drop (List.mem_of_mem_take hc))
  have h1 := dval_lt (undig (chunk t k).data.toList) (undig_lt _ hd)
  have h2 : (undig (chunk t k).data.toList).length ≤ 9 := by
    unfold undig chunk; rw [List.length_map, List.length_reverse, data_len]; simp; omega
  have h3 : 10 ^ (undig (chunk t k).data.toList).length ≤ 10 ^ 9 := Nat.pow_le_pow_right (by omega) h2
  have h4 : Bs = 10 ^ 9 := rfl
  unfold grp; omega
theorem groups_sum (t : ByteArray) (N m : Nat) (hN : t.data.toList = txtN N) (h1 : t.size ≤ 9 * m) (h2 : 9 * m < t.size + 9) : val ((List.range m).map (grp t)) = N := by
  have h := groups_val (undig t.data.toList) m
  have hl : (undig t.data.toList).length = t.size := by unfold undig; rw [List.length_map, List.length_reverse, data_len]
  rw [List.drop_eq_nil_of_le (by omega)] at h
  have e : (List.range m).map (grp t) = (List.range m).map fun k => dval (((undig t.data.toList).drop (9 * k)).take 9) := by
    refine List.map_congr_left fun k hk => ?_
    have := List.mem_range.1 hk
    unfold grp
    rw [chunk_list t k (by omega)]
  rw [e]
  have hv : dval (undig t.data.toList) = N := by rw [hN, undig_txtN, dval_decN]
  rw [hv] at h
  simpa [dval] using h
/-- What read hands back. -/
def ReadPost (w : World) (z : Int) (e : Ending) (w' : World) : Prop :=
  ∃ a c l, e = .returned (.agg #[.bool (decide (z < 0)), .slice a (l : List Nat).length c]) ∧ l.length ≤ c ∧ w'.ownsRow w.heap.size 120 1 (.slice a l.length c) l.length (nums .u32 l) ∧ Rep l z.natAbs ∧ Below w.heap.size w w'
theorem owns_base {w : World} {B B' e n : Nat} {v : Value} {xs : List Value} (h : w.ownsRow B e 1 v n xs) (hB : B' ≤ B) : w.ownsRow B' e 1 v n xs := by
  obtain ⟨h1, h2⟩ := h
  refine ⟨h1, ?_⟩
  rcases h2 with h | ⟨g, cap, cur, e1, e2, e3⟩
  · exact .inl h
  · exact .inr ⟨g, cap, cur, e1, Nat.le_trans hB e2, e3⟩

/-- Between two groups. -/
def ReadI (w : World) (neg : Bool) (t : ByteArray) (pre : List Nat) (W : World) : Prop :=
  (∃ v, Box2 W (w.heap.size + 1) neg v ∧ W.ownsRow (w.heap.size + 3) 120 1 v pre.length (nums .u32 (pre.map (grp t)))) ∧ Box2 W w.heap.size false (.slice none 0 0) ∧ Below w.heap.size w W ∧ w.heap.size + 3 ≤ W.heap.size
theorem readI_start (w : World) (neg : Bool) (t : ByteArray) (W0 : World) (h1 : Box2 W0 w.heap.size false (.slice none 0 0)) (h2 : Box2 W0 (w.heap.size + 1) neg (.slice none 0 0)) (h3 : Below w.heap.size w W0) (h4 : w.heap.size + 3 ≤ W0.heap.size) : ReadI w neg t [] W0 :=
  ⟨⟨_, h2, World.ownsRow_nil _ _ _ _⟩, h1, h3, h4⟩
theorem box2_row {W : World} {B : Nat} {neg : Bool} {v : Value} (h : Box2 W B neg v) {row : Option Nat} {C : Nat} (hr : ∀ r, row = some r → C ≤ r ∧ ∃ o : Obj, W.heap[r]? = some o ∧ o.isCells = false) : some B ≠ row := by
  intro e
  obtain ⟨_, o, ho, hc⟩ := hr B e.symm
  rw [show W.heap[B]? = _ from h] at ho
  injection ho with ho
  subst ho
  cases hc
theorem owns_row {W : World} {base e n : Nat} {v : Value} {xs : List Value} (h : W.ownsRow base e 1 v n xs) {row : Option Nat} {C : Nat} (hr : ∀ r, row = some r → C ≤ r ∧ ∃ o : Obj, W.heap[r]? = some o ∧ o.isCells = false) : v.ownBlock = none ∨ v.ownBlock ≠ row := by
  rcases h.2 with ⟨rfl, _⟩ | ⟨g, cap, cur, rfl, _, hg, _⟩
  · exact .inl rfl
  · right
    intro e
    obtain ⟨_, o, ho, hc⟩ := hr g e.symm
    rw [hg] at ho
    injection ho with ho
    subst ho
    cases hc
theorem readI_own (w : World) (neg : Bool) (t : ByteArray) (W0 : World) (hB : w.heap.size ≤ W0.heap.size) : OwnFrom W0.heap.size (ReadI w neg t) := by
  intro s W W' row ⟨⟨v, h1, h2⟩, h3, h4, h5⟩ hg hr
  exact ⟨⟨v, h1.kept hg (box2_row h1 hr), h2.kept hg (owns_row h2 hr)⟩, h3.kept hg (box2_row h3 hr), h4.grown hg h4.size (fun k hk => by have := (hr k hk).1; omega), Nat.le_trans h5 hg.size⟩

set_option maxHeartbeats 4000000 in
set_option maxRecDepth 100000 in
theorem read_pos (s : ByteArray) (w : World) (hs : s.size ≤ 100000) (N : Nat) (hN : s.data.toList = txtN N) (h0 : 0 < s.size) (h1 : ((s[0].toNat : Int) == 45) = false) :
    Calls Tryd.prog 90 #[.string s] w (ReadPost w N) := by
  refine (callsIn_wide (n := 6)).1 ?_
  refine callsIn_of_wp_marks Tryd.func90 rfl trivial ?_ rfl
  simp only [Tryd.ntmps90, List.size_toArray, List.length_cons, List.length_nil, Nat.reduceAdd, Nat.reduceSub, Array.replicate_succ, Array.replicate_zero, List.push_toArray, List.append_toArray, List.nil_append, List.cons_append]
  have hT : ∀ f, Fence.wide.fn f := fun _ => trivial
  gi_wp2_with (gi_at_call 99; refine (groups_in Fence.wide _ trivial rfl _ _).mono ?_; rintro e w' ⟨rfl, rfl⟩)
  obtain ⟨W0, hW0⟩ : ∃ W0, W0 = ((w.alloc (.cells #[.bool false, .slice none 0 0] 130)).alloc (.cells #[.bool false, .slice none 0 0] 130)).alloc (.cells #[.string s] 9) := ⟨_, rfl⟩
  have hsz : W0.heap.size = w.heap.size + 3 := by rw [hW0]; simp
  have hR0 : Box2 W0 w.heap.size false (.slice none 0 0) := by rw [hW0]; exact Box2.alloc (Box2.alloc (show Box2 (w.alloc (.cells #[.bool false, .slice none 0 0] 130)) w.heap.size false (.slice none 0 0) from World.alloc_heap_new w _) _) _
  have hB0 : Box2 W0 (w.heap.size + 1) false (.slice none 0 0) := by
    rw [hW0]
    refine Box2.alloc ?_ _
    have := World.alloc_heap_new (w.alloc (.cells #[.bool false, .slice none 0 0] 130)) (.cells #[.bool false, .slice none 0 0] 130)
    rw [World.size_alloc] at this
    exact this
  have hS0 : Boxed W0 (w.heap.size + 2) 9 (.string s) := by
    rw [hW0]
    have := Boxed.new ((w.alloc (.cells #[.bool false, .slice none 0 0] 130)).alloc (.cells #[.bool false, .slice none 0 0] 130)) 9 (.string s)
    rw [World.size_alloc, World.size_alloc] at this
    exact this
  have hbel : Below w.heap.size w W0 := by rw [hW0]; exact (((Below.refl _ w).alloc (Nat.le_refl _) _).alloc (by simp) _).alloc (by simp; omega) _
  rw [← hW0]
  clear hW0
  have HDG : Hid (∀ c ∈ s.data.toList, 48 ≤ c.toNat ∧ c.toNat ≤ 57) := by show ∀ c ∈ _, _; rw [hN]; exact txtN_dig N
  have hsz2 := Lib.hid hsz
  obtain ⟨i0, hi, hz0, hz1, hz2⟩ := info_parts infoU32
  obtain ⟨m, hm1, hm2⟩ : ∃ m, s.size ≤ 9 * m ∧ 9 * m < s.size + 9 := ⟨(s.size + 8) / 9, by omega, by omega⟩
  refine wpIn_rangeFunc_ownG rfl (by omega) (gf := 104) (lb := #[.pointer (some ⟨w.heap.size + 2, 0, none⟩)]) rfl trivial (enters_of Tryd.func104 (by kernel_rfl) rfl)
    (groups_stops Fence.wide _ trivial rfl (by omega) (w.heap.size + 2) m s (by omega) hm1 hm2 W0 hS0) keepBox_t (keepBox_b (by omega)) (Below.refl _ _) (fun _ => rfl)
    (ReadI w false s) (fun _ _ _ => False) (readI_own w false s W0 (by omega)) (fun _ _ _ _ _ hs _ _ => hs) (readI_start w false s W0 hR0 hB0 hbel (by omega)) ?a1 ?assign ?body ?done ?stop
  case assign =>
    intro l x W K hK
    gi_wp2
    exact hK
  case body =>
    rintro l pre x W ⟨⟨v, hbx, hrow⟩, hres, hbl, hbs⟩ hlt
    have hch : ∀ c ∈ (chunk s x).data.toList, 48 ≤ c.toNat ∧ c.toNat ≤ 57 := fun c hc => by
      unfold chunk at hc
      rw [Lib.extract_data] at hc
      exact HDG.out c (List.mem_of_mem_drop (List.mem_of_mem_take hc))
    have hcs : (chunk s x).size ≤ 9 := by unfold chunk; simp; omega
    obtain ⟨g, hg⟩ : ∃ g, g = chunk s x := ⟨_, rfl⟩
    have hgv : grp s x = dval (undig g.data.toList) := by rw [hg]; rfl
    rw [← hg] at hch hcs ⊢
    have HCH := Lib.hid hch
    have HGV := Lib.hid hgv
    have HRES := Lib.hid hres
    have HBL := Lib.hid hbl
    have HROW := Lib.hid hrow
    have HBX := Lib.hid hbx
    have hT2 : ∀ f, (Fence.wide.inRound l).fn f := fun _ => trivial
    clear hg hgv hch hres hbl hrow hbx hT
    gi_wp2
    gi_loopw [6, 20] (fun vv iv wr => (∃ k : Nat, k ≤ g.size ∧ iv = .int .i64 k ∧ vv = .int .u32 (dval (undig (g.data.toList.take k)) : Nat)) ∧ wr = W) (fun _ iv _ => g.size - (intOf iv).toNat)
    case atStart => exact ⟨⟨0, Nat.zero_le _, rfl, by simp [undig, dval]⟩, rfl⟩
    case round =>
      obtain ⟨⟨k, hk, rfl, rfl⟩, rfl⟩ := hrel
      obtain ⟨vv, hvv⟩ : ∃ vv, vv = dval (undig (g.data.toList.take k)) := ⟨_, rfl⟩
      rw [← hvv]
      have HVV := Lib.hid hvv
      by_cases hltk : k < g.size
      · have hvb : vv < 100000000 := by
          rw [hvv]
          have h1 := dval_lt (undig (g.data.toList.take k)) (undig_lt _ (fun c hc => HCH.out c (List.mem_of_mem_take hc)))
          have h2 : (undig (g.data.toList.take k)).length ≤ 8 := by unfold undig; rw [List.length_map, List.length_reverse, List.length_take]; omega
          have h3 : 10 ^ (undig (g.data.toList.take k)).length ≤ 10 ^ 8 := Nat.pow_le_pow_right (by omega) h2
          omega
        have hcd := HCH.out _ (data_mem g k hltk)
        obtain ⟨y, hy⟩ : ∃ y, y = g[k].toNat - 48 := ⟨_, rfl⟩
        have hyI : ((g[k].toNat : Int) - 48) = (y : Int) := by omega
        have hyb : y < 10 := by omega
        have hnx : dval (undig (g.data.toList.take (k + 1))) = vv * 10 + y := by
          rw [data_take g k hltk, dval_undig_snoc, ← HVV.out, ← hy]; omega
        have HNX := Lib.hid hnx
        obtain ⟨c1, c2⟩ := hcd
        clear hvv hy hnx
        gi_wp2
        go_roundw
        case rel => exact ⟨⟨k + 1, by omega, by go_num, by rw [HNX.out]; congr 1⟩, trivial⟩
        case measure => simp [intOf] <;> omega
      · have hkg : k = g.size := by omega
        have hval : vv = grp s x := by rw [hvv, hkg, List.take_of_length_le (by rw [data_len]; omega)]; exact HGV.out.symm
        have HVAL := Lib.hid hval
        have hcell := HBX.out.cell1
        clear hvv hkg hval
        have hpm : pre.length < 100000 := by omega
        obtain ⟨pl, hpl⟩ : ∃ pl, pl = pre.length := ⟨_, rfl⟩
        have HROW1 := HROW.out
        rw [← hpl] at hpm HROW1
        have HROW2 := Lib.hid HROW1
        have HPL := Lib.hid hpl
        clear HROW1 hpl
        gi_wp2_with (gi_at_builtin; refine wpListIn_append_own _ rfl (.tmp 33) (.tmp 35) 128 rfl (w.heap.size + 3) 120 i0 (.int .u32 0) 1 4 Tryd.underlying128 hi hz0 hz1 hz2 rfl (by decide) _ _ _ rfl (HROW2.out.alloc _) ⟨wr.heap.size, 0, none⟩ 1 1 [.int .u32 (vv : Int)] rfl rfl (cell_one_new _ _ _) (by simp [Value.oneCell']) ?c3 ?c4 ?c5 ?_)
        case c3 => unfold maxLen; omega
        case c4 => omega
        case c5 => simp; omega
        intro v' w1 hown' hgrow _
        obtain ⟨g', cap', rfl⟩ := ownsRow_succ hown'
        have hnb : ∀ B, B < w.heap.size + 3 → some B ≠ v.ownBlock := fun B hB e => by have := (HROW2.out.lt B e.symm).1; omega
        have bx1 : Box2 w1 (w.heap.size + 1) false v := (HBX.out.alloc _).kept hgrow (hnb _ (by omega))
        have hc1 := bx1.cell1
        have hf1 := bx1.frozen 1
        have hnb2 : w1.grownBy (w1.setCell ⟨w.heap.size + 1, 1, none⟩ (.slice (some ⟨g', 0, none⟩) (pl + 1) cap')) (some (w.heap.size + 1)) := only_setCell (only_refl _ _) (.inl rfl) _
        have BX2 := Lib.hid (bx1.set1 (.slice (some ⟨g', 0, none⟩) (pl + 1) cap'))
        have ho2 := hown'.kept hnb2 (.inr (fun e => by have := (hown'.lt _ e).1; omega))
        rw [nums_snoc, HVAL.out, show List.map (grp s) pre ++ [grp s x] = List.map (grp s) (pre ++ [x]) by simp, HPL.out] at ho2
        have HO2 := Lib.hid ho2
        have RES2 : Hid (Box2 (w1.setCell ⟨w.heap.size + 1, 1, none⟩ (.slice (some ⟨g', 0, none⟩) (pl + 1) cap')) w.heap.size false (.slice none 0 0)) := ((HRES.out.alloc _).kept hgrow (hnb _ (by omega))).other (by show w.heap.size ≠ w.heap.size + 1; omega) _
        have BL1 : Below w.heap.size w w1 := (HBL.out.alloc HBL.out.size _).grown hgrow (by simp; omega) (fun k hk => by have := (HROW2.out.lt k hk).1; omega)
        have BL2 : Hid (Below w.heap.size w (w1.setCell ⟨w.heap.size + 1, 1, none⟩ (.slice (some ⟨g', 0, none⟩) (pl + 1) cap'))) := BL1.setCell (p := ⟨w.heap.size + 1, 1, none⟩) (by show w.heap.size ≤ w.heap.size + 1; omega) _
        have SZ2 : Hid (w.heap.size + 3 ≤ (w1.setCell ⟨w.heap.size + 1, 1, none⟩ (.slice (some ⟨g', 0, none⟩) (pl + 1) cap')).heap.size) := by
          have := hgrow.size; simp at this; show _ ≤ _; simp [World.setCell]; omega
        have KF2 : Hid (KeepsFrom W0.heap.size wr (w1.setCell ⟨w.heap.size + 1, 1, none⟩ (.slice (some ⟨g', 0, none⟩) (pl + 1) cap'))) := by
          refine KeepsOthers.from (((KeepsOthers.alloc wr _).trans (KeepsOthers.of_grownBy hgrow fun j o ej hj => ?_)).trans (KeepsOthers.setCell _ _ _)) _
          rcases (HROW2.out.alloc (.cells #[.int .u32 (vv : Int)] 120)).2 with ⟨rfl, _⟩ | ⟨g, cap, cur, rfl, _, hgb, _⟩
          · simp [Value.ownBlock] at ej
          · obtain rfl : g = j := by simpa [Value.ownBlock] using ej
            rw [hgb] at hj; cases hj; rfl
        have KB2 : Hid (KeepBox (w.heap.size + 2) wr (w1.setCell ⟨w.heap.size + 1, 1, none⟩ (.slice (some ⟨g', 0, none⟩) (pl + 1) cap'))) := by
          show _ = _
          rw [Below.heap_setCell w1 ⟨w.heap.size + 1, 1, none⟩ _ (w.heap.size + 2) (by show w.heap.size + 2 ≠ w.heap.size + 1; omega), hgrow.block (w.heap.size + 2) (by simp; omega) (hnb _ (by omega)), Below.heap_alloc wr _ _ (by omega)]
        clear hown' hgrow bx1 hnb hnb2 ho2 BL1
        gi_wp2
        refine ⟨KF2.out, KB2.out, ⟨⟨_, BX2.out, ?_⟩, RES2.out, BL2.out, SZ2.out⟩⟩
        rw [List.length_append, ← HPL.out]
        have := HO2.out
        rw [← HPL.out] at this
        exact this
  case done =>
    rintro D ys W hD rfl ⟨⟨v, hbx, hrow⟩, hres, hbl, hbs⟩ hK
    rw [List.length_range] at hrow
    have hval : val ((List.range m).map (grp s)) = N := groups_sum s N m hN (by omega) (by omega)
    have htr := trim_own hrow (by omega) (by
      intro x hx
      obtain ⟨k, _, rfl⟩ := List.mem_map.1 hx
      exact grp_lt s k HDG.out)
    rw [hval] at htr
    have HTR := Lib.hid htr
    have hc1 := hbx.cell1
    have hf1 := hbx.frozen 1
    have HBX := Lib.hid hbx
    have HRES := Lib.hid hres
    have HBL := Lib.hid hbl
    have HK := Lib.hid hK
    clear htr hval hrow hbx hres hbl hK
    gi_wp2_with (gi_at_call 93; refine (callsIn_wide.2 HTR.out).mono ?_; rintro e w' ⟨⟨v2, l2, rfl, ho2, hr2⟩, rfl⟩; obtain ⟨a2, c2, rfl, hl2, hlc2, hn2⟩ := nums_of_owns ho2; obtain ⟨k2, hk2⟩ : ∃ k2, k2 = l2.length := ⟨_, rfl⟩; rw [← hk2] at ho2 hlc2 ⊢; have HO2 := Lib.hid ho2; have HR2 := Lib.hid hr2; have HN2 := Lib.hid hn2; have HK2 := Lib.hid hk2; have hx2 : Box2 (W.setCell ⟨w.heap.size + 1, 1, none⟩ (.slice a2 k2 c2)) (w.heap.size + 1) false (.slice a2 k2 c2) := HBX.out.set1 _; have hy2 : Box2 (W.setCell ⟨w.heap.size + 1, 1, none⟩ (.slice a2 k2 c2)) w.heap.size false (.slice none 0 0) := HRES.out.other (by show w.heap.size ≠ w.heap.size + 1; omega) _; have e0 := hx2.cell0; have e1 := hx2.cell1; have e2 := hy2.cell0; have e3 := hy2.cell1; have e4 := hy2.frozen 0; have e5 := hy2.frozen 1; have HY2 := Lib.hid hy2; clear ho2 hr2 hn2 hl2 hk2 hx2 hy2)
    have hr3 : Box2 (((W.setCell ⟨w.heap.size + 1, 1, none⟩ (.slice a2 k2 c2)).setCell ⟨w.heap.size, 0, none⟩ (.bool false)).setCell ⟨w.heap.size, 1, none⟩ (.slice a2 k2 c2)) w.heap.size false (.slice a2 k2 c2) := (HY2.out.set0 false).set1 _
    obtain ⟨FW, hFW⟩ : ∃ FW, FW = ((W.setCell ⟨w.heap.size + 1, 1, none⟩ (.slice a2 k2 c2)).setCell ⟨w.heap.size, 0, none⟩ (.bool false)).setCell ⟨w.heap.size, 1, none⟩ (.slice a2 k2 c2) := ⟨_, rfl⟩
    have hKf : FW.heap[D]? = some (.deferred (some [])) := by
      rw [hFW, Below.heap_setCell _ ⟨w.heap.size, 1, none⟩ _ D (by show D ≠ w.heap.size; omega), Below.heap_setCell _ ⟨w.heap.size, 0, none⟩ _ D (by show D ≠ w.heap.size; omega), Below.heap_setCell _ ⟨w.heap.size + 1, 1, none⟩ _ D (by show D ≠ w.heap.size + 1; omega)]
      exact HK.out
    have hbF : Below w.heap.size w FW := by rw [hFW]; exact ((HBL.out.setCell (p := ⟨w.heap.size + 1, 1, none⟩) (by show w.heap.size ≤ w.heap.size + 1; omega) _).setCell (p := ⟨w.heap.size, 0, none⟩) (Nat.le_refl _) _).setCell (p := ⟨w.heap.size, 1, none⟩) (Nat.le_refl _) _
    have hoF : FW.ownsRow (w.heap.size + 3) 120 1 (.slice a2 k2 c2) k2 (nums .u32 l2) := by
      have hne : ∀ B, B < w.heap.size + 3 → (Value.slice a2 k2 c2).ownBlock = none ∨ (Value.slice a2 k2 c2).ownBlock ≠ some B := fun B hB => .inr (fun e => by have := (HO2.out.lt B e).1; omega)
      rw [hFW]
      exact ((HO2.out.kept (only_setCell (only_refl _ (some (w.heap.size + 1))) (.inl rfl) _) (hne _ (by omega))).kept (only_setCell (only_refl _ (some w.heap.size)) (.inl rfl) _) (hne _ (by omega))).kept (only_setCell (only_refl _ (some w.heap.size)) (.inl rfl) _) (hne _ (by omega))
    rw [← hFW] at hr3 ⊢
    have hrP : Box2 (FW.putObj D (.deferred none)) w.heap.size false (.slice a2 k2 c2) := hr3.kept (grownBy_putObj' FW D (.deferred none)) (fun e => by injection e with e; omega)
    have hoP := ownsRow_putObj hoF (.deferred none) hKf rfl
    have hbP : Below w.heap.size w (FW.putObj D (.deferred none)) := hbF.grown (grownBy_putObj' FW D (.deferred none)) hbF.size (fun k e => by injection e with e; omega)
    refine ⟨by simp, .inl ⟨_, _, rfl, run_takeDeferred hKf, ?_⟩⟩
    have q0 := hrP.cell0
    have q1 := hrP.cell1
    refine ⟨.agg #[.bool false, .slice a2 k2 c2], ?_, a2, c2, l2, ?_, by have := HK2.out; omega, by rw [← HK2.out]; exact owns_base hoP (by omega), HR2.out, hbP⟩
    · simp [results, Tryd.results90, go_sem, q0, q1]
    · rw [HK2.out]; simp
  case stop =>
    rintro D c pre W _ _ h _
    exact h.elim
set_option maxHeartbeats 4000000 in
set_option maxRecDepth 100000 in
theorem read_neg (s t : ByteArray) (w : World) (hs : t.size ≤ 100000) (N : Nat) (hN : t.data.toList = txtN N) (hNp : 0 < N) (h0 : 0 < s.size) (h1 : ((s[0].toNat : Int) == 45) = true) (HTS : Hid (s.extract 1 s.size = t)) :
    Calls Tryd.prog 90 #[.string s] w (ReadPost w (-(N : Int))) := by
  refine (callsIn_wide (n := 6)).1 ?_
  refine callsIn_of_wp_marks Tryd.func90 rfl trivial ?_ rfl
  simp only [Tryd.ntmps90, List.size_toArray, List.length_cons, List.length_nil, Nat.reduceAdd, Nat.reduceSub, Array.replicate_succ, Array.replicate_zero, List.push_toArray, List.append_toArray, List.nil_append, List.cons_append]
  have hT : ∀ f, Fence.wide.fn f := fun _ => trivial
  have hT : ∀ f, Fence.wide.fn f := fun _ => trivial
  gi_wp2
  gi_region
  rw [HTS.out]
  gi_wp2_with (gi_at_call 99; refine (groups_in Fence.wide _ trivial rfl _ _).mono ?_; rintro e w' ⟨rfl, rfl⟩)
  obtain ⟨U0, hU0⟩ : ∃ U0, U0 = ((w.alloc (.cells #[.bool false, .slice none 0 0] 130)).alloc (.cells #[.bool true, .slice none 0 0] 130)).alloc (.cells #[.string t] 9) := ⟨_, rfl⟩
  have usz : U0.heap.size = w.heap.size + 3 := by rw [hU0]; simp
  have uR0 : Box2 U0 w.heap.size false (.slice none 0 0) := by rw [hU0]; exact Box2.alloc (Box2.alloc (show Box2 (w.alloc (.cells #[.bool false, .slice none 0 0] 130)) w.heap.size false (.slice none 0 0) from World.alloc_heap_new w _) _) _
  have uB0 : Box2 U0 (w.heap.size + 1) true (.slice none 0 0) := by
    rw [hU0]
    refine Box2.alloc ?_ _
    have := World.alloc_heap_new (w.alloc (.cells #[.bool false, .slice none 0 0] 130)) (.cells #[.bool true, .slice none 0 0] 130)
    rw [World.size_alloc] at this
    exact this
  have uS0 : Boxed U0 (w.heap.size + 2) 9 (.string t) := by
    rw [hU0]
    have := Boxed.new ((w.alloc (.cells #[.bool false, .slice none 0 0] 130)).alloc (.cells #[.bool true, .slice none 0 0] 130)) 9 (.string t)
    rw [World.size_alloc, World.size_alloc] at this
    exact this
  have ubel : Below w.heap.size w U0 := by rw [hU0]; exact (((Below.refl _ w).alloc (Nat.le_refl _) _).alloc (by simp) _).alloc (by simp; omega) _
  rw [← hU0]
  obtain ⟨W0, hW0⟩ : ∃ W0, W0 = U0.drew := ⟨_, rfl⟩
  have hsz : W0.heap.size = w.heap.size + 3 := by rw [hW0]; exact usz
  have hR0 : Box2 W0 w.heap.size false (.slice none 0 0) := by rw [hW0]; exact uR0
  have hB0 : Box2 W0 (w.heap.size + 1) true (.slice none 0 0) := by rw [hW0]; exact uB0
  have hS0 : Boxed W0 (w.heap.size + 2) 9 (.string t) := by rw [hW0]; exact uS0
  have hbel : Below w.heap.size w W0 := by rw [hW0]; exact ubel.drew
  rw [← hW0]
  clear hW0 hU0 usz uR0 uB0 uS0 ubel
  have HDG : Hid (∀ c ∈ t.data.toList, 48 ≤ c.toNat ∧ c.toNat ≤ 57) := by show ∀ c ∈ _, _; rw [hN]; exact txtN_dig N
  have hsz2 := Lib.hid hsz
  obtain ⟨i0, hi, hz0, hz1, hz2⟩ := info_parts infoU32
  obtain ⟨m, hm1, hm2⟩ : ∃ m, t.size ≤ 9 * m ∧ 9 * m < t.size + 9 := ⟨(t.size + 8) / 9, by omega, by omega⟩
  refine wpIn_rangeFunc_ownG rfl (by omega) (gf := 104) (lb := #[.pointer (some ⟨w.heap.size + 2, 0, none⟩)]) rfl trivial (enters_of Tryd.func104 (by kernel_rfl) rfl)
    (groups_stops Fence.wide _ trivial rfl (by omega) (w.heap.size + 2) m t (by omega) hm1 hm2 W0 hS0) keepBox_t (keepBox_b (by omega)) (Below.refl _ _) (fun _ => rfl)
    (ReadI w true t) (fun _ _ _ => False) (readI_own w true t W0 (by omega)) (fun _ _ _ _ _ hs _ _ => hs) (readI_start w true t W0 hR0 hB0 hbel (by omega)) ?a1 ?assign ?body ?done ?stop
  case assign =>
    intro l x W K hK
    gi_wp2
    exact hK
  case body =>
    rintro l pre x W ⟨⟨v, hbx, hrow⟩, hres, hbl, hbs⟩ hlt
    have hch : ∀ c ∈ (chunk t x).data.toList, 48 ≤ c.toNat ∧ c.toNat ≤ 57 := fun c hc => by
      unfold chunk at hc
      rw [Lib.extract_data] at hc
      exact HDG.out c (List.mem_of_mem_drop (List.mem_of_mem_take hc))
    have hcs : (chunk t x).size ≤ 9 := by unfold chunk; simp; omega
    obtain ⟨g, hg⟩ : ∃ g, g = chunk t x := ⟨_, rfl⟩
    have hgv : grp t x = dval (undig g.data.toList) := by rw [hg]; rfl
    rw [← hg] at hch hcs ⊢
    have HCH := Lib.hid hch
    have HGV := Lib.hid hgv
    have HRES := Lib.hid hres
    have HBL := Lib.hid hbl
    have HROW := Lib.hid hrow
    have HBX := Lib.hid hbx
    have hT2 : ∀ f, (Fence.wide.inRound l).fn f := fun _ => trivial
    clear hg hgv hch hres hbl hrow hbx hT
    gi_wp2
    gi_loopw [6, 20] (fun vv iv wr => (∃ k : Nat, k ≤ g.size ∧ iv = .int .i64 k ∧ vv = .int .u32 (dval (undig (g.data.toList.take k)) : Nat)) ∧ wr = W) (fun _ iv _ => g.size - (intOf iv).toNat)
    case atStart => exact ⟨⟨0, Nat.zero_le _, rfl, by simp [undig, dval]⟩, rfl⟩
    case round =>
      obtain ⟨⟨k, hk, rfl, rfl⟩, rfl⟩ := hrel
      obtain ⟨vv, hvv⟩ : ∃ vv, vv = dval (undig (g.data.toList.take k)) := ⟨_, rfl⟩
      rw [← hvv]
      have HVV := Lib.hid hvv
      by_cases hltk : k < g.size
      · have hvb : vv < 100000000 := by
          rw [hvv]
          have h1 := dval_lt (undig (g.data.toList.take k)) (undig_lt _ (fun c hc => HCH.out c (List.mem_of_mem_take hc)))
          have h2 : (undig (g.data.toList.take k)).length ≤ 8 := by unfold undig; rw [List.length_map, List.length_reverse, List.length_take]; omega
          have h3 : 10 ^ (undig (g.data.toList.take k)).length ≤ 10 ^ 8 := Nat.pow_le_pow_right (by omega) h2
          omega
        have hcd := HCH.out _ (data_mem g k hltk)
        obtain ⟨y, hy⟩ : ∃ y, y = g[k].toNat - 48 := ⟨_, rfl⟩
        have hyI : ((g[k].toNat : Int) - 48) = (y : Int) := by omega
        have hyb : y < 10 := by omega
        have hnx : dval (undig (g.data.toList.take (k + 1))) = vv * 10 + y := by
          rw [data_take g k hltk, dval_undig_snoc, ← HVV.out, ← hy]; omega
        have HNX := Lib.hid hnx
        obtain ⟨c1, c2⟩ := hcd
        clear hvv hy hnx
        gi_wp2
        go_roundw
        case rel => exact ⟨⟨k + 1, by omega, by go_num, by rw [HNX.out]; congr 1⟩, trivial⟩
        case measure => simp [intOf] <;> omega
      · have hkg : k = g.size := by omega
        have hval : vv = grp t x := by rw [hvv, hkg, List.take_of_length_le (by rw [data_len]; omega)]; exact HGV.out.symm
        have HVAL := Lib.hid hval
        have hcell := HBX.out.cell1
        clear hvv hkg hval
        have hpm : pre.length < 100000 := by omega
        obtain ⟨pl, hpl⟩ : ∃ pl, pl = pre.length := ⟨_, rfl⟩
        have HROW1 := HROW.out
        rw [← hpl] at hpm HROW1
        have HROW2 := Lib.hid HROW1
        have HPL := Lib.hid hpl
        clear HROW1 hpl
        gi_wp2_with (gi_at_builtin; refine wpListIn_append_own _ rfl (.tmp 33) (.tmp 35) 128 rfl (w.heap.size + 3) 120 i0 (.int .u32 0) 1 4 Tryd.underlying128 hi hz0 hz1 hz2 rfl (by decide) _ _ _ rfl (HROW2.out.alloc _) ⟨wr.heap.size, 0, none⟩ 1 1 [.int .u32 (vv : Int)] rfl rfl (cell_one_new _ _ _) (by simp [Value.oneCell']) ?c3 ?c4 ?c5 ?_)
        case c3 => unfold maxLen; omega
        case c4 => omega
        case c5 => simp; omega
        intro v' w1 hown' hgrow _
        obtain ⟨g', cap', rfl⟩ := ownsRow_succ hown'
        have hnb : ∀ B, B < w.heap.size + 3 → some B ≠ v.ownBlock := fun B hB e => by have := (HROW2.out.lt B e.symm).1; omega
        have bx1 : Box2 w1 (w.heap.size + 1) true v := (HBX.out.alloc _).kept hgrow (hnb _ (by omega))
        have hc1 := bx1.cell1
        have hf1 := bx1.frozen 1
        have hnb2 : w1.grownBy (w1.setCell ⟨w.heap.size + 1, 1, none⟩ (.slice (some ⟨g', 0, none⟩) (pl + 1) cap')) (some (w.heap.size + 1)) := only_setCell (only_refl _ _) (.inl rfl) _
        have BX2 := Lib.hid (bx1.set1 (.slice (some ⟨g', 0, none⟩) (pl + 1) cap'))
        have ho2 := hown'.kept hnb2 (.inr (fun e => by have := (hown'.lt _ e).1; omega))
        rw [nums_snoc, HVAL.out, show List.map (grp t) pre ++ [grp t x] = List.map (grp t) (pre ++ [x]) by simp, HPL.out] at ho2
        have HO2 := Lib.hid ho2
        have RES2 : Hid (Box2 (w1.setCell ⟨w.heap.size + 1, 1, none⟩ (.slice (some ⟨g', 0, none⟩) (pl + 1) cap')) w.heap.size false (.slice none 0 0)) := ((HRES.out.alloc _).kept hgrow (hnb _ (by omega))).other (by show w.heap.size ≠ w.heap.size + 1; omega) _
        have BL1 : Below w.heap.size w w1 := (HBL.out.alloc HBL.out.size _).grown hgrow (by simp; omega) (fun k hk => by have := (HROW2.out.lt k hk).1; omega)
        have BL2 : Hid (Below w.heap.size w (w1.setCell ⟨w.heap.size + 1, 1, none⟩ (.slice (some ⟨g', 0, none⟩) (pl + 1) cap'))) := BL1.setCell (p := ⟨w.heap.size + 1, 1, none⟩) (by show w.heap.size ≤ w.heap.size + 1; omega) _
        have SZ2 : Hid (w.heap.size + 3 ≤ (w1.setCell ⟨w.heap.size + 1, 1, none⟩ (.slice (some ⟨g', 0, none⟩) (pl + 1) cap')).heap.size) := by
          have := hgrow.size; simp at this; show _ ≤ _; simp [World.setCell]; omega
        have KF2 : Hid (KeepsFrom W0.heap.size wr (w1.setCell ⟨w.heap.size + 1, 1, none⟩ (.slice (some ⟨g', 0, none⟩) (pl + 1) cap'))) := by
          refine KeepsOthers.from (((KeepsOthers.alloc wr _).trans (KeepsOthers.of_grownBy hgrow fun j o ej hj => ?_)).trans (KeepsOthers.setCell _ _ _)) _
          rcases (HROW2.out.alloc (.cells #[.int .u32 (vv : Int)] 120)).2 with ⟨rfl, _⟩ | ⟨g, cap, cur, rfl, _, hgb, _⟩
          · simp [Value.ownBlock] at ej
          · obtain rfl : g = j := by simpa [Value.ownBlock] using ej
            rw [hgb] at hj; cases hj; rfl
        have KB2 : Hid (KeepBox (w.heap.size + 2) wr (w1.setCell ⟨w.heap.size + 1, 1, none⟩ (.slice (some ⟨g', 0, none⟩) (pl + 1) cap'))) := by
          show _ = _
          rw [Below.heap_setCell w1 ⟨w.heap.size + 1, 1, none⟩ _ (w.heap.size + 2) (by show w.heap.size + 2 ≠ w.heap.size + 1; omega), hgrow.block (w.heap.size + 2) (by simp; omega) (hnb _ (by omega)), Below.heap_alloc wr _ _ (by omega)]
        clear hown' hgrow bx1 hnb hnb2 ho2 BL1
        gi_wp2
        refine ⟨KF2.out, KB2.out, ⟨⟨_, BX2.out, ?_⟩, RES2.out, BL2.out, SZ2.out⟩⟩
        rw [List.length_append, ← HPL.out]
        have := HO2.out
        rw [← HPL.out] at this
        exact this
  case done =>
    rintro D ys W hD rfl ⟨⟨v, hbx, hrow⟩, hres, hbl, hbs⟩ hK
    rw [List.length_range] at hrow
    have hval : val ((List.range m).map (grp t)) = N := groups_sum t N m hN (by omega) (by omega)
    have htr := trim_own hrow (by omega) (by
      intro x hx
      obtain ⟨k, _, rfl⟩ := List.mem_map.1 hx
      exact grp_lt t k HDG.out)
    rw [hval] at htr
    have HTR := Lib.hid htr
    have hc1 := hbx.cell1
    have hf1 := hbx.frozen 1
    have HBX := Lib.hid hbx
    have HRES := Lib.hid hres
    have HBL := Lib.hid hbl
    have HK := Lib.hid hK
    clear htr hval hrow hbx hres hbl hK
    gi_wp2_with (gi_at_call 93; refine (callsIn_wide.2 HTR.out).mono ?_; rintro e w' ⟨⟨v2, l2, rfl, ho2, hr2⟩, rfl⟩; obtain ⟨a2, c2, rfl, hl2, hlc2, hn2⟩ := nums_of_owns ho2; obtain ⟨k2, hk2⟩ : ∃ k2, k2 = l2.length := ⟨_, rfl⟩; rw [← hk2] at ho2 hlc2 ⊢; have HO2 := Lib.hid ho2; have HR2 := Lib.hid hr2; have HN2 := Lib.hid hn2; have HK2 := Lib.hid hk2; have hx2 : Box2 (W.setCell ⟨w.heap.size + 1, 1, none⟩ (.slice a2 k2 c2)) (w.heap.size + 1) true (.slice a2 k2 c2) := HBX.out.set1 _; have hy2 : Box2 (W.setCell ⟨w.heap.size + 1, 1, none⟩ (.slice a2 k2 c2)) w.heap.size false (.slice none 0 0) := HRES.out.other (by show w.heap.size ≠ w.heap.size + 1; omega) _; have e0 := hx2.cell0; have e1 := hx2.cell1; have e2 := hy2.cell0; have e3 := hy2.cell1; have e4 := hy2.frozen 0; have e5 := hy2.frozen 1; have HY2 := Lib.hid hy2; clear ho2 hr2 hn2 hl2 hk2 hx2 hy2)
    have hr3 : Box2 (((W.setCell ⟨w.heap.size + 1, 1, none⟩ (.slice a2 k2 c2)).setCell ⟨w.heap.size, 0, none⟩ (.bool true)).setCell ⟨w.heap.size, 1, none⟩ (.slice a2 k2 c2)) w.heap.size true (.slice a2 k2 c2) := (HY2.out.set0 true).set1 _
    obtain ⟨FW, hFW⟩ : ∃ FW, FW = ((W.setCell ⟨w.heap.size + 1, 1, none⟩ (.slice a2 k2 c2)).setCell ⟨w.heap.size, 0, none⟩ (.bool true)).setCell ⟨w.heap.size, 1, none⟩ (.slice a2 k2 c2) := ⟨_, rfl⟩
    have hKf : FW.heap[D]? = some (.deferred (some [])) := by
      rw [hFW, Below.heap_setCell _ ⟨w.heap.size, 1, none⟩ _ D (by show D ≠ w.heap.size; omega), Below.heap_setCell _ ⟨w.heap.size, 0, none⟩ _ D (by show D ≠ w.heap.size; omega), Below.heap_setCell _ ⟨w.heap.size + 1, 1, none⟩ _ D (by show D ≠ w.heap.size + 1; omega)]
      exact HK.out
    have hbF : Below w.heap.size w FW := by rw [hFW]; exact ((HBL.out.setCell (p := ⟨w.heap.size + 1, 1, none⟩) (by show w.heap.size ≤ w.heap.size + 1; omega) _).setCell (p := ⟨w.heap.size, 0, none⟩) (Nat.le_refl _) _).setCell (p := ⟨w.heap.size, 1, none⟩) (Nat.le_refl _) _
    have hoF : FW.ownsRow (w.heap.size + 3) 120 1 (.slice a2 k2 c2) k2 (nums .u32 l2) := by
      have hne : ∀ B, B < w.heap.size + 3 → (Value.slice a2 k2 c2).ownBlock = none ∨ (Value.slice a2 k2 c2).ownBlock ≠ some B := fun B hB => .inr (fun e => by have := (HO2.out.lt B e).1; omega)
      rw [hFW]
      exact ((HO2.out.kept (only_setCell (only_refl _ (some (w.heap.size + 1))) (.inl rfl) _) (hne _ (by omega))).kept (only_setCell (only_refl _ (some w.heap.size)) (.inl rfl) _) (hne _ (by omega))).kept (only_setCell (only_refl _ (some w.heap.size)) (.inl rfl) _) (hne _ (by omega))
    rw [← hFW] at hr3 ⊢
    have hrP : Box2 (FW.putObj D (.deferred none)) w.heap.size true (.slice a2 k2 c2) := hr3.kept (grownBy_putObj' FW D (.deferred none)) (fun e => by injection e with e; omega)
    have hoP := ownsRow_putObj hoF (.deferred none) hKf rfl
    have hbP : Below w.heap.size w (FW.putObj D (.deferred none)) := hbF.grown (grownBy_putObj' FW D (.deferred none)) hbF.size (fun k e => by injection e with e; omega)
    refine ⟨by simp, .inl ⟨_, _, rfl, run_takeDeferred hKf, ?_⟩⟩
    have q0 := hrP.cell0
    have q1 := hrP.cell1
    refine ⟨.agg #[.bool true, .slice a2 k2 c2], ?_, a2, c2, l2, ?_, by have := HK2.out; omega, by rw [← HK2.out]; exact owns_base hoP (by omega), by rw [Int.natAbs_neg, Int.natAbs_natCast]; exact HR2.out, hbP⟩
    · simp [results, Tryd.results90, go_sem, q0, q1]
    · rw [HK2.out]; simp; exact hNp
  case stop =>
    rintro D c pre W _ _ h _
    exact h.elim

/-- read, at every canonical integer. -/
theorem read_any (s : ByteArray) (z : Int) (w : World) (hs : s.size ≤ 100000) (hz : s.data.toList = txtZ z) : Calls Tryd.prog 90 #[.string s] w (ReadPost w z) := by
  by_cases h : z < 0
  · have e : txtZ z = 45 :: txtN z.natAbs := by unfold txtZ; rw [if_pos h]
    have h0 : 0 < s.size := by rw [← data_len, hz, e]; simp
    have h1 : ((s[0].toNat : Int) == 45) = true := by
      have := data_head s h0
      rw [hz, e] at this
      injection this with this
      rw [← this]; rfl
    have ht : (s.extract 1 s.size).data.toList = txtN z.natAbs := by rw [tail_data, hz, e]; rfl
    have := read_neg s (s.extract 1 s.size) w (by simp; omega) z.natAbs ht (by omega) h0 h1 rfl
    rwa [show -((z.natAbs : Nat) : Int) = z by omega] at this
  · have e : txtZ z = txtN z.natAbs := by unfold txtZ; rw [if_neg h]
    have h0 : 0 < s.size := by rw [← data_len, hz, e]; exact List.length_pos_iff.2 (txtN_ne _)
    have h1 : ((s[0].toNat : Int) == 45) = false := by
      have := data_head s h0
      rw [hz, e] at this
      rw [beq_eq_false_iff_ne]
      intro h2
      have h3 := u8_eq (c := s[0]) (n := 45) h2 (by omega)
      rw [h3] at this
      exact txtN_head _ this
    have := read_pos s w hs z.natAbs (by rw [hz, e]) h0 h1
    rwa [show ((z.natAbs : Nat) : Int) = z by omega] at this

end Go.Proofs.YtijkefflpojmhaaDoor

namespace Go.Proofs.YtijkefflpojmhaaDoor
open Go.RowKit

theorem decN_mono {a b : Nat} (h : a ≤ b) : (decN a).length ≤ (decN b).length := by
  have h1 : 1 ≤ (decN b).length := List.length_pos_iff.2 (decN_ne b)
  exact (decN_len_le a _ h1).2 (Nat.lt_of_le_of_lt h ((decN_len_le b _ h1).1 (Nat.le_refl _)))

/-- An error is handed back. -/
def ErrPost (w : World) (n : Int) (e : Ending) (w' : World) : Prop := e = .returned (.int .i64 n) ∧ Below w.heap.size w w'

/-- The error of two integers. -/
def bothZ (a b : List UInt8) : Int := if chkZ a = 0 then chkZ b else chkZ a

/-- A text and an error are handed back. -/
def SEPost (w : World) (l : List UInt8) (n : Int) (e : Ending) (w' : World) : Prop := e = .returned (.tuple #[.string ⟨l.toArray⟩, .int .i64 n]) ∧ Below w.heap.size w w'

/-- Euclid's loop. -/
def GcR (w : World) (G : Nat) (gk : Nat) (xv yv : Value) (wr : World) : Prop :=
  ∃ (a b : Option Addr) (n m c d : Nat) (X Y : List Nat), gk = dval Y ∧ xv = .slice a n c ∧ yv = .slice b m d ∧ X.length = n ∧ Y.length = m ∧ n ≤ 5000 ∧ m ≤ 5000 ∧ n ≤ c ∧ m ≤ d ∧
    (∀ x ∈ X, x < 10) ∧ (∀ x ∈ Y, x < 10) ∧ Nums .i64 wr a X ∧ Nums .i64 wr b Y ∧ Nat.gcd (dval X) (dval Y) = G ∧ (decN (dval Y)).length ≤ 1000 ∧ Below w.heap.size w wr

end Go.Proofs.YtijkefflpojmhaaDoor

namespace Go.Proofs.YtijkefflpojmhaaDoor
open Go.RowKit

/-- The place of the first stroke; the length, if there is none. -/
def slN (l : List UInt8) : Nat := (l.takeWhile (fun c => c != 47)).length
theorem slN_le (l : List UInt8) : slN l ≤ l.length := (List.takeWhile_sublist _).length_le
theorem slN_at {l : List UInt8} {k : Nat} (hk : k < l.length) (h0 : ∀ j, j < k → l[j]? ≠ some 47) (h : l[k]? = some 47) : slN l = k := by
  induction l generalizing k with
  | nil => simp at hk
  | cons c l ih =>
    cases k with
    | zero => simp at h; subst h; rfl
    | succ k =>
      have hc : c ≠ 47 := by have := h0 0 (by omega); simpa using this
      have := ih (k := k) (by simpa using hk) (fun j hj => by have := h0 (j + 1) (by omega); simpa using this) (by simpa using h)
      unfold slN at this ⊢
      rw [List.takeWhile_cons, if_pos (by simpa using hc)]
      simp [this]
theorem slN_none {l : List UInt8} (h0 : ∀ j, j < l.length → l[j]? ≠ some 47) : slN l = l.length := by
  induction l with
  | nil => rfl
  | cons c l ih =>
    have hc : c ≠ 47 := by have := h0 0 (by simp); simpa using this
    have := ih (fun j hj => by have := h0 (j + 1) (by simpa using hj); simpa using this)
    unfold slN at this ⊢
    rw [List.takeWhile_cons, if_pos (by simpa using hc)]
    simp [this]
theorem slN_spec {l : List UInt8} (h : slN l < l.length) : l[slN l]? = some 47 ∧ ∀ j, j < slN l → l[j]? ≠ some 47 := by
  induction l with
  | nil => simp at h
  | cons c l ih =>
    by_cases hc : c = 47
    · subst hc
      have e : slN (47 :: l) = 0 := rfl
      rw [e]; exact ⟨rfl, fun j hj => by omega⟩
    · have e : slN (c :: l) = slN l + 1 := by unfold slN; rw [List.takeWhile_cons, if_pos (by simpa using hc)]; rfl
      rw [e] at h ⊢
      obtain ⟨h1, h2⟩ := ih (by simpa using h)
      refine ⟨by simpa using h1, fun j hj => ?_⟩
      cases j with
      | zero => simpa using hc
      | succ j => have := h2 j (by omega); simpa using this
/-- The greatest common divisor of two texts. -/
def gcdB (n d : List UInt8) : Nat := match rdZ n, rdZ d with
  | some x, some y => Nat.gcd x.natAbs y.natAbs
  | _, _ => 0
/-- The error of a fraction's parts. -/
def chkF (n d : List UInt8) : Int :=
  if chkZ n = 12 ∨ chkZ d = 12 ∨ d.head? = some 45 ∨ d = [48] ∨ d = [49] then 12
  else if chkZ n = 14 ∨ chkZ d = 14 then 14 else if gcdB n d = 1 then 0 else 12
/-- The error of a rational. -/
def chkR (l : List UInt8) : Int := if slN l < l.length then chkF (l.take (slN l)) (l.drop (slN l + 1)) else chkZ l
theorem chkR_int {l : List UInt8} (h : slN l = l.length) : chkR l = chkZ l := by unfold chkR; rw [if_neg (by omega)]
theorem chkR_frac {l : List UInt8} {k : Nat} (h : slN l = k) (hk : k < l.length) : chkR l = chkF (l.take k) (l.drop (k + 1)) := by subst h; unfold chkR; rw [if_pos hk]
theorem chkF_12 {n d : List UInt8} (h : chkZ n = 12 ∨ chkZ d = 12 ∨ d.head? = some 45 ∨ d = [48] ∨ d = [49]) : chkF n d = 12 := by unfold chkF; rw [if_pos h]
theorem chkZ_cases (l : List UInt8) : (chkZ l = 12 ∧ rdZ l = none) ∨ ∃ z, rdZ l = some z ∧ l = txtZ z ∧ chkZ l = if bigZ z = true then 14 else 0 := by
  cases e : rdZ l with
  | none => exact .inl ⟨chkZ_none e, rfl⟩
  | some z => right; have := rdZ_some e; exact ⟨z, rfl, this, by rw [this]; exact chkZ_txtZ z⟩
theorem chkZ_ne12 {z : Int} : chkZ (txtZ z) ≠ 12 := by rw [chkZ_txtZ]; split <;> decide
theorem txtZ_head (z : Int) : (txtZ z).head? = some 45 ↔ z < 0 := by
  unfold txtZ
  split
  · simp [*]
  · simp [*, txtN_head]
theorem chkF_some (x y : Int) (hy : 0 ≤ y) (h0 : txtZ y ≠ [48]) (h1 : txtZ y ≠ [49]) :
    chkF (txtZ x) (txtZ y) = if bigZ x = true ∨ bigZ y = true then 14 else if Nat.gcd x.natAbs y.natAbs = 1 then 0 else 12 := by
  unfold chkF gcdB
  rw [if_neg, chkZ_txtZ, chkZ_txtZ, rdZ_txtZ, rdZ_txtZ]
  · cases bigZ x <;> cases bigZ y <;> simp
  · rintro (h | h | h | h | h)
    · exact chkZ_ne12 h
    · exact chkZ_ne12 h
    · rw [txtZ_head] at h; omega
    · exact h0 h
    · exact h1 h
theorem txtZ_1 : txtZ 1 = [49] := by
  have : decN 1 = [1] := by unfold decN; rw [if_neg (by decide), decL_pos (by decide)]; show _ :: decL 0 = _; rw [decL_zero]
  show txtZ ((1 : Nat) : Int) = _
  rw [txtZ_pos]; unfold txtN; rw [this]; rfl
theorem txtZ_one (n : Nat) : txtZ (n : Int) = [49] ↔ n = 1 := by
  constructor
  · intro h
    have : txtZ (n : Int) = txtZ 1 := h.trans txtZ_1.symm
    have := txtZ_inj this; omega
  · rintro rfl; exact txtZ_1
theorem chkZ_one : chkZ [49] = 0 := by
  rw [← txtZ_1, chkZ_txtZ]
  have : decN 1 = [1] := by unfold decN; rw [if_neg (by decide), decL_pos (by decide)]; show _ :: decL 0 = _; rw [decL_zero]
  unfold bigZ; rw [show (1 : Int).natAbs = 1 from rfl, this]; rfl
theorem bigZ_one : bigZ 1 = false := by
  have := chkZ_one
  rw [← txtZ_1, chkZ_txtZ] at this
  cases h : bigZ 1 with
  | false => rfl
  | true => rw [h] at this; cases this

/-- The index of the first stroke, or -1. -/
def slI (l : List UInt8) : Int := if slN l < l.length then (slN l : Int) else -1
theorem slI_at {l : List UInt8} {k : Nat} (h : slN l = k) (hk : k < l.length) : slI l = k := by subst h; unfold slI; rw [if_pos hk]
theorem slI_none {l : List UInt8} (h : slN l = l.length) : slI l = -1 := by unfold slI; rw [if_neg (by omega)]

end Go.Proofs.YtijkefflpojmhaaDoor

namespace Go.Proofs.YtijkefflpojmhaaDoor
open Go.RowKit

/-- The parts of a rational are handed back. -/
def WrPost (w : World) (n d : ByteArray) (e : Ending) (w' : World) : Prop := e = .returned (.tuple #[.string n, .string d]) ∧ Below w.heap.size w w'
/-- A text and no error are handed back. -/
def GPost (w : World) (g : ByteArray) (e : Ending) (w' : World) : Prop := e = .returned (.tuple #[.string g, .int .i64 0]) ∧ Below w.heap.size w w'
/-- Digits, where it succeeds; where it fails. -/
def DigYes (w : World) (z : Int) (e : Ending) (w' : World) : Prop :=
  ∃ a n c, e = .returned (.tuple #[.slice a n c, .bool (decide (z < 0)), .bool true]) ∧ (decN z.natAbs).length = n ∧ Below w.heap.size w w'
def DigNo (w : World) (e : Ending) (w' : World) : Prop := e = .returned (.tuple #[.slice none 0 0, .bool false, .bool false]) ∧ Below w.heap.size w w'
end Go.Proofs.YtijkefflpojmhaaDoor

namespace Go.Proofs.YtijkefflpojmhaaDoor
open Go.RowKit

theorem list_beq {l m : List UInt8} : (l == m) = false ↔ l ≠ m := by simp
theorem SEPost.g {w : World} {l : List UInt8} : SEPost w l 0 = GPost w ⟨l.toArray⟩ := rfl
theorem decN_1 : (decN (1 : Int).natAbs).length = 1 := by
  have : decN 1 = [1] := by unfold decN; rw [if_neg (by decide), decL_pos (by decide)]; show _ :: decL 0 = _; rw [decL_zero]
  show (decN 1).length = 1
  rw [this]; rfl
theorem bigZ_false {z : Int} (h : bigZ z = false) : (decN z.natAbs).length ≤ 1000 := by unfold bigZ at h; simpa using h
theorem bigZ_true {z : Int} (h : bigZ z = true) : 1000 < (decN z.natAbs).length := by unfold bigZ at h; simpa using h

end Go.Proofs.YtijkefflpojmhaaDoor

namespace Go.Proofs.YtijkefflpojmhaaDoor
open Go.RowKit Go.Shelf

/-- Two numbers are handed back. -/
def PairPost (w : World) (x y : Int) (e : Ending) (w' : World) : Prop :=
  ∃ a c la b d lb, e = .returned (.tuple #[.agg #[.bool (decide (x < 0)), .slice a (la : List Nat).length c], .agg #[.bool (decide (y < 0)), .slice b (lb : List Nat).length d], .int .i64 0]) ∧
    la.length ≤ c ∧ lb.length ≤ d ∧ Nums .u32 w' a la ∧ Nums .u32 w' b lb ∧ Rep la x.natAbs ∧ Rep lb y.natAbs ∧ Below w.heap.size w w'
def PairNo (w : World) (n : Int) (e : Ending) (w' : World) : Prop :=
  e = .returned (.tuple #[.agg #[.bool false, .slice none 0 0], .agg #[.bool false, .slice none 0 0], .int .i64 n]) ∧ Below w.heap.size w w'

theorem check_same (s : ByteArray) (w : World) (hs : s.size ≤ 1000000) : Calls Tryd.prog 75 #[.string s] w fun e w' => e = .returned (.int .i64 (chkZ s.data.toList)) ∧ w = w' :=
  (check_any s w hs).mono fun _ _ ⟨a, b⟩ => ⟨a, b.symm⟩

set_option maxHeartbeats 2000000 in
set_option maxRecDepth 100000 in
theorem pair_ok (s t : ByteArray) (x y : Int) (w : World) (hs : s.size ≤ 100000) (ht : t.size ≤ 100000) (hx : s.data.toList = txtZ x) (hy : t.data.toList = txtZ y) (bx : bigZ x = false) (byy : bigZ y = false) :
    Calls Tryd.prog 85 #[.string s, .string t] w (PairPost w x y) := by
  have hc1 := fun W => check_same s W (by omega)
  have hc2 := fun W => check_same t W (by omega)
  rw [hx, chkZ_txtZ, bx] at hc1
  rw [hy, chkZ_txtZ, byy] at hc2
  simp only [Bool.false_eq_true, if_false] at hc1 hc2
  have hr1 := fun W => read_any s x W hs hx
  have hr2 := fun W => read_any t y W ht hy
  have HC1 := Lib.hid hc1
  have HC2 := Lib.hid hc2
  have HR1 := Lib.hid hr1
  have HR2 := Lib.hid hr2
  obtain ⟨W0, hW0⟩ : ∃ W0, W0 = (w.alloc (.cells #[.bool false, .slice none 0 0] 130)).alloc (.cells #[.bool false, .slice none 0 0] 130) := ⟨_, rfl⟩
  have hA0 : Box2 W0 w.heap.size false (.slice none 0 0) := by rw [hW0]; exact Box2.alloc (show Box2 (w.alloc (.cells #[.bool false, .slice none 0 0] 130)) w.heap.size false (.slice none 0 0) from World.alloc_heap_new w _) _
  have hB0 : Box2 W0 (w.heap.size + 1) false (.slice none 0 0) := by
    rw [hW0]
    have := World.alloc_heap_new (w.alloc (.cells #[.bool false, .slice none 0 0] 130)) (.cells #[.bool false, .slice none 0 0] 130)
    rw [World.size_alloc] at this
    exact this
  have hb0 : Below w.heap.size w W0 := by rw [hW0]; exact ((Below.refl _ w).alloc (Nat.le_refl _) _).alloc (by simp) _
  have HA0 := Lib.hid hA0
  have HB0 := Lib.hid hB0
  have HBL := Lib.hid hb0
  have HW0 := Lib.hid hW0
  clear hc1 hc2 hr1 hr2 hx hy bx byy hA0 hB0 hb0 hW0
  go_enter Tryd.func85, Tryd.ntmps85
  go_wp2_with fail
  rw [← HW0.out]
  refine (HC1.out _).mono ?_
  rintro e w' ⟨rfl, rfl⟩
  go_wp2_with fail
  refine (HC2.out _).mono ?_
  rintro e w' ⟨rfl, rfl⟩
  go_wp2_with fail
  refine (HR1.out W0).mono ?_
  rintro e W1 ⟨a, c, la, rfl, hlc1, hn1, hp1, hb1⟩
  obtain ⟨k1, hk1⟩ : ∃ k1, k1 = la.length := ⟨_, rfl⟩
  rw [← hk1] at hlc1 ⊢
  have HN1 := Lib.hid hn1
  have HP1 := Lib.hid hp1
  have HB1 := Lib.hid hb1
  have HK1 := Lib.hid hk1
  clear hn1 hp1 hb1 hk1
  go_wp2_with fail
  refine (HR2.out W1).mono ?_
  rintro e W2 ⟨b, d, lb, rfl, hlc2, hn2, hp2, hb2⟩
  obtain ⟨k2, hk2⟩ : ∃ k2, k2 = lb.length := ⟨_, rfl⟩
  rw [← hk2] at hlc2 ⊢
  have HN2 := Lib.hid hn2
  have HP2 := Lib.hid hp2
  have HK2 := Lib.hid hk2
  have hb02 : Below W0.heap.size W0 W2 := HB1.out.trans (hb2.mono HB1.out.size)
  have HB02 := Lib.hid hb02
  have HBB := Lib.hid hb2
  have hsz : w.heap.size + 1 < W0.heap.size := HB0.out.lt
  have hA2 : Box2 W2 w.heap.size false (.slice none 0 0) := (hb02.block _ HA0.out.lt).trans HA0.out
  have hB2 : Box2 W2 (w.heap.size + 1) false (.slice none 0 0) := (hb02.block _ HB0.out.lt).trans HB0.out
  clear hn2 hp2 hk2 hb2 hb02
  obtain ⟨nx, hnx⟩ : ∃ nx, nx = decide (x < 0) := ⟨_, rfl⟩
  obtain ⟨ny, hny⟩ : ∃ ny, ny = decide (y < 0) := ⟨_, rfl⟩
  rw [← hnx, ← hny]
  have HNX := Lib.hid hnx
  have HNY := Lib.hid hny
  have a0 := hA2.cell0
  have a1 := hA2.cell1
  have af0 := hA2.frozen 0
  have af1 := hA2.frozen 1
  have hA3 : Box2 ((W2.setCell ⟨w.heap.size, 0, none⟩ (.bool nx)).setCell ⟨w.heap.size, 1, none⟩ (.slice a k1 c)) w.heap.size nx (.slice a k1 c) := (hA2.set0 nx).set1 _
  have hB3 : Box2 ((W2.setCell ⟨w.heap.size, 0, none⟩ (.bool nx)).setCell ⟨w.heap.size, 1, none⟩ (.slice a k1 c)) (w.heap.size + 1) false (.slice none 0 0) := (hB2.other (by show w.heap.size + 1 ≠ w.heap.size; omega) _).other (by show w.heap.size + 1 ≠ w.heap.size; omega) _
  have b0 := hB3.cell0
  have b1 := hB3.cell1
  have bf0 := hB3.frozen 0
  have bf1 := hB3.frozen 1
  have hA4 : Box2 ((((W2.setCell ⟨w.heap.size, 0, none⟩ (.bool nx)).setCell ⟨w.heap.size, 1, none⟩ (.slice a k1 c)).setCell ⟨w.heap.size + 1, 0, none⟩ (.bool ny)).setCell ⟨w.heap.size + 1, 1, none⟩ (.slice b k2 d)) w.heap.size nx (.slice a k1 c) := (hA3.other (by show w.heap.size ≠ w.heap.size + 1; omega) _).other (by show w.heap.size ≠ w.heap.size + 1; omega) _
  have hB4 : Box2 ((((W2.setCell ⟨w.heap.size, 0, none⟩ (.bool nx)).setCell ⟨w.heap.size, 1, none⟩ (.slice a k1 c)).setCell ⟨w.heap.size + 1, 0, none⟩ (.bool ny)).setCell ⟨w.heap.size + 1, 1, none⟩ (.slice b k2 d)) (w.heap.size + 1) ny (.slice b k2 d) := (hB3.set0 ny).set1 _
  have HA4 := Lib.hid hA4
  have HB4 := Lib.hid hB4
  clear hnx hny hA2 hB2 hA3 hB3 hA4 hB4
  have ow1 : W2.ownsRow W0.heap.size 120 1 (.slice a k1 c) k1 (nums .u32 la) := by
    have := HN1.out
    rw [← HK1.out] at this
    obtain ⟨h1, h2⟩ := this
    refine ⟨h1, ?_⟩
    rcases h2 with h | ⟨g, cap, cur, e1, e2, e3, e4⟩
    · exact .inl h
    · exact .inr ⟨g, cap, cur, e1, e2, (HBB.out.block g (Array.getElem?_eq_some_iff.1 e3).1).trans e3, e4⟩
  have ow2 : W2.ownsRow W0.heap.size 120 1 (.slice b k2 d) k2 (nums .u32 lb) := by
    have := HN2.out
    rw [← HK2.out] at this
    exact owns_base this HB1.out.size
  have hkeep : ∀ {v : Value} {k : Nat} {xs : List Value} {W : World} {B : Nat} {u : Value} {i : Nat}, W.ownsRow W0.heap.size 120 1 v k xs → B < W0.heap.size → (W.setCell ⟨B, i, none⟩ u).ownsRow W0.heap.size 120 1 v k xs := fun {v k xs W B u i} h hB =>
    h.kept (row := some B) (only_setCell (only_refl _ _) (.inl rfl) _) (.inr (fun e => by have := (h.lt B e).1; omega))
  have ow3 := hkeep (hkeep (hkeep (hkeep ow1 (B := w.heap.size) (u := .bool nx) (i := 0) (by omega)) (B := w.heap.size) (u := .slice a k1 c) (i := 1) (by omega)) (B := w.heap.size + 1) (u := .bool ny) (i := 0) (by omega)) (B := w.heap.size + 1) (u := .slice b k2 d) (i := 1) (by omega)
  have ow4 := hkeep (hkeep (hkeep (hkeep ow2 (B := w.heap.size) (u := .bool nx) (i := 0) (by omega)) (B := w.heap.size) (u := .slice a k1 c) (i := 1) (by omega)) (B := w.heap.size + 1) (u := .bool ny) (i := 0) (by omega)) (B := w.heap.size + 1) (u := .slice b k2 d) (i := 1) (by omega)
  have OW3 := Lib.hid ow3
  have OW4 := Lib.hid ow4
  clear ow1 ow2 hkeep ow3 ow4
  go_wp2_with fail
  have q0 := HA4.out.cell0
  have q1 := HA4.out.cell1
  have q2 := HB4.out.cell0
  have q3 := HB4.out.cell1
  refine bodyPost_ret (v := .tuple #[.agg #[.bool nx, .slice a k1 c], .agg #[.bool ny, .slice b k2 d], .int .i64 0]) (by simp [results, Tryd.results85, go_sem, q0, q1, q2, q3]) rfl ?_
  obtain ⟨a3, c3, e3, hl3, hlc3, hn3⟩ := nums_of_owns OW3.out
  injection e3 with e31 _ e33
  subst e31 e33
  obtain ⟨a4, c4, e4, hl4, hlc4, hn4⟩ := nums_of_owns OW4.out
  injection e4 with e41 _ e43
  subst e41 e43
  refine ⟨a, c, la, b, d, lb, by rw [HNX.out, HNY.out, hl3, hl4], by omega, by omega, hn3, hn4, HP1.out, HP2.out, ?_⟩
  have b2 := HBL.out.trans (HB02.out.mono HBL.out.size)
  exact (((b2.setCell (p := ⟨w.heap.size, 0, none⟩) (Nat.le_refl _) _).setCell (p := ⟨w.heap.size, 1, none⟩) (Nat.le_refl _) _).setCell (p := ⟨w.heap.size + 1, 0, none⟩) (by show w.heap.size ≤ w.heap.size + 1; omega) _).setCell (p := ⟨w.heap.size + 1, 1, none⟩) (by show w.heap.size ≤ w.heap.size + 1; omega) _

set_option maxHeartbeats 2000000 in
set_option maxRecDepth 100000 in
theorem pair_bad (s t : ByteArray) (w : World) (hs : s.size ≤ 100000) (ht : t.size ≤ 100000) (h : bothZ s.data.toList t.data.toList ≠ 0) :
    Calls Tryd.prog 85 #[.string s, .string t] w (PairNo w (bothZ s.data.toList t.data.toList)) := by
  have hc1 := fun W => check_same s W (by omega)
  have hc2 := fun W => check_same t W (by omega)
  obtain ⟨E, hE⟩ : ∃ E, E = bothZ s.data.toList t.data.toList := ⟨_, rfl⟩
  obtain ⟨x, hx⟩ : ∃ x, x = chkZ s.data.toList := ⟨_, rfl⟩
  obtain ⟨y, hy⟩ : ∃ y, y = chkZ t.data.toList := ⟨_, rfl⟩
  rw [← hx] at hc1
  rw [← hy] at hc2
  rw [← hE] at h ⊢
  unfold bothZ at hE
  rw [← hx, ← hy] at hE
  have HC1 := Lib.hid hc1
  have HC2 := Lib.hid hc2
  have HE := Lib.hid hE
  have tE : (E != 0) = true := by simpa using h
  clear hc1 hc2 hx hy hE h
  by_cases hx0 : x = 0
  · have e1 : E = y := by rw [HE.out, if_pos hx0]
    subst e1
    subst hx0
    go_enter Tryd.func85, Tryd.ntmps85
    go_wp2_with fail
    refine (HC1.out _).mono ?_
    rintro e w1 ⟨rfl, hw1⟩
    rw [← hw1]
    clear hw1
    go_wp2_with fail
    refine (HC2.out _).mono ?_
    rintro e w2 ⟨rfl, hw1⟩
    rw [← hw1]
    clear hw1
    go_wp2_with fail
    go_region
    all_goals
      go_wp2_with fail
      refine bodyPost_ret (v := .tuple #[.agg #[.bool false, .slice none 0 0], .agg #[.bool false, .slice none 0 0], .int .i64 E]) (by simp [results, Tryd.results85, go_sem]) rfl ⟨rfl, ?_⟩
      exact (((Below.refl _ w).alloc (Nat.le_refl _) _).alloc (by simp) _).drew
  · have e1 : E = x := by rw [HE.out, if_neg hx0]
    subst e1
    have t1 : (E == 0) = false := by simpa using hx0
    clear hx0
    go_enter Tryd.func85, Tryd.ntmps85
    go_wp2_with fail
    refine (HC1.out _).mono ?_
    rintro e w1 ⟨rfl, hw1⟩
    rw [← hw1]
    clear hw1
    go_wp2_with fail
    go_region
    all_goals
      go_wp2_with fail
      refine bodyPost_ret (v := .tuple #[.agg #[.bool false, .slice none 0 0], .agg #[.bool false, .slice none 0 0], .int .i64 E]) (by simp [results, Tryd.results85, go_sem]) rfl ⟨rfl, ?_⟩
      exact (((Below.refl _ w).alloc (Nat.le_refl _) _).alloc (by simp) _).drew

/-- divide, at whatever two magnitudes. -/
theorem divide_any (a b : Option Addr) (n m c d A B : Nat) (la lb : List Nat) (w : World) (hla : la.length = n) (hlb : lb.length = m) (hn : n ≤ 100000) (hm : m ≤ 100000) (hnc : n ≤ c)
    (ra : Rep la A) (rb : Rep lb B) (ha : Nums .u32 w a la) (hb : Nums .u32 w b lb) (h0 : 0 < B) :
    Calls Tryd.prog 86 #[.slice a n c, .slice b m d] w (QRPost w A B) := by
  rcases Nat.lt_or_ge A B with h | h
  · exact divide_small a b n m c d A B la lb w hla hlb hn hm hnc ra rb ha hb h
  · match m, hlb with
    | 0, hlb =>
      rw [List.eq_nil_of_length_eq_zero hlb] at rb
      have := rb.2.2
      simp [val] at this; omega
    | 1, hlb => exact divide_one a b n c d A B la lb w hla hlb hn ra rb ha hb h
    | p + 2, hlb => exact divide_long a b n p c d A B la lb w hla hlb hn (by omega) ra rb ha hb h
theorem MagAt.len {w : World} {v : Value} {N k : Nat} (h : MagAt w v N) (hk : N < Bs ^ k) : ∃ a n c l, v = .slice a n c ∧ (l : List Nat).length = n ∧ n ≤ k ∧ n ≤ c ∧ Nums .u32 w a l ∧ Rep l N := by
  obtain ⟨a, c, l, h1, h2, h3, h4⟩ := h
  exact ⟨a, _, c, l, h1, rfl, rep_len_of l N k h4 hk, h2, h3, h4⟩
/-- The number of groups that a number of 1000 digits may have, and one more. -/
def KM : Nat := 112
theorem KM_eq : KM = 112 := rfl
theorem big_bound {z : Int} (h : bigZ z = false) : z.natAbs < Bs ^ KM := by
  have h1 := bigZ_false h
  obtain ⟨k, hk⟩ : ∃ k, k = 1000 := ⟨_, rfl⟩
  rw [← hk] at h1
  have h2 := (decN_len_le z.natAbs k (by omega)).1 h1
  rw [Bs_pow KM]
  exact Nat.lt_trans h2 (Nat.pow_lt_pow_right (by omega) (by rw [KM_eq]; omega))
theorem bigZ_le {m n : Nat} (h : m ≤ n) (hb : bigZ (n : Int) = false) : bigZ (m : Int) = false := by
  have h1 := bigZ_false hb
  have h2 := decN_mono h
  unfold bigZ
  simp only [Int.natAbs_natCast] at h1 ⊢
  simp; omega

/-- Euclid's loop in the program: the two numbers lie in two blocks. -/
def GcM (w : World) (gx gy G : Nat) (gk : Nat) (wr : World) : Prop :=
  ∃ (X Y : Nat) (nx ny : Bool) (vx vy : Value), gk = Y ∧ Box2 wr gx nx vx ∧ Box2 wr gy ny vy ∧ MagAt wr vx X ∧ MagAt wr vy Y ∧ Nat.gcd X Y = G ∧ X < Bs ^ KM ∧ Y < Bs ^ KM ∧ Below w.heap.size w wr

end Go.Proofs.YtijkefflpojmhaaDoor

namespace Go.Proofs.YtijkefflpojmhaaDoor
open Go.RowKit Go.Shelf

theorem nums_box {W : World} {B : Nat} {neg : Bool} {a' : Option Addr} {n' c' : Nat} {a : Option Addr} {l : List Nat} (h : Box2 W B neg (.slice a' n' c')) (hn : Nums .u32 W a l) (u : Value) (i : Nat) : Nums .u32 (W.setCell ⟨B, i, none⟩ u) a l := fun e he => by
  obtain ⟨g, o, e1, hg, hc⟩ := hn e he
  refine ⟨g, o, e1, by simpa [World.setCell] using hg, ?_⟩
  have hne : B ≠ g := by
    intro hB
    subst hB
    unfold World.cell? at hc
    rw [show W.heap[B]? = _ from h] at hc
    simp only at hc
    match ho : o + e, hc with
    | 0, hc => simp at hc
    | 1, hc => simp at hc
    | k + 2, hc => simp at hc
  rw [World.cell?_setCell_other _ _ _ _ (by intro h; injection h with h; exact hne h)]
  exact hc
theorem magAt_box {W : World} {B : Nat} {neg : Bool} {a' : Option Addr} {n' c' : Nat} {v : Value} {N : Nat} (h : Box2 W B neg (.slice a' n' c')) (hm : MagAt W v N) (u : Value) (i : Nat) : MagAt (W.setCell ⟨B, i, none⟩ u) v N := by
  obtain ⟨a, c, l, h1, h2, h3, h4⟩ := hm
  exact ⟨a, c, l, h1, h2, nums_box h h3 u i, h4⟩

set_option maxHeartbeats 2000000 in
set_option maxRecDepth 100000 in
theorem gcd_bad (s t : ByteArray) (w : World) (hs : s.size ≤ 100000) (ht : t.size ≤ 100000) (h : bothZ s.data.toList t.data.toList ≠ 0) :
    Calls Tryd.prog 76 #[.string s, .string t] w (SEPost w [] (bothZ s.data.toList t.data.toList)) := by
  have hp := pair_bad s t w hs ht h
  obtain ⟨E, hE⟩ : ∃ E, E = bothZ s.data.toList t.data.toList := ⟨_, rfl⟩
  rw [← hE] at hp h ⊢
  have HP := Lib.hid hp
  have t1 : (E != 0) = true := by simpa using h
  clear hp hE h
  go_enter Tryd.func76, Tryd.ntmps76
  go_wp2_with fail
  refine HP.out.mono ?_
  rintro e w1 ⟨rfl, b1⟩
  have B1 := Lib.hid b1
  clear b1
  go_wp2_with fail
  go_ret2
  exact ⟨rfl, (B1.out.alloc B1.out.size _).alloc (by have := B1.out.size; simp; omega) _⟩

set_option maxHeartbeats 4000000 in
set_option maxRecDepth 100000 in
theorem gcd_good (s t : ByteArray) (x y : Int) (w : World) (hs : s.size ≤ 100000) (ht : t.size ≤ 100000) (hx : s.data.toList = txtZ x) (hy : t.data.toList = txtZ y) (bx : bigZ x = false) (byy : bigZ y = false) :
    Calls Tryd.prog 76 #[.string s, .string t] w (GPost w ⟨(txtZ (Nat.gcd x.natAbs y.natAbs : Int)).toArray⟩) := by
  have hp := pair_ok s t x y w hs ht hx hy bx byy
  obtain ⟨G, hG⟩ : ∃ G, G = Nat.gcd x.natAbs y.natAbs := ⟨_, rfl⟩
  rw [← hG]
  have hGb : bigZ (G : Int) = false := by
    rcases Nat.eq_zero_or_pos x.natAbs with h | h
    · rw [hG, h, Nat.gcd_zero_left]
      refine bigZ_le (n := y.natAbs) (Nat.le_refl _) ?_
      unfold bigZ at byy ⊢; simpa using byy
    · refine bigZ_le (n := x.natAbs) (by rw [hG]; exact Nat.gcd_le_left _ h) ?_
      unfold bigZ at bx ⊢; simpa using bx
  have hbx := big_bound bx
  have hby := big_bound byy
  have HP := Lib.hid hp
  have HG := Lib.hid hG
  have HGB := Lib.hid hGb
  have HBX := Lib.hid hbx
  have HBY := Lib.hid hby
  clear hp hx hy bx byy hG hGb hbx hby
  go_enter Tryd.func76, Tryd.ntmps76
  go_wp2_with fail
  refine HP.out.mono ?_
  rintro e w1 ⟨a, c, la, b, d, lb, rfl, hlc, hld, hna, hnb, hra, hrb, b1⟩
  obtain ⟨nx, hnx⟩ : ∃ nx, nx = decide (x < 0) := ⟨_, rfl⟩
  obtain ⟨ny, hny⟩ : ∃ ny, ny = decide (y < 0) := ⟨_, rfl⟩
  obtain ⟨k1, hk1⟩ : ∃ k1, k1 = la.length := ⟨_, rfl⟩
  obtain ⟨k2, hk2⟩ : ∃ k2, k2 = lb.length := ⟨_, rfl⟩
  rw [← hnx, ← hny, ← hk1, ← hk2]
  have HMA := Lib.hid (⟨a, c, la, by rw [hk1], hlc, hna, hra⟩ : MagAt w1 (.slice a k1 c) x.natAbs)
  have HMB := Lib.hid (⟨b, d, lb, by rw [hk2], hld, hnb, hrb⟩ : MagAt w1 (.slice b k2 d) y.natAbs)
  have B1 := Lib.hid b1
  clear hlc hld hna hnb hra hrb b1 hnx hny hk1 hk2
  obtain ⟨W2, hW2⟩ : ∃ W2, W2 = (w1.alloc (.cells #[.bool nx, .slice a k1 c] 130)).alloc (.cells #[.bool ny, .slice b k2 d] 130) := ⟨_, rfl⟩
  have hA0 : Box2 W2 w1.heap.size nx (.slice a k1 c) := by rw [hW2]; exact Box2.alloc (show Box2 (w1.alloc (.cells #[.bool nx, .slice a k1 c] 130)) w1.heap.size nx (.slice a k1 c) from World.alloc_heap_new w1 _) _
  have hB0 : Box2 W2 (w1.heap.size + 1) ny (.slice b k2 d) := by
    rw [hW2]
    have := World.alloc_heap_new (w1.alloc (.cells #[.bool nx, .slice a k1 c] 130)) (.cells #[.bool ny, .slice b k2 d] 130)
    rw [World.size_alloc] at this
    exact this
  have hbl1 : Below w1.heap.size w1 W2 := by rw [hW2]; exact ((Below.refl _ w1).alloc (Nat.le_refl _) _).alloc (by simp) _
  have hst : GcM w w1.heap.size (w1.heap.size + 1) G y.natAbs W2 :=
    ⟨x.natAbs, y.natAbs, nx, ny, _, _, rfl, hA0, hB0, MagAt.below HMA.out hbl1, MagAt.below HMB.out hbl1, HG.out.symm, HBX.out, HBY.out, B1.out.trans (hbl1.mono B1.out.size)⟩
  have ST := Lib.hid hst
  have HW2 := Lib.hid hW2
  have SZ := Lib.hid B1.out.size
  clear hW2 hA0 hB0 hbl1 hst
  go_wp2_with fail
  rw [← HW2.out]
  obtain ⟨gx, hgx⟩ : ∃ gx, gx = w1.heap.size := ⟨_, rfl⟩
  have hgw : w.heap.size ≤ gx := by rw [hgx]; exact SZ.out
  have GW := Lib.hid hgw
  rw [← hgx] at ST ⊢
  clear hgw hgx HW2
  go_loopg [] y.natAbs (fun k wr => GcM w gx (gx + 1) G k wr)
  case atStart => exact ST.out
  case round =>
    obtain ⟨w4, rfl⟩ : ∃ w4 : World, w4 = wr := ⟨_, rfl⟩
    obtain ⟨X, Y, mx, my, vx, vy, hk, h1, h2, h3, h4, h5, h6, h7, h8⟩ := hrel
    have hk' := hk.symm
    clear hk
    subst hk'
    obtain ⟨a1, n1, c1, l1, rfl, e1, e2, e3, e4, e5⟩ := h3.len h6
    obtain ⟨a2, n2, c2, l2, rfl, f1, f2, f3, f4, f5⟩ := h4.len h7
    rw [KM_eq] at e2 f2
    have H1 := Lib.hid h1
    have H2 := Lib.hid h2
    have N1 := Lib.hid e4
    have N2 := Lib.hid f4
    have R1 := Lib.hid e5
    have R2 := Lib.hid f5
    have L1 := Lib.hid e1
    have L2 := Lib.hid f1
    have HM1 := Lib.hid h3
    have HM2 := Lib.hid h4
    have GG := Lib.hid h5
    have BB := Lib.hid h8
    have P1 := Lib.hid h6
    have P2 := Lib.hid h7
    by_cases hy0 : Y = 0
    · subst hy0
      have hl : l2 = [] := rep_zero l2 f5
      have hn : n2 = 0 := by rw [← f1, hl]; rfl
      subst hn
      have hG2 : X = G := by rw [← h5, Nat.gcd_zero_right]
      have hwr := write_any false a1 n1 c1 X l1 w4 e1 (by omega) e5 e4
      have ez : (if false = true then -(X : Int) else (X : Int)) = (G : Int) := by simp [hG2]
      rw [ez] at hwr
      have HWR := Lib.hid hwr
      clear h1 h2 h3 h4 h5 h6 h7 h8 e1 e4 e5 f1 f4 f5 hl hG2 hwr ez
      have q1 := H1.out.cell1
      have q2 := H2.out.cell1
      go_wp2_with fail
      refine HWR.out.mono ?_
      rintro e w5 ⟨hq, b5⟩
      rcases hq with ⟨hq, _⟩ | ⟨_, rfl⟩
      · rw [HGB.out] at hq; cases hq
      have B5 := Lib.hid b5
      clear b5
      go_wp2_with fail
      go_ret2
      exact ⟨rfl, BB.out.trans (B5.out.mono BB.out.size)⟩
    · have hyp : 0 < Y := by omega
      have hn : 0 < n2 := by
        rcases Nat.eq_zero_or_pos n2 with h | h
        · rw [h] at f1
          rw [List.eq_nil_of_length_eq_zero f1] at f5
          have := f5.2.2
          simp [val] at this; omega
        · exact h
      have hdv := divide_any a1 a2 n1 n2 c1 c2 X Y l1 l2 w4 e1 f1 (by omega) (by omega) e3 e5 f5 e4 f4 hyp
      have HDV := Lib.hid hdv
      have HYP := Lib.hid hyp
      have q1 := H1.out.cell1
      have q2 := H2.out.cell1
      clear h1 h2 h3 h4 h5 h6 h7 h8 e1 e4 e5 f1 f4 f5 hdv hy0 hyp
      go_wp2_with fail
      refine HDV.out.mono ?_
      rintro e w5 ⟨v1, v2, rfl, m1, m2, b5⟩
      obtain ⟨a3, n3, c3, e3, m3⟩ : ∃ a3 n3 c3, v2 = .slice a3 n3 c3 ∧ MagAt w5 (.slice a3 n3 c3) (X % Y) := by
        obtain ⟨a3, c3, l3, q, _⟩ := id m2
        exact ⟨a3, _, c3, q, q ▸ m2⟩
      subst e3
      clear m2
      have m2 := m3
      clear m3
      have hx5 : Box2 w5 gx mx (.slice a1 n1 c1) := (b5.block _ H1.out.lt).trans H1.out
      have hy5 : Box2 w5 (gx + 1) my (.slice a2 n2 c2) := (b5.block _ H2.out.lt).trans H2.out
      have hx6 : Box2 (w5.setCell ⟨gx, 1, none⟩ (.slice a2 n2 c2)) gx mx (.slice a2 n2 c2) := hx5.set1 _
      have hy6 : Box2 (w5.setCell ⟨gx, 1, none⟩ (.slice a2 n2 c2)) (gx + 1) my (.slice a2 n2 c2) := hy5.other (by show gx + 1 ≠ gx; omega) _
      have hx7 : Box2 ((w5.setCell ⟨gx, 1, none⟩ (.slice a2 n2 c2)).setCell ⟨gx + 1, 1, none⟩ (.slice a3 n3 c3)) gx mx (.slice a2 n2 c2) := hx6.other (by show gx ≠ gx + 1; omega) _
      have hy7 : Box2 ((w5.setCell ⟨gx, 1, none⟩ (.slice a2 n2 c2)).setCell ⟨gx + 1, 1, none⟩ (.slice a3 n3 c3)) (gx + 1) my (.slice a3 n3 c3) := hy6.set1 _
      have hlt : X % Y < Y := Nat.mod_lt _ HYP.out
      have hrel : GcM w gx (gx + 1) G (X % Y) ((w5.setCell ⟨gx, 1, none⟩ (.slice a2 n2 c2)).setCell ⟨gx + 1, 1, none⟩ (.slice a3 n3 c3)) := by
        refine ⟨Y, X % Y, mx, my, _, _, rfl, hx7, hy7, ?_, ?_, ?_, P2.out, by have := P2.out; omega, ?_⟩
        · exact magAt_box hy6 (magAt_box hx5 (HM2.out.below b5) _ _) _ _
        · exact magAt_box hy6 (magAt_box hx5 m2 _ _) _ _
        · rw [Nat.gcd_comm, ← Nat.gcd_rec, Nat.gcd_comm]; exact GG.out
        · exact ((BB.out.trans (b5.mono BB.out.size)).setCell (p := ⟨gx, 1, none⟩) GW.out _).setCell (p := ⟨gx + 1, 1, none⟩) (by have := GW.out; show w.heap.size ≤ gx + 1; omega) _
      have HREL := Lib.hid hrel
      have HLT := Lib.hid hlt
      have r1 := hx5.cell1
      have r2 := hy5.cell1
      have r3 := hx5.frozen 1
      have r4 := hy6.frozen 1
      have r5 := hy6.cell1
      clear m1 m2 b5 hx5 hy5 hx6 hy6 hx7 hy7 hlt hrel
      go_wp2_with fail
      go_roundg (X % Y)
      case measure => exact HLT.out
      case rel => exact HREL.out

end Go.Proofs.YtijkefflpojmhaaDoor
