/-
  The reference's Plus. No condition. The reference's Times. No condition.
-/
import Derived.Test.YtnmiiimbjojcmaaGreatDoorVe
import Derived.BigRegion
namespace Go.Proofs.YtnmiiimbjojcmaaGreatDoor
open Go.RowKit

/-- The loop of the reference's addition. -/
def PluR (w : World) (la lb : List Nat) (n : Nat) (o b i : Value) (wr : World) : Prop :=
  ∃ (k br : Nat) (out : List Nat), k ≤ n ∧ i = .int .i64 k ∧ b = .int .i64 br ∧ wr.ownsRow w.heap.size 3 1 o k (nums .i64 out) ∧ DPlusAt la lb out k br ∧ Below w.heap.size w wr

set_option maxHeartbeats 1000000 in
set_option maxRecDepth 100000 in
theorem dplus_r (a b : Option Addr) (n m c d : Nat) (la lb : List Nat) (w : World) (hla : la.length = n) (hlb : lb.length = m) (hn : n ≤ 900000) (hm : m ≤ 900000)
    (da : ∀ x ∈ la, x < 10) (db : ∀ x ∈ lb, x < 10) (ha : Nums .i64 w a la) (hb : Nums .i64 w b lb) (hnm : n < m) :
    Calls Tryz.prog 115 #[.slice a n c, .slice b m d] w (NewNums .i64 3 w fun l => l.length = m + 1 ∧ (∀ x ∈ l, x < 10) ∧ dval l = dval la + dval lb) := by
  obtain ⟨i0, hi, hz0, hz1, hz2⟩ := info_parts infoInt
  have HLA := Lib.hid hla
  have HA := Lib.hid ha
  have HB := Lib.hid hb
  have DA := Lib.hid da
  have DB := Lib.hid db
  have HLB := Lib.hid hlb
  clear hla hlb ha hb da db
  go_enter Tryz.func115, Tryz.ntmps115
  go_wp2_with fail
  go_loopw [5, 6, 7] (PluR w la lb (m + 1)) (fun _ _ i _ => m + 1 - (intOf i).toNat)
  case atStart => exact ⟨0, 0, [], Nat.zero_le _, rfl, rfl, World.ownsRow_nil _ _ _ _, dplus_start _ _, Below.refl _ _⟩
  case round =>
    obtain ⟨k, br, out, hk, rfl, rfl, ho, hat, hbl⟩ := hrel
    have HO := Lib.hid ho
    have HT := Lib.hid hat
    have HBL := Lib.hid hbl
    clear ho hat hbl
    by_cases hlt : k ≤ m
    · obtain ⟨x, hx⟩ : ∃ x, x = la.getD k 0 := ⟨_, rfl⟩
      obtain ⟨y, hy⟩ : ∃ y, y = lb.getD k 0 := ⟨_, rfl⟩
      have cA := at_any a n c k la wr HLA.out (by omega) (HA.out.below HBL.out)
      have cB := at_any b m d k lb wr HLB.out (by omega) (HB.out.below HBL.out)
      rw [← hx] at cA
      rw [← hy] at cB
      have hx10 : x < 10 := by rw [hx]; exact digD_lt la k DA.out
      have hy10 : y < 10 := by rw [hy]; exact digD_lt lb k DB.out
      have hbr : br ≤ 1 := HT.out.2.2.1
      have st := dplus_step la lb out k br DA.out DB.out HT.out
      rw [← hx, ← hy] at st
      obtain ⟨z, hz⟩ : ∃ z, z = (x + y + br) % 10 := ⟨_, rfl⟩
      obtain ⟨z', hz'⟩ : ∃ z', z' = (x + y + br) / 10 := ⟨_, rfl⟩
      rw [← hz, ← hz'] at st
      have CA := Lib.hid cA
      have CB := Lib.hid cB
      have ST := Lib.hid st
      clear hx hy cA cB st
      have w1 : IntKind.i64.wrap ((x : Int) + (y : Int)) = (x : Int) + (y : Int) := by rw [IntKind.wrap_i64]; omega
      have w2 : IntKind.i64.wrap ((x : Int) + (y : Int) + (br : Int)) = (x : Int) + (y : Int) + (br : Int) := by rw [IntKind.wrap_i64]; omega
      have w3 : ((x : Int) + (y : Int) + (br : Int)).tmod 10 = (z : Int) := by rw [Int.tmod_eq_emod_of_nonneg (by omega)]; omega
      have w4 : ((x : Int) + (y : Int) + (br : Int)).tdiv 10 = (z' : Int) := by rw [Int.tdiv_eq_ediv_of_nonneg (by omega)]; omega
      have hz10 : z < 10 := by omega
      have hz2' : z' < 10 := by omega
      clear hz hz'
      have HO' := HO.out
      have HTo := HT.out
      go_wp2_with fail
      refine CA.out.mono ?_
      rintro e w' ⟨rfl, rfl⟩
      go_wp2_with fail
      refine CB.out.mono ?_
      rintro e w' ⟨rfl, rfl⟩
      clear HO' HTo
      go_wp2_with (at_builtin; refine wpList_append1 _ rfl (.tmp 27) (.tmp 30) 58 rfl w.heap.size 3 i0 (.int .i64 0) 8 Tryz.underlying58 hi hz0 hz1 hz2 rfl _ _ _ rfl (HO.out.alloc _) ⟨wr.heap.size, 0, none⟩ 1 (.int .i64 z) rfl ?c1 rfl ?c3 ?c4 ?c5 ?_)
      case c1 => simp
      case c3 => unfold maxLen; omega
      case c4 => omega
      case c5 => have := HBL.out.size; simp; omega
      intro v1 w1 ho1 hg1 hne1 hpl1
      have n1 : Below w.heap.size w w1 := (HBL.out.alloc HBL.out.size _).grown hg1 (by have := HBL.out.size; simp; omega) (fun k hk => (HO.out.lt k hk).1)
      rw [nums_snoc] at ho1
      have HO1 := Lib.hid ho1
      have N1 := Lib.hid n1
      clear ho1 n1 hg1 hne1 hpl1
      go_wp2_with fail
      go_roundw
      case rel => exact ⟨k + 1, z', out ++ [z], by omega, by go_num, rfl, HO1.out, ST.out, N1.out⟩
      case measure => simp [intOf] <;> omega
    · obtain rfl : k = m + 1 := by omega
      have hv := dplus_end la lb out (m + 1) br DA.out DB.out (by rw [HLA.out]; omega) (by rw [HLB.out]; omega) HT.out
      have HV := Lib.hid hv
      clear hv
      go_wp2_with fail
      go_ret
      have ho := HO.out
      rw [← HT.out.1] at ho
      exact ⟨_, out, rfl, ho, ⟨HT.out.1, HT.out.2.1, HV.out⟩, HBL.out⟩

set_option maxHeartbeats 1000000 in
set_option maxRecDepth 100000 in
theorem dplus_l (a b : Option Addr) (n m c d : Nat) (la lb : List Nat) (w : World) (hla : la.length = n) (hlb : lb.length = m) (hn : n ≤ 900000) (hm : m ≤ 900000)
    (da : ∀ x ∈ la, x < 10) (db : ∀ x ∈ lb, x < 10) (ha : Nums .i64 w a la) (hb : Nums .i64 w b lb) (hnm : m ≤ n) :
    Calls Tryz.prog 115 #[.slice a n c, .slice b m d] w (NewNums .i64 3 w fun l => l.length = n + 1 ∧ (∀ x ∈ l, x < 10) ∧ dval l = dval la + dval lb) := by
  obtain ⟨i0, hi, hz0, hz1, hz2⟩ := info_parts infoInt
  have HLA := Lib.hid hla
  have HA := Lib.hid ha
  have HB := Lib.hid hb
  have DA := Lib.hid da
  have DB := Lib.hid db
  have HLB := Lib.hid hlb
  clear hla hlb ha hb da db
  go_enter Tryz.func115, Tryz.ntmps115
  go_wp2_with fail
  go_loopw [5, 6, 7] (PluR w la lb (n + 1)) (fun _ _ i _ => n + 1 - (intOf i).toNat)
  case atStart => exact ⟨0, 0, [], Nat.zero_le _, rfl, rfl, World.ownsRow_nil _ _ _ _, dplus_start _ _, Below.refl _ _⟩
  case round =>
    obtain ⟨k, br, out, hk, rfl, rfl, ho, hat, hbl⟩ := hrel
    have HO := Lib.hid ho
    have HT := Lib.hid hat
    have HBL := Lib.hid hbl
    clear ho hat hbl
    by_cases hlt : k ≤ n
    · obtain ⟨x, hx⟩ : ∃ x, x = la.getD k 0 := ⟨_, rfl⟩
      obtain ⟨y, hy⟩ : ∃ y, y = lb.getD k 0 := ⟨_, rfl⟩
      have cA := at_any a n c k la wr HLA.out (by omega) (HA.out.below HBL.out)
      have cB := at_any b m d k lb wr HLB.out (by omega) (HB.out.below HBL.out)
      rw [← hx] at cA
      rw [← hy] at cB
      have hx10 : x < 10 := by rw [hx]; exact digD_lt la k DA.out
      have hy10 : y < 10 := by rw [hy]; exact digD_lt lb k DB.out
      have hbr : br ≤ 1 := HT.out.2.2.1
      have st := dplus_step la lb out k br DA.out DB.out HT.out
      rw [← hx, ← hy] at st
      obtain ⟨z, hz⟩ : ∃ z, z = (x + y + br) % 10 := ⟨_, rfl⟩
      obtain ⟨z', hz'⟩ : ∃ z', z' = (x + y + br) / 10 := ⟨_, rfl⟩
      rw [← hz, ← hz'] at st
      have CA := Lib.hid cA
      have CB := Lib.hid cB
      have ST := Lib.hid st
      clear hx hy cA cB st
      have w1 : IntKind.i64.wrap ((x : Int) + (y : Int)) = (x : Int) + (y : Int) := by rw [IntKind.wrap_i64]; omega
      have w2 : IntKind.i64.wrap ((x : Int) + (y : Int) + (br : Int)) = (x : Int) + (y : Int) + (br : Int) := by rw [IntKind.wrap_i64]; omega
      have w3 : ((x : Int) + (y : Int) + (br : Int)).tmod 10 = (z : Int) := by rw [Int.tmod_eq_emod_of_nonneg (by omega)]; omega
      have w4 : ((x : Int) + (y : Int) + (br : Int)).tdiv 10 = (z' : Int) := by rw [Int.tdiv_eq_ediv_of_nonneg (by omega)]; omega
      have hz10 : z < 10 := by omega
      have hz2' : z' < 10 := by omega
      clear hz hz'
      have HO' := HO.out
      have HTo := HT.out
      go_wp2_with fail
      refine CA.out.mono ?_
      rintro e w' ⟨rfl, rfl⟩
      go_wp2_with fail
      refine CB.out.mono ?_
      rintro e w' ⟨rfl, rfl⟩
      clear HO' HTo
      go_wp2_with (at_builtin; refine wpList_append1 _ rfl (.tmp 27) (.tmp 30) 58 rfl w.heap.size 3 i0 (.int .i64 0) 8 Tryz.underlying58 hi hz0 hz1 hz2 rfl _ _ _ rfl (HO.out.alloc _) ⟨wr.heap.size, 0, none⟩ 1 (.int .i64 z) rfl ?c1 rfl ?c3 ?c4 ?c5 ?_)
      case c1 => simp
      case c3 => unfold maxLen; omega
      case c4 => omega
      case c5 => have := HBL.out.size; simp; omega
      intro v1 w1 ho1 hg1 hne1 hpl1
      have n1 : Below w.heap.size w w1 := (HBL.out.alloc HBL.out.size _).grown hg1 (by have := HBL.out.size; simp; omega) (fun k hk => (HO.out.lt k hk).1)
      rw [nums_snoc] at ho1
      have HO1 := Lib.hid ho1
      have N1 := Lib.hid n1
      clear ho1 n1 hg1 hne1 hpl1
      go_wp2_with fail
      go_roundw
      case rel => exact ⟨k + 1, z', out ++ [z], by omega, by go_num, rfl, HO1.out, ST.out, N1.out⟩
      case measure => simp [intOf] <;> omega
    · obtain rfl : k = n + 1 := by omega
      have hv := dplus_end la lb out (n + 1) br DA.out DB.out (by rw [HLA.out]; omega) (by rw [HLB.out]; omega) HT.out
      have HV := Lib.hid hv
      clear hv
      go_wp2_with fail
      go_ret
      have ho := HO.out
      rw [← HT.out.1] at ho
      exact ⟨_, out, rfl, ho, ⟨HT.out.1, HT.out.2.1, HV.out⟩, HBL.out⟩

theorem dplus_any (a b : Option Addr) (n m c d : Nat) (la lb : List Nat) (w : World) (hla : la.length = n) (hlb : lb.length = m) (hn : n ≤ 900000) (hm : m ≤ 900000)
    (da : ∀ x ∈ la, x < 10) (db : ∀ x ∈ lb, x < 10) (ha : Nums .i64 w a la) (hb : Nums .i64 w b lb) :
    Calls Tryz.prog 115 #[.slice a n c, .slice b m d] w (NewNums .i64 3 w fun l => l.length = max n m + 1 ∧ (∀ x ∈ l, x < 10) ∧ dval l = dval la + dval lb) := by
  rcases Nat.lt_or_ge n m with h | h
  · rw [show max n m = m by omega]; exact dplus_r a b n m c d la lb w hla hlb hn hm da db ha hb h
  · rw [show max n m = n by omega]; exact dplus_l a b n m c d la lb w hla hlb hn hm da db ha hb h

end Go.Proofs.YtnmiiimbjojcmaaGreatDoor

namespace Go.Proofs.YtnmiiimbjojcmaaGreatDoor
open Go.RowKit

/-- The product's digits, not carried: the rows before i, and the places before j of row i. -/
def DTimesIn (a b out : List Nat) (i j : Nat) : Prop :=
  out.length = a.length + b.length ∧ (∀ x ∈ out, x ≤ 81 * (i * b.length + j)) ∧ dval out = dval (a.take i) * dval b + 10 ^ i * (a.getD i 0 * dval (b.take j))
theorem dtimes_start (a b : List Nat) : DTimesIn a b (List.replicate (a.length + b.length) 0) 0 0 :=
  ⟨by simp, fun x hx => by have := List.eq_of_mem_replicate hx; omega, by rw [dval_zeros]; simp [dval]⟩
theorem getD_le {l : List Nat} {M : Nat} (h : ∀ x ∈ l, x ≤ M) (k : Nat) : l.getD k 0 ≤ M := by
  by_cases hk : k < l.length
  · rw [List.getD_eq_getElem?_getD, List.getElem?_eq_getElem hk]; exact h _ (List.getElem_mem _)
  · rw [List.getD_eq_getElem?_getD, List.getElem?_eq_none (by omega)]; exact Nat.zero_le _
theorem dtimes_step (a b out : List Nat) (i j : Nat) (hi : i < a.length) (hj : j < b.length) (ha : ∀ x ∈ a, x < 10) (hb : ∀ x ∈ b, x < 10) (h : DTimesIn a b out i j) :
    DTimesIn a b (out.set (i + j) (out.getD (i + j) 0 + a.getD i 0 * b.getD j 0)) i (j + 1) := by
  obtain ⟨h1, h2, h3⟩ := h
  have x1 := digD_lt a i ha
  have x2 := digD_lt b j hb
  have x3 := getD_le h2 (i + j)
  have hp : a.getD i 0 * b.getD j 0 ≤ 9 * 9 := Nat.mul_le_mul (by omega) (by omega)
  have hset := dval_set out (i + j) (out.getD (i + j) 0 + a.getD i 0 * b.getD j 0) (by omega)
  refine ⟨by simpa using h1, ?_, ?_⟩
  · intro z hz
    rcases List.mem_or_eq_of_mem_set hz with hz | hz
    · have := h2 z hz; omega
    · rw [hz]; omega
  · rw [dval_take_succ b j]
    rw [Nat.pow_add] at hset
    generalize dval (out.set (i + j) (out.getD (i + j) 0 + a.getD i 0 * b.getD j 0)) = o2 at *
    generalize out.getD (i + j) 0 = c at *
    generalize dval out = o at *
    generalize dval (a.take i) * dval b = A at *
    generalize a.getD i 0 = x at *
    generalize b.getD j 0 = y at *
    generalize dval (b.take j) = B at *
    generalize 10 ^ i = P at *
    generalize 10 ^ j = Q at *
    have e1 : P * (x * (B + Q * y)) = P * (x * B) + P * Q * (x * y) := by
      rw [Nat.mul_add, Nat.mul_add, Nat.mul_assoc P Q, Nat.mul_left_comm x Q y]
    rw [Nat.mul_add] at hset
    rw [e1]
    omega
theorem dtimes_row (a b out : List Nat) (i : Nat) (h : DTimesIn a b out i b.length) : DTimesIn a b out (i + 1) 0 := by
  obtain ⟨h1, h2, h3⟩ := h
  refine ⟨h1, fun x hx => ?_, ?_⟩
  · have := h2 x hx
    rw [Nat.add_mul]; omega
  · rw [h3, List.take_length, dval_take_succ, Nat.add_mul, Nat.mul_assoc]
    simp [dval]
/-- The carry has run to place k. -/
def DCyrAt (out : List Nat) (N V M k : Nat) : Prop :=
  out.length = N ∧ dval out = V ∧ (∀ j, j < k → out.getD j 0 < 10) ∧ out.getD k 0 ≤ 2 * M ∧ ∀ j, k < j → out.getD j 0 ≤ M
theorem dcyr_start (out : List Nat) (N V M : Nat) (h1 : out.length = N) (h2 : dval out = V) (h3 : ∀ x ∈ out, x ≤ M) : DCyrAt out N V M 0 :=
  ⟨h1, h2, fun j hj => by omega, by have := getD_le h3 0; omega, fun j _ => getD_le h3 j⟩
theorem dcyr_step (out : List Nat) (N V M k : Nat) (hk : k + 1 < N) (hM : 1 ≤ M) (h : DCyrAt out N V M k) :
    DCyrAt ((out.set (k + 1) (out.getD (k + 1) 0 + out.getD k 0 / 10)).set k (out.getD k 0 % 10)) N V M (k + 1) := by
  obtain ⟨h1, h2, h3, h4, h5⟩ := h
  have g : ∀ j, ((out.set (k + 1) (out.getD (k + 1) 0 + out.getD k 0 / 10)).set k (out.getD k 0 % 10)).getD j 0 = if j = k then out.getD k 0 % 10 else if j = k + 1 then out.getD (k + 1) 0 + out.getD k 0 / 10 else out.getD j 0 := fun j => by
    rw [getD_set _ _ _ _ (by simp; omega), getD_set _ _ _ _ (by omega)]
  have s1 := dval_set out (k + 1) (out.getD (k + 1) 0 + out.getD k 0 / 10) (by omega)
  have s2 := dval_set (out.set (k + 1) (out.getD (k + 1) 0 + out.getD k 0 / 10)) k (out.getD k 0 % 10) (by simp; omega)
  rw [getD_set _ _ _ _ (by omega), if_neg (by omega)] at s2
  have n5 := h5 (k + 1) (by omega)
  refine ⟨by simpa using h1, ?_, fun j hj => ?_, ?_, fun j hj => ?_⟩
  · rw [Nat.pow_succ] at s1
    generalize dval ((out.set (k + 1) (out.getD (k + 1) 0 + out.getD k 0 / 10)).set k (out.getD k 0 % 10)) = o2 at *
    generalize dval (out.set (k + 1) (out.getD (k + 1) 0 + out.getD k 0 / 10)) = o1 at *
    have e := Nat.div_add_mod (out.getD k 0) 10
    have e2 : 10 ^ k * out.getD k 0 = 10 ^ k * 10 * (out.getD k 0 / 10) + 10 ^ k * (out.getD k 0 % 10) := by
      rw [Nat.mul_assoc, ← Nat.mul_add, e]
    rw [Nat.mul_add] at s1
    omega
  · rw [g]
    split
    · omega
    · rw [if_neg (by omega)]; exact h3 j (by omega)
  · rw [g, if_neg (by omega), if_pos rfl]; omega
  · rw [g, if_neg (by omega), if_neg (by omega)]; exact h5 j (by omega)
theorem dcyr_end (out : List Nat) (N V M k : Nat) (hk : N ≤ k + 1) (hN : 0 < N → V < 10 ^ N) (h : DCyrAt out N V M k) : ∀ x ∈ out, x < 10 := by
  obtain ⟨h1, h2, h3, h4, h5⟩ := h
  intro x hx
  obtain ⟨j, hj, rfl⟩ := List.mem_iff_getElem.1 hx
  have hg : out.getD j 0 = out[j] := by rw [List.getD_eq_getElem?_getD, List.getElem?_eq_getElem hj]; rfl
  rw [← hg]
  by_cases hjk : j < k
  · exact h3 j hjk
  · have hjN : j + 1 = N := by omega
    have hV := hN (by omega)
    have hs := dval_split out j
    have hd := dval_drop out j
    have : 10 ^ j * out.getD j 0 ≤ V := by
      rw [← h2, hs, hd, Nat.mul_add]; omega
    rw [← hjN, Nat.pow_succ] at hV
    refine Nat.lt_of_mul_lt_mul_left (a := 10 ^ j) ?_
    omega

/-- The rows of the product. -/
def TmA (w : World) (la lb : List Nat) (iv : Value) (wr : World) : Prop :=
  ∃ (i : Nat) (out : List Nat), i ≤ la.length ∧ iv = .int .i64 i ∧ RowAt wr w.heap.size 3 (nums .i64 out) ∧ DTimesIn la lb out i 0 ∧ Below w.heap.size w wr
def TmB (w : World) (la lb : List Nat) (i : Nat) (jv : Value) (wr : World) : Prop :=
  ∃ (j : Nat) (out : List Nat), j ≤ lb.length ∧ jv = .int .i64 j ∧ RowAt wr w.heap.size 3 (nums .i64 out) ∧ DTimesIn la lb out i j ∧ Below w.heap.size w wr
def TmC (w : World) (N V M : Nat) (kv : Value) (wr : World) : Prop :=
  ∃ (k : Nat) (out : List Nat), k ≤ N ∧ kv = .int .i64 k ∧ RowAt wr w.heap.size 3 (nums .i64 out) ∧ DCyrAt out N V M k ∧ Below w.heap.size w wr

end Go.Proofs.YtnmiiimbjojcmaaGreatDoor
