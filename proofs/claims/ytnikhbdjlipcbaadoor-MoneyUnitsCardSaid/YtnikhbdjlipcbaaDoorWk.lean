/-
  The reference's decimal text of a number: small, Of. Condition: at most 17 digits. The reference's Negative, digits, Of of integers, by value. No condition.
-/
import Derived.Lib.ItoaNum
import Derived.Test.YtnikhbdjlipcbaaDoorVf
import Derived.Test.YtnikhbdjlipcbaaDoorVe
import Derived.Test.YtnikhbdjlipcbaaDoorWj
namespace Go.Proofs.YtnikhbdjlipcbaaDoor
open Go.RowKit

theorem txtN_dec (n : Nat) : txtN n = Lib.decDigits n := by
  induction n using Nat.strongRecOn with
  | _ n ih =>
    rw [Lib.decDigits]
    split
    · rename_i h
      unfold txtN decN
      split
      · rename_i h0; subst h0; rfl
      · rename_i h0
        rw [decL_pos h0, show n / 10 = 0 by omega, decL_zero, show n % 10 = n by omega]; rfl
    · rename_i h
      rw [← ih (n / 10) (by omega)]
      unfold txtN decN
      rw [if_neg (by omega), if_neg (by omega), decL_pos (by omega : n ≠ 0)]
      simp [dgB]
theorem ints_row (l : List Nat) : ∀ j, j < l.length → (l.map fun x : Nat => Value.int .i64 (x : Int))[j]? = some (.int .i64 ((l.getD j 0 : Nat) : Int)) := fun j hj => by
  rw [List.getElem?_map, List.getElem?_eq_getElem hj, List.getD_eq_getElem?_getD, List.getElem?_eq_getElem hj]; rfl
/-- Numbers that a call owns, read. -/
theorem nums_own {w : World} {B : Nat} {v : Value} {l : List Nat} (h : w.ownsRow B 3 1 v l.length (l.map fun x : Nat => Value.int .i64 (x : Int))) : ∃ a c, v = .slice a l.length c ∧ Nums .i64 w a l := by
  rcases rowAt_of_owns h with ⟨rfl, hz, _⟩ | ⟨g, c, rfl, _, hc, _, _, hr⟩
  · have : l = [] := List.eq_nil_of_length_eq_zero hz
    subst this
    exact ⟨none, 0, rfl, Nums.nil _ _ _⟩
  · exact ⟨_, c, rfl, fun i hi => ⟨g, 0, rfl, hr.lt, by rw [Nat.zero_add, hr.cell (by simpa using hi), ints_row l i hi]⟩⟩
/-- The loop: the digits so far, what is left. -/
def SmR (w : World) (N : Nat) (nv dv : Value) (wr : World) : Prop :=
  ∃ (L : List Nat) (m : Nat), nv = .int .i64 (m : Int) ∧ wr.ownsRow w.heap.size 3 1 dv L.length (L.map fun x : Nat => Value.int .i64 (x : Int)) ∧ Below w.heap.size w wr ∧ (∀ x ∈ L, x < 10) ∧ dval L + 10 ^ L.length * m = N ∧ L.length ≤ 17

set_option maxHeartbeats 2000000 in
set_option maxRecDepth 100000 in
theorem small_any (N : Nat) (w : World) (hN : N < 100000000000000000) : Calls Tryd.prog 79 #[.int .i64 (N : Int)] w (StrPost w (txtN N)) := by
  obtain ⟨i0, hi, hz0, hz1, hz2⟩ := info_parts infoInt
  have HST : Hid (SmR w N (.int .i64 (N : Int)) (.slice none 0 0) w) := ⟨[], N, rfl, World.ownsRow_nil _ _ _ _, Below.refl _ _, (fun x hx => absurd hx List.not_mem_nil), by simp [dval], by simp⟩
  have HN := Lib.hid hN
  clear hN
  go_enter Tryd.func79, Tryd.ntmps79
  go_wp2_with fail
  go_loopw [0, 3] (fun a d wr => SmR w N a d wr) (fun a _ _ => (intOf a).toNat)
  case atStart => exact HST.out
  case round =>
    obtain ⟨w1, rfl⟩ : ∃ w1 : World, w1 = wr := ⟨_, rfl⟩
    obtain ⟨L, m, rfl, ho, hb, hd, hs, hl17⟩ := hrel
    by_cases hm : 0 < m
    · have hlen : L.length < 17 := by
        have h1 : 10 ^ L.length ≤ 10 ^ L.length * m := Nat.le_mul_of_pos_right _ hm
        have h2 : 10 ^ L.length < 10 ^ 17 := by have := HN.out; omega
        exact (Nat.pow_lt_pow_iff_right (a := 10) (by omega)).1 h2
      have hmN : m ≤ N := by
        have h1 : m ≤ 10 ^ L.length * m := Nat.le_mul_of_pos_left _ (Nat.pow_pos (by omega))
        omega
      have hN' := HN.out
      have HNX : Hid (∀ (wr' : World) (d' : Value), wr'.ownsRow w.heap.size 3 1 d' (L.length + 1) ((L.map fun x : Nat => Value.int .i64 (x : Int)) ++ [.int .i64 ((m : Int) % 10)]) → Below w.heap.size w wr' → SmR w N (.int .i64 ((m / 10 : Nat) : Int)) d' wr') := fun wr' d' h1 h2 => by
        refine ⟨L ++ [m % 10], m / 10, rfl, ?_, h2, ?_, ?_, by simp; omega⟩
        · have e : (L.map fun x : Nat => Value.int .i64 (x : Int)) ++ [.int .i64 ((m : Int) % 10)] = (L ++ [m % 10]).map fun x : Nat => Value.int .i64 (x : Int) := by simp
          rw [e] at h1
          simpa using h1
        · intro x hx
          rcases List.mem_append.1 hx with hx | hx
          · exact hd x hx
          · rw [List.mem_singleton.1 hx]; omega
        · rw [dval_snoc, List.length_append, List.length_singleton, Nat.pow_succ, ← hs]
          have : m = m % 10 + 10 * (m / 10) := by omega
          conv => rhs; rw [this]
          rw [Nat.mul_add, Nat.mul_assoc, Nat.add_assoc]
      have HB := Lib.hid hb
      clear hs hd hb
      go_wp2_with (at_builtin; refine wpList_append1 _ rfl (.tmp 6) (.tmp 9) 99 rfl w.heap.size 3 i0 (.int .i64 0) 8 Tryd.underlying99 hi hz0 hz1 hz2 rfl _ _ _ rfl (ho.alloc _) ⟨w1.heap.size, 0, none⟩ 1 (.int .i64 ((m : Int) % 10)) rfl ?c1 rfl ?c3 ?c4 ?c5 ?_)
      case c1 => simp
      case c3 => unfold maxLen; omega
      case c4 => omega
      case c5 => have := HB.out.size; simp; omega
      intro v2 w2 ho2 hg2 hne2 hpl2
      have n2 : Below w.heap.size w w2 := (HB.out.alloc HB.out.size _).grown hg2 (by have := HB.out.size; simp; omega) (fun k hk => (ho.lt k hk).1)
      have NX := Lib.hid (HNX.out w2 v2 ho2 n2)
      clear ho2 n2 hg2 hne2 hpl2 HNX ho
      go_wp2_with fail
      go_roundw
      case rel => simpa using NX.out
      case measure => simp [intOf]; omega
    · obtain rfl : m = 0 := by omega
      have hv : dval L = N := by simpa using hs
      obtain ⟨a, c, rfl, hn⟩ := nums_own ho
      have hlen : L.length ≤ 900000 := by
        omega
      have HT := text_any a L.length c L false w1 rfl hlen hd hn
      rw [hv] at HT
      simp only [Bool.false_eq_true, if_false] at HT
      rw [txtZ_pos] at HT
      have HT := Lib.hid HT
      have HB := Lib.hid hb
      clear hv hs hd hb ho hn hlen
      go_wp2_with fail
      refine HT.out.mono ?_
      rintro e w2 ⟨rfl, b2⟩
      have B2 := Lib.hid (HB.out.trans (b2.mono HB.out.size))
      clear b2
      go_wp2_with fail
      go_ret
      exact ⟨rfl, B2.out⟩

theorem rof_any (N : Nat) (w : World) (hN : N < 100000000000000000) : Calls Tryd.prog 35 #[.int .i64 (N : Int)] w (StrPost w (txtN N)) := by
  have H := Lib.hid (small_any N w hN)
  go_enter Tryd.func35, Tryd.ntmps35
  go_wp2_with fail
  refine H.out.mono ?_
  rintro e w2 ⟨rfl, b2⟩
  have B2 := Lib.hid b2
  clear b2
  go_wp2_with fail
  go_ret
  exact ⟨rfl, B2.out⟩

end Go.Proofs.YtnikhbdjlipcbaaDoor

namespace Go.Proofs.YtnikhbdjlipcbaaDoor
open Go.RowKit

/-- The digits alone. -/
def DgsOK (w : World) (V : Nat) (e : Ending) (w' : World) : Prop :=
  ∃ a n c, e = .returned (.slice a n c) ∧ (decN V).length = n ∧ n ≤ c ∧ Nums .i64 w' a (decN V) ∧ Below w.heap.size w w'
set_option maxHeartbeats 2000000 in
set_option maxRecDepth 100000 in
theorem rdigits1_ok (s : ByteArray) (z : Int) (w : World) (hs : s.size ≤ 1000000) (h : s.data.toList = txtZ z) : Calls Tryd.prog 70 #[.string s] w (DgsOK w z.natAbs) := by
  have H := Lib.hid (digits_ok s z w hs h)
  go_enter Tryd.func70, Tryd.ntmps70
  go_wp2_with fail
  refine H.out.mono ?_
  rintro e w1 ⟨a, n, c, rfl, h1, h2, h3, b1⟩
  have H1 := Lib.hid h1
  have H3 := Lib.hid h3
  have B1 := Lib.hid b1
  clear h1 h3 b1
  go_wp2_with fail
  go_ret
  exact ⟨a, n, c, rfl, H1.out, h2, H3.out, B1.out⟩

set_option maxHeartbeats 2000000 in
set_option maxRecDepth 100000 in
theorem rdigits2_ok (s : ByteArray) (z : Int) (w : World) (hs : s.size ≤ 1000000) (h : s.data.toList = txtZ z) : Calls Tryd.prog 67 #[.string s] w (DgsOK w z.natAbs) := by
  have H := Lib.hid (digits_ok s z w hs h)
  go_enter Tryd.func67, Tryd.ntmps67
  go_wp2_with fail
  refine H.out.mono ?_
  rintro e w1 ⟨a, n, c, rfl, h1, h2, h3, b1⟩
  have H1 := Lib.hid h1
  have H3 := Lib.hid h3
  have B1 := Lib.hid b1
  clear h1 h3 b1
  go_wp2_with fail
  go_ret
  exact ⟨a, n, c, rfl, H1.out, h2, H3.out, B1.out⟩

set_option maxHeartbeats 2000000 in
set_option maxRecDepth 100000 in
theorem rneg_ok (s : ByteArray) (z : Int) (w : World) (hs : s.size ≤ 100000) (h : s.data.toList = txtZ z) : Calls Tryd.prog 80 #[.string s] w (StrPost w (txtZ (-z))) := by
  have hd := digits_ok s z w (by omega) h
  have hl : (decN z.natAbs).length ≤ 100001 := by
    have h1 : (txtZ z).length ≤ 100000 := by rw [← h, data_len]; exact hs
    unfold txtZ at h1
    split at h1
    · rw [List.length_cons, txtN_len] at h1; omega
    · rw [txtN_len] at h1; omega
  obtain ⟨nz, hnz⟩ : ∃ nz, nz = decide (z < 0) := ⟨_, rfl⟩
  have hz : (if (!nz) = true then -(z.natAbs : Int) else (z.natAbs : Int)) = -z := by
    by_cases h0 : z < 0
    · simp [hnz, h0]; omega
    · simp [hnz, h0]; omega
  unfold DigOK at hd
  rw [← hnz] at hd
  obtain ⟨Z, hZ⟩ : ∃ Z, Z = -z := ⟨_, rfl⟩
  rw [← hZ] at hz ⊢
  have HD := Lib.hid hd
  have HZ := Lib.hid hz
  clear hd hz hnz hZ h
  go_enter Tryd.func80, Tryd.ntmps80
  go_wp2_with fail
  refine HD.out.mono ?_
  rintro e w1 ⟨a, n, c, rfl, h1, h2, h3, b1⟩
  have ht := text_any a n c (decN z.natAbs) (!nz) w1 h1 (by omega) (decN_lt _) h3
  rw [dval_decN, HZ.out] at ht
  have HT := Lib.hid ht
  have B1 := Lib.hid b1
  clear h1 h3 b1 ht
  go_wp2_with fail
  refine HT.out.mono ?_
  rintro e w2 ⟨rfl, b2⟩
  have B2 := Lib.hid (B1.out.trans (b2.mono B1.out.size))
  clear b2
  go_wp2_with fail
  go_ret
  exact ⟨rfl, B2.out⟩

set_option maxHeartbeats 2000000 in
set_option maxRecDepth 100000 in
theorem rof_neg (N : Nat) (w : World) (hN : N < 100000000000000000) : Calls Tryd.prog 35 #[.int .i64 (-((N : Int) + 1))] w (StrPost w (txtZ (-((N : Int) + 1)))) := by
  have HS := Lib.hid (fun W => small_any N W hN)
  have hl : (decN N).length ≤ 17 := (decN_len_le N 17 (by omega)).2 (by omega)
  have hl2 : (decN (N + 1)).length ≤ 18 := (decN_len_le (N + 1) 18 (by omega)).2 (by omega)
  have HD := Lib.hid (fun W => rdigits1_ok ⟨(txtN N).toArray⟩ (N : Int) W (by rw [← data_len]; show (txtN N).length ≤ _; rw [txtN_len]; omega) (txtZ_pos N).symm)
  have HNG := Lib.hid (fun W => rneg_ok ⟨(txtN (N + 1)).toArray⟩ ((N + 1 : Nat) : Int) W (by rw [← data_len]; show (txtN (N + 1)).length ≤ _; rw [txtN_len]; omega) (txtZ_pos (N + 1)).symm)
  have t0 : decide (0 ≤ -((N : Int) + 1)) = false := decide_eq_false (by omega)
  have t1 : -(-((N : Int) + 1) + 1) = (N : Int) := by omega
  clear hl2
  go_enter Tryd.func35, Tryd.ntmps35
  go_wp2_with fail
  refine (HS.out _).mono ?_
  rintro e w1 ⟨rfl, b1⟩
  have B1 := Lib.hid b1
  clear b1
  go_wp2_with fail
  refine (HD.out _).mono ?_
  rintro e w2 ⟨a, n, c, rfl, h1, h2, h3, b2⟩
  rw [Int.natAbs_natCast] at h1 h3
  have B2 := Lib.hid (B1.out.trans (b2.mono B1.out.size))
  have hlit : (w2.alloc (.cells #[.int .i64 1] 3)).ownsRow w2.heap.size 3 1 (.slice (some ⟨w2.heap.size, 0, none⟩) 1 1) 1 (nums .i64 [1]) :=
    World.ownsRow_lit w2 #[.int .i64 1] 1 (Nat.le_refl _) (by unfold maxLen; omega) (by simp)
  have HN1 : Hid (Nums .i64 (w2.alloc (.cells #[.int .i64 1] 3)) (some ⟨w2.heap.size, 0, none⟩) [1]) := by
    obtain ⟨a', c', e1, _, _, h⟩ := nums_of_owns hlit
    injection e1 with e1 e2 e3
    rw [← e1] at h; exact h
  have hba : Below w2.heap.size w2 (w2.alloc (.cells #[.int .i64 1] 3)) := (Below.refl _ _).alloc (Nat.le_refl _) _
  have hpl := dplus_any a (some ⟨w2.heap.size, 0, none⟩) n 1 c 1 (decN N) [1] (w2.alloc (.cells #[.int .i64 1] 3)) h1 rfl (by omega) (by omega) (decN_lt _) (by simp) (h3.below hba) HN1.out
  have HPL := Lib.hid hpl
  have HBA := Lib.hid hba
  clear b2 h3 hlit hpl hba HN1
  go_wp2_with fail
  refine HPL.out.mono ?_
  rintro e w3 ⟨v, l, rfl, ho, ⟨k1, k2, k3⟩, b3⟩
  have B3 := Lib.hid (B2.out.trans ((HBA.out.trans (b3.mono HBA.out.size)).mono B2.out.size))
  obtain ⟨a3, c3, rfl, hl3, hc3, h4⟩ := nums_of_owns ho
  obtain ⟨K, hK⟩ : ∃ K, K = l.length := ⟨_, rfl⟩
  rw [← hK] at k1 hl3 hc3 ⊢
  have ht := text_any a3 K c3 l false w3 hK.symm (by omega) k2 h4
  have e : dval l = dval (decN N) + dval [1] := k3
  rw [e, dval_decN, if_neg (by decide), show N + dval [1] = N + 1 from rfl, txtZ_pos] at ht
  have HT := Lib.hid ht
  clear b3 ho k1 k2 k3 hl3 hc3 h4 hK ht e h1 h2 hl
  go_wp2_with fail
  refine HT.out.mono ?_
  rintro e w4 ⟨rfl, b4⟩
  have B4 := Lib.hid (B3.out.trans (b4.mono B3.out.size))
  clear b4
  go_wp2_with fail
  refine (HNG.out _).mono ?_
  rintro e w5 ⟨rfl, b5⟩
  have B5 := Lib.hid (B4.out.trans (b5.mono B4.out.size))
  clear b5
  go_wp2_with fail
  go_ret
  exact ⟨by simp, B5.out⟩
theorem rof_int (n : Int) (w : World) (h : n.natAbs < 100000000000000000) : Calls Tryd.prog 35 #[.int .i64 n] w (StrPost w (txtZ n)) := by
  by_cases h0 : n < 0
  · obtain ⟨N, rfl⟩ : ∃ N : Nat, n = -((N : Int) + 1) := ⟨n.natAbs - 1, by omega⟩
    exact rof_neg N w (by omega)
  · obtain ⟨N, rfl⟩ : ∃ N : Nat, n = (N : Int) := ⟨n.natAbs, by omega⟩
    rw [txtZ_pos]
    exact rof_any N w (by omega)

end Go.Proofs.YtnikhbdjlipcbaaDoor
