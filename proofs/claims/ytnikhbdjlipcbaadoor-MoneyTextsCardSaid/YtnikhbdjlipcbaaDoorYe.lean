/-
  The reference's decimal text of a number: small, Of. Condition: at most 17 digits.
-/
import Derived.Lib.ItoaNum
import Derived.Test.YtnikhbdjlipcbaaDoorIf
import Derived.Test.YtnikhbdjlipcbaaDoorIc
namespace Go.Proofs.YtnikhbdjlipcbaaDoor
open Go.RowKit

theorem txtN_dec (n : Nat) : txtN n = Lib.decDigits n := by
  induction n using Nat.strongRecOn with
  | _ n ih =>
    rw [Lib.decDigits]
    split
    · rename_i h
      unfold txtN decN
      split
      · rename_i h0; subst h0; rfl
      · rename_i h0
        rw [decL_pos h0, show n / 10 = 0 by omega, decL_zero, show n % 10 = n by omega]; rfl
    · rename_i h
      rw [← ih (n / 10) (by omega)]
      unfold txtN decN
      rw [if_neg (by omega), if_neg (by omega), decL_pos (by omega : n ≠ 0)]
      simp [dgB]
theorem ints_row (l : List Nat) : ∀ j, j < l.length → (l.map fun x : Nat => Value.int .i64 (x : Int))[j]? = some (.int .i64 ((l.getD j 0 : Nat) : Int)) := fun j hj => by
  rw [List.getElem?_map, List.getElem?_eq_getElem hj, List.getD_eq_getElem?_getD, List.getElem?_eq_getElem hj]; rfl
/-- Numbers that a call owns, read. -/
theorem nums_own {w : World} {B : Nat} {v : Value} {l : List Nat} (h : w.ownsRow B 3 1 v l.length (l.map fun x : Nat => Value.int .i64 (x : Int))) : ∃ a c, v = .slice a l.length c ∧ Nums .i64 w a l := by
  rcases rowAt_of_owns h with ⟨rfl, hz, _⟩ | ⟨g, c, rfl, _, hc, _, _, hr⟩
  · have : l = [] := List.eq_nil_of_length_eq_zero hz
    subst this
    exact ⟨none, 0, rfl, Nums.nil _ _ _⟩
  · exact ⟨_, c, rfl, fun i hi => ⟨g, 0, rfl, hr.lt, by rw [Nat.zero_add, hr.cell (by simpa using hi), ints_row l i hi]⟩⟩
/-- The loop: the digits so far, what is left. -/
def SmR (w : World) (N : Nat) (nv dv : Value) (wr : World) : Prop :=
  ∃ (L : List Nat) (m : Nat), nv = .int .i64 (m : Int) ∧ wr.ownsRow w.heap.size 3 1 dv L.length (L.map fun x : Nat => Value.int .i64 (x : Int)) ∧ Below w.heap.size w wr ∧ (∀ x ∈ L, x < 10) ∧ dval L + 10 ^ L.length * m = N ∧ L.length ≤ 17

set_option maxHeartbeats 2000000 in
set_option maxRecDepth 100000 in
theorem small_any (N : Nat) (w : World) (hN : N < 100000000000000000) : Calls Tryd.prog 79 #[.int .i64 (N : Int)] w (StrPost w (txtN N)) := by
  obtain ⟨i0, hi, hz0, hz1, hz2⟩ := info_parts infoInt
  have HST : Hid (SmR w N (.int .i64 (N : Int)) (.slice none 0 0) w) := ⟨[], N, rfl, World.ownsRow_nil _ _ _ _, Below.refl _ _, (fun x hx => absurd hx List.not_mem_nil), by simp [dval], by simp⟩
  have HN := Lib.hid hN
  clear hN
  go_enter Tryd.func79, Tryd.ntmps79
  go_wp2_with fail
  go_loopw [0, 3] (fun a d wr => SmR w N a d wr) (fun a _ _ => (intOf a).toNat)
  case atStart => exact HST.out
  case round =>
    obtain ⟨w1, rfl⟩ : ∃ w1 : World, w1 = wr := ⟨_, rfl⟩
    obtain ⟨L, m, rfl, ho, hb, hd, hs, hl17⟩ := hrel
    by_cases hm : 0 < m
    · have hlen : L.length < 17 := by
        have h1 : 10 ^ L.length ≤ 10 ^ L.length * m := Nat.le_mul_of_pos_right _ hm
        have h2 : 10 ^ L.length < 10 ^ 17 := by have := HN.out; omega
        exact (Nat.pow_lt_pow_iff_right (a := 10) (by omega)).1 h2
      have hmN : m ≤ N := by
        have h1 : m ≤ 10 ^ L.length * m := Nat.le_mul_of_pos_left _ (Nat.pow_pos (by omega))
        omega
      have hN' := HN.out
      have HNX : Hid (∀ (wr' : World) (d' : Value), wr'.ownsRow w.heap.size 3 1 d' (L.length + 1) ((L.map fun x : Nat => Value.int .i64 (x : Int)) ++ [.int .i64 ((m : Int) % 10)]) → Below w.heap.size w wr' → SmR w N (.int .i64 ((m / 10 : Nat) : Int)) d' wr') := fun wr' d' h1 h2 => by
        refine ⟨L ++ [m % 10], m / 10, rfl, ?_, h2, ?_, ?_, by simp; omega⟩
        · have e : (L.map fun x : Nat => Value.int .i64 (x : Int)) ++ [.int .i64 ((m : Int) % 10)] = (L ++ [m % 10]).map fun x : Nat => Value.int .i64 (x : Int) := by simp
          rw [e] at h1
          simpa using h1
        · intro x hx
          rcases List.mem_append.1 hx with hx | hx
          · exact hd x hx
          · rw [List.mem_singleton.1 hx]; omega
        · rw [dval_snoc, List.length_append, List.length_singleton, Nat.pow_succ, ← hs]
          have : m = m % 10 + 10 * (m / 10) := by omega
          conv => rhs; rw [this]
          rw [Nat.mul_add, Nat.mul_assoc, Nat.add_assoc]
      have HB := Lib.hid hb
      clear hs hd hb
      go_wp2_with (at_builtin; refine wpList_append1 _ rfl (.tmp 6) (.tmp 9) 99 rfl w.heap.size 3 i0 (.int .i64 0) 8 Tryd.underlying99 hi hz0 hz1 hz2 rfl _ _ _ rfl (ho.alloc _) ⟨w1.heap.size, 0, none⟩ 1 (.int .i64 ((m : Int) % 10)) rfl ?c1 rfl ?c3 ?c4 ?c5 ?_)
      case c1 => simp
      case c3 => unfold maxLen; omega
      case c4 => omega
      case c5 => have := HB.out.size; simp; omega
      intro v2 w2 ho2 hg2 hne2 hpl2
      have n2 : Below w.heap.size w w2 := (HB.out.alloc HB.out.size _).grown hg2 (by have := HB.out.size; simp; omega) (fun k hk => (ho.lt k hk).1)
      have NX := Lib.hid (HNX.out w2 v2 ho2 n2)
      clear ho2 n2 hg2 hne2 hpl2 HNX ho
      go_wp2_with fail
      go_roundw
      case rel => simpa using NX.out
      case measure => simp [intOf]; omega
    · obtain rfl : m = 0 := by omega
      have hv : dval L = N := by simpa using hs
      obtain ⟨a, c, rfl, hn⟩ := nums_own ho
      have hlen : L.length ≤ 900000 := by
        omega
      have HT := text_any a L.length c L false w1 rfl hlen hd hn
      rw [hv] at HT
      simp only [Bool.false_eq_true, if_false] at HT
      rw [txtZ_pos] at HT
      have HT := Lib.hid HT
      have HB := Lib.hid hb
      clear hv hs hd hb ho hn hlen
      go_wp2_with fail
      refine HT.out.mono ?_
      rintro e w2 ⟨rfl, b2⟩
      have B2 := Lib.hid (HB.out.trans (b2.mono HB.out.size))
      clear b2
      go_wp2_with fail
      go_ret
      exact ⟨rfl, B2.out⟩

theorem rof_any (N : Nat) (w : World) (hN : N < 100000000000000000) : Calls Tryd.prog 35 #[.int .i64 (N : Int)] w (StrPost w (txtN N)) := by
  have H := Lib.hid (small_any N w hN)
  go_enter Tryd.func35, Tryd.ntmps35
  go_wp2_with fail
  refine H.out.mono ?_
  rintro e w2 ⟨rfl, b2⟩
  have B2 := Lib.hid b2
  clear b2
  go_wp2_with fail
  go_ret
  exact ⟨rfl, B2.out⟩

end Go.Proofs.YtnikhbdjlipcbaaDoor
