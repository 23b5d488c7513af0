/-
  money.Split: the comparison of two places, SortStableFunc, and the split itself where its arguments are in range.
-/
import Derived.Test.YtnikhbdjlipcbaaSf
import Derived.Test.YtnikhbdjlipcbaaRb
namespace Go.Proofs.Ytnikhbdjlipcbaa
open Go.RowKit

/-- The key by which places are sorted: the greatest remainder first. -/
def keyOf (size : Int) (ws : List Int) (i : Int) : Int := -(rOf size (sumL ws) ws i.toNat)
theorem keyOf_nat (size : Int) (ws : List Int) (i : Nat) : keyOf size ws i = -(rOf size (sumL ws) ws i) := by simp [keyOf]
theorem sum_small (size : Int) (ws : List Int) (h : Good size ws) : sumL ws ≤ 400000 := by
  have h1 := (sumL_bd ws h.w1 ws.length (Nat.le_refl _)).2
  rw [List.take_length] at h1
  have := h.n1
  omega
theorem keyOK (size : Int) (ws : List Int) (h : Good size ws) : KeyOK (keyOf size ws) := by
  intro x
  have h1 := sum_small size ws h
  have h2 := h.s2
  unfold keyOf rOf
  have h3 := Int.emod_nonneg (size * (ws[x.toNat]?.getD 0)) (show sumL ws ≠ 0 by omega)
  have h4 := Int.emod_lt_of_pos (size * (ws[x.toNat]?.getD 0)) h2
  omega

set_option maxHeartbeats 1000000 in
theorem closure_any (size : Int) (ws : List Int) (h : Good size ws) (n b o c T V S : Nat) (hl : ws.length = n) (i k : Nat) (hi : i < n) (hk : k < n) (w : World)
    (hT : w.cell? ⟨T, 0, none⟩ = some (.int .i64 size)) (hV : w.cell? ⟨V, 0, none⟩ = some (.slice (some ⟨b, o, none⟩) n c)) (hS : w.cell? ⟨S, 0, none⟩ = some (.int .i64 (sumL ws)))
    (hc : Lies w b o n ws) :
    Calls Try.prog 11 #[.int .i64 i, .int .i64 k, .pointer (some ⟨T, 0, none⟩), .pointer (some ⟨V, 0, none⟩), .pointer (some ⟨S, 0, none⟩)] w fun e w' =>
      e = .returned (.int .i64 (keyOf size ws i - keyOf size ws k)) ∧ ∃ q, w' = w.drewN q := by
  have c1 := hc i hi
  have c2 := hc k hk
  obtain ⟨x1, x2⟩ := h.w1 i (by omega)
  obtain ⟨y1, y2⟩ := h.w1 k (by omega)
  obtain ⟨p1, p2, p3, p4, p5, p6⟩ := part_bd size (sumL ws) (ws[i]?.getD 0) h.s0 h.s1 h.s2 x1 x2
  obtain ⟨q1, q2, q3, q4, q5, q6⟩ := part_bd size (sumL ws) (ws[k]?.getD 0) h.s0 h.s1 h.s2 y1 y2
  have s1 := sum_small size ws h
  have s2 := h.s2
  have e : Hid (keyOf size ws i - keyOf size ws k = size * (ws[k]?.getD 0) % sumL ws - size * (ws[i]?.getD 0) % sumL ws) := by
    rw [keyOf_nat, keyOf_nat]; unfold rOf; show _ = _; omega
  have hn : n ≤ 100 := hl ▸ h.n1
  clear hc hl h x1 x2 y1 y2 p3 p4 q3 q4
  generalize ws[i]?.getD 0 = x at *
  generalize ws[k]?.getD 0 = y at *
  generalize sumL ws = s at *
  go_enter Try.func11, Try.ntmps11
  go_wp2_with fail
  go_quiet (fail)
  go_wp2_with fail
  go_ret
  exact ⟨ret_int e.out.symm, _, rfl⟩

set_option maxHeartbeats 1000000 in
theorem sortStable_any (key : Int → Int) (N : Int) (g len cap : Nat) (L0 : List Int) (c1 c2 c3 : Value) (w0 w : World)
    (hlen : L0.length = len) (hbig : len ≤ 1000000) (hK : KeyOK key) (hC : CmpOK key N g #[c1, c2, c3] w0) (hw : w0.grownBy w (some g)) (hv : Valid N L0)
    (hst : Stb key L0) (hr : RowAt w g 3 (ints L0)) :
    Calls Try.prog 10 #[.slice (some ⟨g, 0, none⟩) len cap, .func (.func 11) #[] #[c1, c2, c3]] w fun e w' =>
      ∃ L, e = .returned (.tuple #[]) ∧ L.Perm L0 ∧ Srt key L ∧ Stb key L ∧ RowAt w' g 3 (ints L) ∧ w.grownBy w' (some g) := by
  have h := Lib.hid (stable_any key N g len cap L0 c1 c2 c3 w0 w hlen hbig hK hC hw hv hst hr)
  clear hlen hK hC hw hv hst hr
  go_enter Try.func10, Try.ntmps10
  go_wp2_with (go_at_call 13; refine h.out.mono ?_; rintro e w' ⟨L, rfl, h1, h2, h3, h4, h5⟩)
  go_end0
  exact ⟨L, rfl, h1, h2, h3, h4, h5⟩

end Go.Proofs.Ytnikhbdjlipcbaa
