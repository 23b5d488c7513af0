/-
  Plain mathematics: the parts of a split: their sum, each part, and their order. No condition.
-/
import Derived.Test.YtnikhbdjlipcbaaGreatDoorWb
namespace Go.Proofs.YtnikhbdjlipcbaaGreatDoor.Spl

theorem rk_onto (r : Nat → Int) (n t : Nat) (ht : t < n) : ∃ i, i < n ∧ rk r n i = t := by
  obtain ⟨L, hL⟩ : ∃ L, L = (List.range n).mergeSort (fun a b => decide (bef r a b ∨ a = b)) := ⟨_, rfl⟩
  have hp : L.Perm (List.range n) := by rw [hL]; exact List.mergeSort_perm _ _
  have hle : L.Pairwise (fun a b => decide (bef r a b ∨ a = b) = true) := by
    rw [hL]
    refine List.pairwise_mergeSort (fun a b c h1 h2 => ?_) (fun a b => ?_) _
    · rw [decide_eq_true_eq] at h1 h2 ⊢
      rcases h1 with h1 | rfl
      · rcases h2 with h2 | rfl
        · exact .inl (bef_trans r a b c h1 h2)
        · exact .inl h1
      · exact h2
    · by_cases e : a = b
      · simp [e]
      · rcases bef_total r a b e with h | h <;> simp [h]
  have hnd : L.Nodup := hp.nodup_iff.2 List.nodup_range
  have hs : L.Pairwise (bef r) := by
    have := hle.and hnd
    refine this.imp fun h => ?_
    obtain ⟨h1, h2⟩ := h
    rw [decide_eq_true_eq] at h1
    rcases h1 with h1 | h1
    · exact h1
    · exact absurd h1 h2
  have hlen : L.length = n := by rw [hp.length_eq, List.length_range]
  have hk := rk_of_sorted r n L hp hs t (by omega)
  refine ⟨L[t]'(by omega), ?_, hk⟩
  have := hp.mem_iff.1 (List.getElem_mem (show t < L.length by omega))
  exact List.mem_range.1 this
theorem sumL_set (l : List Int) (i : Nat) (x : Int) (hi : i < l.length) : sumL (l.set i x) = sumL l - (l[i]?.getD 0) + x := by
  have key : ∀ (l : List Int) (a : Int), l.foldl (· + ·) a = a + sumL l := by
    intro l
    induction l with
    | nil => intro a; simp [sumL]
    | cons y l ih =>
      intro a
      simp only [List.foldl_cons, sumL]
      rw [ih, ih (0 + y)]; omega
  have e1 : l = l.take i ++ l[i] :: l.drop (i + 1) := by
    have := (List.take_append_drop i l).symm
    rwa [List.drop_eq_getElem_cons hi] at this
  have e2 : l.set i x = l.take i ++ x :: l.drop (i + 1) := List.set_eq_take_append_cons_drop .. |>.trans (by rw [if_pos hi])
  have e3 : l[i]?.getD 0 = l[i] := by rw [List.getElem?_eq_getElem hi]; rfl
  have e4 : sumL l = sumL (l.take i ++ l[i] :: l.drop (i + 1)) := congrArg sumL e1
  rw [e2, e3, e4]
  unfold sumL
  rw [List.foldl_append, List.foldl_append, List.foldl_cons, List.foldl_cons, key, key (l.drop (i + 1))]
  omega
theorem sumL_out (q r : Nat → Int) (n t : Nat) (ht : t ≤ n) : sumL (outL q r n t) = sumL ((List.range n).map q) + t := by
  induction t with
  | zero => rw [outL_zero]; simp
  | succ t ih =>
    obtain ⟨i, hi, hr⟩ := rk_onto r n t (by omega)
    rw [← outL_set q r n t i hi hr, sumL_set _ _ _ (by rw [outL_length]; exact hi), outL_get q r n t i hi, if_neg (by omega), ih (by omega)]
    omega
theorem leftAt_sum (size s : Int) (ws : List Int) (k : Nat) : leftAt size s ws k = size - sumL ((List.range k).map (qOf size s ws)) := by
  induction k with
  | zero => simp [leftAt, sumL]
  | succ k ih =>
    rw [range_map_snoc, sumL_snoc]
    show leftAt size s ws k - qOf size s ws k = _
    rw [ih]; omega
/-- The parts sum to the total. -/
theorem parts_sum {size : Int} {ws : List Int} (h : Good size ws) : sumL (parts size ws) = size := by
  obtain ⟨h0, hb⟩ := lft_bd size ws h.s2
  have hn : lft size ws < ws.length := by
    rcases hb with hb | hb
    · exact hb
    · have := h.s2
      rw [List.eq_nil_of_length_eq_zero hb] at this
      simp [sumL] at this
  rw [parts_eq size ws h0, sumL_out _ _ _ _ (by omega)]
  have := leftAt_sum size (sumL ws) ws ws.length
  unfold lft at h0 ⊢
  omega
/-- How many remainders there are. -/
def cntR (r : Nat → Int) (n : Nat) : Nat := (List.range n).countP fun j => decide (0 < r j)
theorem cntR_succ (r : Nat → Int) (n : Nat) : cntR r (n + 1) = cntR r n + if 0 < r n then 1 else 0 := by
  unfold cntR
  rw [List.range_succ, List.countP_append]
  by_cases h : 0 < r n <;> simp [h]
theorem left_cnt (size s : Int) (ws : List Int) (hs : 0 < s) (k : Nat) (hk : k ≤ ws.length) :
    s * leftAt size s ws k - size * (s - sumL (ws.take k)) ≤ (cntR (rOf size s ws) k : Int) * (s - 1) := by
  induction k with
  | zero => simp [leftAt, cntR, sumL, Int.mul_comm]
  | succ k ih =>
    have h1 := ih (by omega)
    have ht : ws.take (k + 1) = ws.take k ++ [ws[k]?.getD 0] := by
      rw [List.take_succ_eq_append_getElem (by omega), List.getElem?_eq_getElem (by omega)]; rfl
    rw [ht, sumL_snoc, cntR_succ]
    obtain ⟨x, hx⟩ : ∃ x, x = ws[k]?.getD 0 := ⟨_, rfl⟩
    have hq : qOf size s ws k = size * x / s := by rw [hx]; rfl
    have hr : rOf size s ws k = size * x % s := by rw [hx]; rfl
    rw [← hx]
    have hdm := Int.mul_ediv_add_emod (size * x) s
    have hlt := Int.emod_lt_of_pos (size * x) hs
    have hnn := Int.emod_nonneg (size * x) (by omega : s ≠ 0)
    rw [← hq, ← hr] at hdm
    rw [← hr] at hlt hnn
    have e1 : s * leftAt size s ws (k + 1) = s * leftAt size s ws k - s * qOf size s ws k := by
      show s * (leftAt size s ws k - qOf size s ws k) = _
      rw [Int.mul_sub]
    have e2 : size * (s - (sumL (ws.take k) + x)) = size * (s - sumL (ws.take k)) - size * x := by
      rw [show s - (sumL (ws.take k) + x) = s - sumL (ws.take k) - x by omega, Int.mul_sub]
    rw [e1, e2]
    by_cases h : 0 < rOf size s ws k
    · rw [if_pos h]
      have e3 : ((cntR (rOf size s ws) k + 1 : Nat) : Int) * (s - 1) = (cntR (rOf size s ws) k : Int) * (s - 1) + (s - 1) := by
        rw [Int.natCast_add, Int.add_mul]; simp
      rw [e3]; omega
    · rw [if_neg h, Nat.add_zero]; omega
theorem cnt_rk (r : Nat → Int) (n i : Nat) (hr : ∀ j, j < n → 0 ≤ r j) (hi : r i = 0) : cntR r n ≤ rk r n i := by
  unfold cntR rk
  refine List.countP_mono_left fun j hj h => ?_
  rw [decide_eq_true_eq] at h ⊢
  have := hr j (List.mem_range.1 hj)
  exact .inl (by omega)
/-- Each part. -/
theorem part_each {size : Int} {ws : List Int} (h : Good size ws) (i : Nat) (hi : i < ws.length) :
    ((parts size ws)[i]?.getD 0 = qOf size (sumL ws) ws i ∨ ((parts size ws)[i]?.getD 0 = qOf size (sumL ws) ws i + 1 ∧ rOf size (sumL ws) ws i ≠ 0)) := by
  obtain ⟨h0, _⟩ := lft_bd size ws h.s2
  rw [parts_eq size ws h0, outL_get _ _ _ _ _ hi]
  by_cases hk : rk (rOf size (sumL ws) ws) ws.length i < (lft size ws).toNat
  · rw [if_pos hk]
    refine .inr ⟨rfl, fun hz => ?_⟩
    have h1 := left_cnt size (sumL ws) ws h.s2 ws.length (Nat.le_refl _)
    rw [List.take_length, Int.sub_self, Int.mul_zero, Int.sub_zero] at h1
    have h2 := cnt_rk (rOf size (sumL ws) ws) ws.length i (fun j _ => Int.emod_nonneg _ (by have := h.s2; omega)) hz
    have h3 : lft size ws = leftAt size (sumL ws) ws ws.length := rfl
    rw [← h3] at h1
    have hs := h.s2
    have h4 : (cntR (rOf size (sumL ws) ws) ws.length : Int) + 1 ≤ lft size ws := by omega
    have h5 : sumL ws * ((cntR (rOf size (sumL ws) ws) ws.length : Int) + 1) ≤ sumL ws * lft size ws := Int.mul_le_mul_of_nonneg_left h4 (by omega)
    rw [Int.mul_add, Int.mul_one] at h5
    have h6 : (cntR (rOf size (sumL ws) ws) ws.length : Int) * (sumL ws - 1) = sumL ws * (cntR (rOf size (sumL ws) ws) ws.length : Int) - (cntR (rOf size (sumL ws) ws) ws.length : Int) := by
      rw [Int.mul_sub, Int.mul_one, Int.mul_comm]
    omega
  · rw [if_neg hk]; exact .inl (by omega)
/-- A greater weight has no smaller part. -/
theorem part_mono {size : Int} {ws : List Int} (h : Good size ws) (i k : Nat) (hi : i < ws.length) (hk : k < ws.length) (hw : ws[k]?.getD 0 < ws[i]?.getD 0) :
    (parts size ws)[k]?.getD 0 ≤ (parts size ws)[i]?.getD 0 := by
  have hs := h.s2
  have hdi := Int.mul_ediv_add_emod (size * (ws[i]?.getD 0)) (sumL ws)
  have hdk := Int.mul_ediv_add_emod (size * (ws[k]?.getD 0)) (sumL ws)
  have hle : size * (ws[k]?.getD 0) ≤ size * (ws[i]?.getD 0) := Int.mul_le_mul_of_nonneg_left (by omega) h.s0
  have hq : qOf size (sumL ws) ws k ≤ qOf size (sumL ws) ws i := Int.ediv_le_ediv hs hle
  rcases part_each h i hi with pi | ⟨pi, _⟩
  · rcases part_each h k hk with pk | ⟨pk, rk0⟩
    · omega
    · rcases Int.lt_or_eq_of_le hq with hlt | heq
      · omega
      · exfalso
        have hsz : 0 < size := by
          rcases Int.lt_or_eq_of_le h.s0 with h0 | h0
          · exact h0
          · exact absurd (by unfold rOf; rw [← h0]; simp) rk0
        have hlt2 : size * (ws[k]?.getD 0) < size * (ws[i]?.getD 0) := Int.mul_lt_mul_of_pos_left hw hsz
        have hr : rOf size (sumL ws) ws k < rOf size (sumL ws) ws i := by
          have e1 : qOf size (sumL ws) ws k = size * (ws[k]?.getD 0) / sumL ws := rfl
          have e2 : qOf size (sumL ws) ws i = size * (ws[i]?.getD 0) / sumL ws := rfl
          rw [← e1, heq] at hdk
          rw [← e2] at hdi
          show size * (ws[k]?.getD 0) % sumL ws < size * (ws[i]?.getD 0) % sumL ws
          omega
        obtain ⟨h0, _⟩ := lft_bd size ws hs
        have g1 := outL_get (qOf size (sumL ws) ws) (rOf size (sumL ws) ws) ws.length (lft size ws).toNat k hk
        have g2 := outL_get (qOf size (sumL ws) ws) (rOf size (sumL ws) ws) ws.length (lft size ws).toNat i hi
        rw [← parts_eq size ws h0] at g1 g2
        have hrk := rk_lt_of_bef (rOf size (sumL ws) ws) ws.length i k hi (.inl hr)
        by_cases hkt : rk (rOf size (sumL ws) ws) ws.length k < (lft size ws).toNat
        · rw [if_pos (by omega)] at g2; omega
        · rw [if_neg hkt] at g1; omega
  · rcases part_each h k hk with pk | ⟨pk, _⟩ <;> omega

end Go.Proofs.YtnikhbdjlipcbaaGreatDoor.Spl
