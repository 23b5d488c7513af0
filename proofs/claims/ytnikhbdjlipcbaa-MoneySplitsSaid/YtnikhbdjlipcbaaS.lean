/-
  Plain laws of a stable merge sort by a key: blocks of a list. No program in sight.
-/
namespace Go.Proofs.Ytnikhbdjlipcbaa

section
variable (key : Int → Int)
/-- Sorted by the key; equal keys stand in the order of the values. -/
def Srt (l : List Int) : Prop := l.Pairwise fun x y => key x ≤ key y
def Stb (l : List Int) : Prop := l.Pairwise fun x y => key x = key y → x < y
variable {key}

theorem srt_append {l m : List Int} : Srt key (l ++ m) ↔ Srt key l ∧ Srt key m ∧ ∀ x ∈ l, ∀ y ∈ m, key x ≤ key y := List.pairwise_append
theorem stb_append {l m : List Int} : Stb key (l ++ m) ↔ Stb key l ∧ Stb key m ∧ ∀ x ∈ l, ∀ y ∈ m, key x = key y → x < y := List.pairwise_append
theorem srt_nil : Srt key [] := List.Pairwise.nil
theorem srt_one (x : Int) : Srt key [x] := List.pairwise_singleton _ _

theorem stb_perm_left {A M N Z : List Int} (h : Stb key (A ++ M ++ Z)) (hp : N.Perm M) (hN : Stb key N) : Stb key (A ++ N ++ Z) := by
  rw [List.append_assoc, stb_append, stb_append] at h ⊢
  obtain ⟨h1, ⟨h2, h3, h4⟩, h5⟩ := h
  refine ⟨h1, ⟨hN, h3, fun x hx y hy => h4 x (hp.mem_iff.1 hx) y hy⟩, fun x hx y hy => ?_⟩
  rw [List.mem_append] at hy
  exact h5 x hx y (by rw [List.mem_append]; exact hy.imp hp.mem_iff.1 id)
theorem stb_mid {A M Z : List Int} (h : Stb key (A ++ M ++ Z)) : Stb key M := by
  rw [List.append_assoc, stb_append, stb_append] at h
  exact h.2.1.1
/-- Two blocks change places, all of the second below all of the first. -/
theorem stb_rot {A U V Z : List Int} (h : Stb key (A ++ (U ++ V) ++ Z)) (hlt : ∀ x ∈ U, ∀ y ∈ V, key y < key x) : Stb key (A ++ (V ++ U) ++ Z) := by
  refine stb_perm_left h List.perm_append_comm ?_
  have := stb_mid h
  rw [stb_append] at this ⊢
  exact ⟨this.2.1, this.1, fun x hx y hy e => by have := hlt y hy x hx; omega⟩

/-- One element goes into a sorted block. -/
theorem srt_insert {P Q : List Int} {x : Int} (h : Srt key (P ++ Q)) (h1 : ∀ y ∈ P, key y ≤ key x) (h2 : ∀ y ∈ Q, key x ≤ key y) : Srt key (P ++ ([x] ++ Q)) := by
  rw [srt_append] at h ⊢
  obtain ⟨a, b, c⟩ := h
  refine ⟨a, srt_append.2 ⟨srt_one x, b, fun y hy z hz => by simp at hy; subst hy; exact h2 z hz⟩, fun y hy z hz => ?_⟩
  rw [List.mem_append] at hz
  rcases hz with hz | hz
  · simp at hz; subst hz; exact h1 y hy
  · exact c y hy z hz

/-- The four blocks of a merge. -/
theorem srt_merge {X1 X2 Y1 Y2 M1 M2 : List Int} (hX : Srt key (X1 ++ X2)) (hY : Srt key (Y1 ++ Y2)) (h1 : ∀ x ∈ X2, ∀ y ∈ Y1, key y < key x) (h2 : ∀ x ∈ X1, ∀ y ∈ Y2, key x ≤ key y)
    (p1 : M1.Perm (X1 ++ Y1)) (p2 : M2.Perm (X2 ++ Y2)) (s1 : Srt key M1) (s2 : Srt key M2) : Srt key (M1 ++ M2) ∧ (M1 ++ M2).Perm (X1 ++ X2 ++ (Y1 ++ Y2)) := by
  rw [srt_append] at hX hY
  constructor
  · rw [srt_append]
    refine ⟨s1, s2, fun x hx y hy => ?_⟩
    have hx := p1.mem_iff.1 hx
    have hy := p2.mem_iff.1 hy
    rw [List.mem_append] at hx hy
    rcases hx with hx | hx <;> rcases hy with hy | hy
    · exact hX.2.2 x hx y hy
    · exact h2 x hx y hy
    · exact Int.le_of_lt (h1 y hy x hx)
    · exact hY.2.2 x hx y hy
  · refine (p1.append p2).trans ?_
    simp only [List.append_assoc]
    refine List.Perm.append_left _ ?_
    rw [← List.append_assoc, ← List.append_assoc]
    exact List.Perm.append_right _ List.perm_append_comm

/-- From one end to the whole block. -/
theorem srt_last {l : List Int} {x : Int} (h : Srt key (l ++ [x])) : ∀ y ∈ l, key y ≤ key x := fun y hy => (srt_append.1 h).2.2 y hy x (by simp)
theorem srt_first {l : List Int} {x : Int} (h : Srt key (x :: l)) : ∀ y ∈ l, key x ≤ key y := (List.pairwise_cons.1 h).1
theorem srt_idx {l : List Int} (h : Srt key l) (i j : Nat) (hij : i ≤ j) (hj : j < l.length) : key (l[i]?.getD 0) ≤ key (l[j]?.getD 0) := by
  rw [List.getElem?_eq_getElem (by omega), List.getElem?_eq_getElem hj]
  by_cases e : i = j
  · subst e; exact Int.le_refl _
  · exact List.pairwise_iff_getElem.1 h i j (by omega) hj (by omega)
theorem mem_take_idx {l : List Int} {k : Nat} {x : Int} (h : x ∈ l.take k) : ∃ i, i < k ∧ i < l.length ∧ x = l[i]?.getD 0 := by
  obtain ⟨i, hi, rfl⟩ := List.mem_iff_getElem.1 h
  simp only [List.length_take] at hi
  refine ⟨i, by omega, by omega, ?_⟩
  rw [List.getElem?_eq_getElem (by omega)]; simp
theorem mem_drop_idx {l : List Int} {k : Nat} {x : Int} (h : x ∈ l.drop k) : ∃ i, k ≤ i ∧ i < l.length ∧ x = l[i]?.getD 0 := by
  obtain ⟨i, hi, rfl⟩ := List.mem_iff_getElem.1 h
  simp only [List.length_drop] at hi
  refine ⟨k + i, by omega, by omega, ?_⟩
  rw [List.getElem?_eq_getElem (by omega)]; simp
end

/-- Two cells that stand apart change places. -/
theorem swap_far (P M S : List Int) (x y : Int) : ((P ++ [x] ++ M ++ [y] ++ S).set P.length y).set (P.length + 1 + M.length) x = P ++ [y] ++ M ++ [x] ++ S := by
  rw [show P ++ [x] ++ M ++ [y] ++ S = P ++ (x :: (M ++ y :: S)) by simp, List.set_append_right _ _ (Nat.le_refl _), Nat.sub_self, List.set_cons_zero,
    List.set_append_right _ _ (by omega), show P.length + 1 + M.length - P.length = M.length + 1 by omega, List.set_cons_succ, List.set_append_right _ _ (Nat.le_refl _), Nat.sub_self, List.set_cons_zero]
  simp
theorem swap_at {P M S : List Int} {x y : Int} {p q : Nat} (hp : P.length = p) (hq : P.length + 1 + M.length = q) : ((P ++ [x] ++ M ++ [y] ++ S).set p y).set q x = P ++ [y] ++ M ++ [x] ++ S := by
  subst hp; subst hq; exact swap_far P M S x y
theorem get_first (P M S : List Int) (x y : Int) : (P ++ [x] ++ M ++ [y] ++ S)[P.length]?.getD 0 = x := by simp
theorem get_second (P M S : List Int) (x y : Int) : (P ++ [x] ++ M ++ [y] ++ S)[P.length + 1 + M.length]?.getD 0 = y := by
  rw [show P ++ [x] ++ M ++ [y] ++ S = (P ++ [x] ++ M) ++ (y :: S) by simp, List.getElem?_append_right (by simp; omega)]
  have e : P.length + 1 + M.length - (P ++ [x] ++ M).length = 0 := by simp; omega
  rw [e]
  rfl

/-- The blocks U and V (of one length) in the middle of changing places: k cells are done. -/
def swapL (A U W V Z : List Int) (k : Nat) : List Int := A ++ (V.take k ++ U.drop k) ++ W ++ (U.take k ++ V.drop k) ++ Z
theorem swapL_zero (A U W V Z : List Int) : swapL A U W V Z 0 = A ++ U ++ W ++ V ++ Z := by simp [swapL]
theorem swapL_all (A U W V Z : List Int) (h : U.length = V.length) : swapL A U W V Z U.length = A ++ V ++ W ++ U ++ Z := by
  unfold swapL
  rw [List.take_of_length_le (by omega), List.drop_of_length_le (Nat.le_refl _), List.take_of_length_le (Nat.le_refl _), List.drop_of_length_le (by omega)]
  simp
theorem swapL_length (A U W V Z : List Int) (k : Nat) (h : U.length = V.length) : (swapL A U W V Z k).length = A.length + U.length + W.length + V.length + Z.length := by
  simp [swapL]; omega
theorem swapL_split (A U W V Z : List Int) (k : Nat) (h : U.length = V.length) (hk : k < U.length) :
    ∃ P M S x y, swapL A U W V Z k = P ++ [x] ++ M ++ [y] ++ S ∧ swapL A U W V Z (k + 1) = P ++ [y] ++ M ++ [x] ++ S ∧ P.length = A.length + k ∧ P.length + 1 + M.length = A.length + U.length + W.length + k := by
  refine ⟨A ++ V.take k, U.drop (k + 1) ++ W ++ U.take k, V.drop (k + 1) ++ Z, U[k], V[k]'(by omega), ?_, ?_, ?_, ?_⟩
  · unfold swapL
    rw [List.drop_eq_getElem_cons hk, List.drop_eq_getElem_cons (show k < V.length by omega)]
    simp only [List.append_assoc, List.cons_append, List.nil_append]
  · unfold swapL
    rw [List.take_succ_eq_append_getElem hk, List.take_succ_eq_append_getElem (show k < V.length by omega)]
    simp only [List.append_assoc, List.cons_append, List.nil_append]
  · simp; omega
  · simp; omega

end Go.Proofs.Ytnikhbdjlipcbaa
