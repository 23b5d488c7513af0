/-
  Plain laws of the split of a total by weights: ranks of remainders. No program in sight.
-/
namespace Go.Proofs.Ytnikhbdjlipcbaa

/-- j comes before i: a greater remainder, or the same one and a smaller place. -/
def bef (r : Nat → Int) (j i : Nat) : Prop := r i < r j ∨ (r j = r i ∧ j < i)
instance (r : Nat → Int) (j i : Nat) : Decidable (bef r j i) := by unfold bef; exact inferInstance
theorem bef_irrefl (r : Nat → Int) (i : Nat) : ¬ bef r i i := by unfold bef; omega
theorem bef_asymm (r : Nat → Int) (i j : Nat) (h : bef r i j) : ¬ bef r j i := by unfold bef at *; omega
theorem bef_trans (r : Nat → Int) (i j k : Nat) (h : bef r i j) (h2 : bef r j k) : bef r i k := by unfold bef at *; omega
theorem bef_total (r : Nat → Int) (i j : Nat) (h : i ≠ j) : bef r i j ∨ bef r j i := by unfold bef; omega

/-- How many places of n come before i. -/
def rk (r : Nat → Int) (n i : Nat) : Nat := (List.range n).countP fun j => decide (bef r j i)

theorem rk_lt_of_bef (r : Nat → Int) (n i j : Nat) (hi : i < n) (h : bef r i j) : rk r n i < rk r n j := by
  unfold rk
  have hsub : ∀ l : List Nat, l.countP (fun k => decide (bef r k i)) ≤ l.countP (fun k => decide (bef r k j)) := fun l => by
    apply List.countP_mono_left
    intro x _ hx
    simp only [decide_eq_true_eq] at hx ⊢
    exact bef_trans r x i j hx h
  have key : ∀ l : List Nat, i ∈ l → l.countP (fun k => decide (bef r k i)) < l.countP (fun k => decide (bef r k j)) := by
    intro l
    induction l with
    | nil => intro h; simp at h
    | cons x l ih =>
      intro hx
      rw [List.countP_cons, List.countP_cons]
      by_cases e : x = i
      · subst e
        have h1 : decide (bef r x x) = false := by simpa using bef_irrefl r x
        have h2 : decide (bef r x j) = true := by simpa using h
        rw [h1, h2]
        have := hsub l
        simp
        omega
      · have := ih (by simpa [Ne.symm e] using hx)
        by_cases b : bef r x i
        · have b2 := bef_trans r x i j b h
          simp [b, b2]; omega
        · simp [b]
          split <;> omega
  exact key _ (by simpa using hi)

/-- A permutation of the places in which each comes before all later ones: the rank of what stands at k is k. -/
theorem rk_of_sorted (r : Nat → Int) (n : Nat) (L : List Nat) (hp : L.Perm (List.range n)) (hs : L.Pairwise (bef r)) (k : Nat) (hk : k < L.length) : rk r n L[k] = k := by
  unfold rk
  rw [← List.Perm.countP_eq _ hp]
  have e : L = L.take k ++ L[k] :: L.drop (k + 1) := by
    rw [← List.drop_eq_getElem_cons hk, List.take_append_drop]
  have h1 : (L.take k).countP (fun j => decide (bef r j L[k])) = k := by
    have : (L.take k).countP (fun j => decide (bef r j L[k])) = (L.take k).length := by
      rw [List.countP_eq_length]
      intro x hx
      obtain ⟨i, hi, rfl⟩ := List.mem_iff_getElem.1 hx
      simp only [List.length_take] at hi
      simp only [List.getElem_take, decide_eq_true_eq]
      exact List.pairwise_iff_getElem.1 hs i k (by omega) hk (by omega)
    rw [this, List.length_take]; omega
  have h2 : (L.drop (k + 1)).countP (fun j => decide (bef r j L[k])) = 0 := by
    rw [List.countP_eq_zero]
    intro x hx
    obtain ⟨i, hi, rfl⟩ := List.mem_iff_getElem.1 hx
    simp only [List.length_drop] at hi
    simp only [List.getElem_drop, decide_eq_true_eq]
    exact bef_asymm r _ _ (List.pairwise_iff_getElem.1 hs k (k + 1 + i) hk (by omega) (by omega))
  have e2 := congrArg (List.countP (fun j => decide (bef r j L[k]))) e
  rw [e2, List.countP_append, List.countP_cons, h1, h2]
  simp [bef_irrefl]

def sumL (l : List Int) : Int := l.foldl (· + ·) 0
theorem sumL_snoc (l : List Int) (x : Int) : sumL (l ++ [x]) = sumL l + x := by simp [sumL]

/-- The part of place i before the rest is handed out; its remainder. -/
def qOf (size s : Int) (ws : List Int) (i : Nat) : Int := size * (ws[i]?.getD 0) / s
def rOf (size s : Int) (ws : List Int) (i : Nat) : Int := size * (ws[i]?.getD 0) % s
/-- What is left when k parts are taken off. -/
def leftAt (size s : Int) (ws : List Int) : Nat → Int
  | 0 => size
  | k + 1 => leftAt size s ws k - qOf size s ws k
def lft (size : Int) (ws : List Int) : Int := leftAt size (sumL ws) ws ws.length
/-- The parts of a size that is not negative. -/
def parts (size : Int) (ws : List Int) : List Int :=
  (List.range ws.length).map fun i => qOf size (sumL ws) ws i + if (rk (rOf size (sumL ws) ws) ws.length i : Int) < lft size ws then 1 else 0
def wOK (w : Int) : Bool := decide (0 ≤ w ∧ w ≤ 4000)

/-- Sums of remainders bound what is left. -/
theorem left_bd (size s : Int) (ws : List Int) (hs : 0 < s) (k : Nat) (hk : k ≤ ws.length) :
    0 ≤ s * leftAt size s ws k - size * (s - sumL (ws.take k)) ∧ s * leftAt size s ws k - size * (s - sumL (ws.take k)) ≤ (k : Int) * (s - 1) := by
  induction k with
  | zero => simp [leftAt, sumL, Int.mul_comm]
  | succ k ih =>
    obtain ⟨i1, i2⟩ := ih (by omega)
    have ht : ws.take (k + 1) = ws.take k ++ [ws[k]?.getD 0] := by
      rw [List.take_add_one, List.getElem?_eq_getElem (by omega)]; rfl
    rw [ht, sumL_snoc, leftAt]
    have hd := Int.mul_ediv_add_emod (size * (ws[k]?.getD 0)) s
    have hm0 := Int.emod_nonneg (size * (ws[k]?.getD 0)) (show s ≠ 0 by omega)
    have hm1 := Int.emod_lt_of_pos (size * (ws[k]?.getD 0)) hs
    unfold qOf
    generalize ws[k]?.getD 0 = x at *
    generalize size * x / s = q at *
    generalize size * x % s = m at *
    have e1 : s * (leftAt size s ws k - q) = s * leftAt size s ws k - s * q := by rw [Int.mul_sub]
    have e2 : size * (s - (sumL (ws.take k) + x)) = size * (s - sumL (ws.take k)) - size * x := by rw [← Int.mul_sub]; congr 1; omega
    have e3 : ((k + 1 : Nat) : Int) * (s - 1) = (k : Int) * (s - 1) + (s - 1) := by rw [Int.natCast_add, Int.add_mul]; simp
    rw [e1, e2, e3]
    omega

theorem lft_bd (size : Int) (ws : List Int) (hs : 0 < sumL ws) : 0 ≤ lft size ws ∧ (lft size ws < ws.length ∨ ws.length = 0) := by
  have h := left_bd size (sumL ws) ws hs ws.length (Nat.le_refl _)
  rw [List.take_length] at h
  unfold lft
  generalize leftAt size (sumL ws) ws ws.length = L at *
  generalize sumL ws = s at *
  simp only [Int.sub_self, Int.mul_zero, Int.sub_zero] at h
  obtain ⟨h1, h2⟩ := h
  refine ⟨?_, ?_⟩
  · exact Int.nonneg_of_mul_nonneg_right h1 hs
  · by_cases e : ws.length = 0
    · exact .inr e
    · left
      refine Int.lt_of_mul_lt_mul_left (a := s) ?_ (by omega)
      have : s * (ws.length : Int) = (ws.length : Int) * (s - 1) + ws.length := by
        rw [Int.mul_sub, Int.mul_comm]; simp
      omega


theorem rk_inj (r : Nat → Int) (n i j : Nat) (hi : i < n) (hj : j < n) (h : rk r n i = rk r n j) : i = j := by
  refine Decidable.byContradiction fun hne => ?_
  rcases bef_total r i j hne with h1 | h1
  · have := rk_lt_of_bef r n i j hi h1; omega
  · have := rk_lt_of_bef r n j i hj h1; omega

/-- How many places have a rank below t. -/
def below (r : Nat → Int) (n t : Nat) : Nat := (List.range n).countP fun j => decide (rk r n j < t)
theorem below_zero (r : Nat → Int) (n : Nat) : below r n 0 = 0 := by
  unfold below; rw [List.countP_eq_zero]; intro x _; simp

theorem below_succ (r : Nat → Int) (n t i : Nat) (hi : i < n) (h : rk r n i = t) : below r n (t + 1) = below r n t + 1 := by
  have key : ∀ l : List Nat, l.Nodup → (∀ x ∈ l, x < n) → l.countP (fun j => decide (rk r n j < t + 1)) = l.countP (fun j => decide (rk r n j < t)) + (if i ∈ l then 1 else 0) := by
    intro l
    induction l with
    | nil => intro _ _; simp
    | cons x l ih =>
      intro hnd hlt
      have hnd' := List.nodup_cons.1 hnd
      have := ih hnd'.2 (fun y hy => hlt y (by simp [hy]))
      rw [List.countP_cons, List.countP_cons, this]
      by_cases e : x = i
      · subst e
        rw [if_neg hnd'.1]
        simp [h]
      · have hx : rk r n x ≠ t := fun e2 => e (rk_inj r n x i (hlt x (by simp)) hi (by omega))
        have e3 : decide (rk r n x < t + 1) = decide (rk r n x < t) := by
          rw [decide_eq_decide]; omega
        rw [e3]
        have e4 : (i ∈ x :: l) ↔ i ∈ l := by simp [Ne.symm e]
        simp only [e4]
        omega
  have := key (List.range n) List.nodup_range (fun x hx => by simpa using hx)
  unfold below
  rw [this, if_pos (by simpa using hi)]

/-- The first greatest of those that are not marked has rank t. -/
theorem best_rank (r : Nat → Int) (n t b : Nat) (hr : ∀ i, i < n → 0 ≤ r i) (hb : b < n) (ht : below r n t = t) (htn : t < n)
    (f : Nat → Int) (hf : ∀ i, i < n → f i = if rk r n i < t then -1 else r i)
    (h1 : ∀ j, j < n → f j ≤ f b) (h2 : ∀ j, j < b → f j < f b) : rk r n b = t := by
  have hex : ∃ j, j < n ∧ ¬ rk r n j < t := by
    refine Decidable.byContradiction fun hno => ?_
    have : below r n t = n := by
      unfold below
      have : (List.range n).countP (fun j => decide (rk r n j < t)) = (List.range n).length := by
        rw [List.countP_eq_length]
        intro x hx
        have hx' : x < n := by simpa using hx
        simp only [decide_eq_true_eq]
        exact Decidable.byContradiction fun h => hno ⟨x, hx', h⟩
      rw [this, List.length_range]
    omega
  obtain ⟨j0, hj0, hj1⟩ := hex
  have hb0 : 0 ≤ f b := by
    have := h1 j0 hj0
    rw [hf j0 hj0, if_neg hj1] at this
    have := hr j0 hj0
    omega
  have hbt : ¬ rk r n b < t := by
    intro h
    rw [hf b hb, if_pos h] at hb0
    omega
  have hfb : f b = r b := by rw [hf b hb, if_neg hbt]
  have hiff : ∀ j, j < n → (bef r j b ↔ rk r n j < t) := by
    intro j hj
    constructor
    · intro h
      refine Decidable.byContradiction fun hn => ?_
      have e := hf j hj
      rw [if_neg hn] at e
      have h3 := h1 j hj
      rw [e, hfb] at h3
      unfold bef at h
      rcases h with h | ⟨h, h'⟩
      · omega
      · have := h2 j h'
        rw [e, hfb] at this
        omega
    · intro h
      by_cases e : j = b
      · subst e; exact absurd h hbt
      · rcases bef_total r j b e with h3 | h3
        · exact h3
        · have := rk_lt_of_bef r n b j hb h3
          omega
  rw [← ht]
  unfold rk below
  apply List.countP_congr
  intro x hx
  have hx' : x < n := by simpa using hx
  simp only [decide_eq_true_eq]
  exact hiff x hx'

/-- The remainders that are left after t rounds; the parts after t rounds. -/
def restL (r : Nat → Int) (n t : Nat) : List Int := (List.range n).map fun i => if rk r n i < t then -1 else r i
def outL (q r : Nat → Int) (n t : Nat) : List Int := (List.range n).map fun i => q i + if rk r n i < t then 1 else 0
theorem restL_length (r : Nat → Int) (n t : Nat) : (restL r n t).length = n := by simp [restL]
theorem outL_length (q r : Nat → Int) (n t : Nat) : (outL q r n t).length = n := by simp [outL]
theorem restL_get (r : Nat → Int) (n t i : Nat) (hi : i < n) : (restL r n t)[i]?.getD 0 = if rk r n i < t then -1 else r i := by simp [restL, hi]
theorem outL_get (q r : Nat → Int) (n t i : Nat) (hi : i < n) : (outL q r n t)[i]?.getD 0 = q i + if rk r n i < t then 1 else 0 := by simp [outL, hi]
theorem restL_set (r : Nat → Int) (n t b : Nat) (hb : b < n) (h : rk r n b = t) : (restL r n t).set b (-1) = restL r n (t + 1) := by
  apply List.ext_getElem
  · simp [restL]
  · intro i h1 h2
    have hi : i < n := by simpa [restL] using h2
    by_cases e : b = i
    · subst e; simp [restL, h]
    · have : rk r n i ≠ t := fun e2 => e (rk_inj r n b i hb hi (by omega))
      rw [List.getElem_set_ne e]
      simp only [restL, List.getElem_map, List.getElem_range]
      by_cases c : rk r n i < t
      · rw [if_pos c, if_pos (by omega)]
      · rw [if_neg c, if_neg (by omega)]
theorem outL_set (q r : Nat → Int) (n t b : Nat) (hb : b < n) (h : rk r n b = t) : (outL q r n t).set b (q b + 1) = outL q r n (t + 1) := by
  apply List.ext_getElem
  · simp [outL]
  · intro i h1 h2
    have hi : i < n := by simpa [outL] using h2
    by_cases e : b = i
    · subst e; simp [outL, h]
    · have : rk r n i ≠ t := fun e2 => e (rk_inj r n b i hb hi (by omega))
      rw [List.getElem_set_ne e]
      simp only [outL, List.getElem_map, List.getElem_range]
      by_cases c : rk r n i < t
      · rw [if_pos c, if_pos (by omega)]
      · rw [if_neg c, if_neg (by omega)]
theorem parts_eq (size : Int) (ws : List Int) (h : 0 ≤ lft size ws) : parts size ws = outL (qOf size (sumL ws) ws) (rOf size (sumL ws) ws) ws.length (lft size ws).toNat := by
  unfold parts outL
  apply List.map_congr_left
  intro i _
  congr 1
  by_cases c : (rk (rOf size (sumL ws) ws) ws.length i : Int) < lft size ws
  · rw [if_pos c, if_pos (by omega)]
  · rw [if_neg c, if_neg (by omega)]
theorem outL_zero (q r : Nat → Int) (n : Nat) : outL q r n 0 = (List.range n).map q := by
  unfold outL; apply List.map_congr_left; intro i _; simp
theorem restL_zero (r : Nat → Int) (n : Nat) : restL r n 0 = (List.range n).map r := by
  unfold restL; apply List.map_congr_left; intro i _; simp
theorem range_map_snoc (f : Nat → Int) (k : Nat) : (List.range (k + 1)).map f = (List.range k).map f ++ [f k] := by rw [List.range_succ, List.map_append]; rfl


theorem sumL_bd (ws : List Int) (h : ∀ i, i < ws.length → 0 ≤ ws[i]?.getD 0 ∧ ws[i]?.getD 0 ≤ 4000) (k : Nat) (hk : k ≤ ws.length) : 0 ≤ sumL (ws.take k) ∧ sumL (ws.take k) ≤ 4000 * (k : Int) := by
  induction k with
  | zero => simp [sumL]
  | succ k ih =>
    have ht : ws.take (k + 1) = ws.take k ++ [ws[k]?.getD 0] := by
      rw [List.take_add_one, List.getElem?_eq_getElem (by omega)]; rfl
    rw [ht, sumL_snoc]
    have := ih (by omega)
    have := h k (by omega)
    omega
theorem sumL_mono (ws : List Int) (h : ∀ i, i < ws.length → 0 ≤ ws[i]?.getD 0 ∧ ws[i]?.getD 0 ≤ 4000) (k : Nat) (hk : k ≤ ws.length) : sumL (ws.take k) ≤ sumL ws := by
  have key : ∀ d, k + d ≤ ws.length → sumL (ws.take k) ≤ sumL (ws.take (k + d)) := by
    intro d
    induction d with
    | zero => intro _; exact Int.le_refl _
    | succ d ih =>
      intro hd
      have ht : ws.take (k + d + 1) = ws.take (k + d) ++ [ws[k + d]?.getD 0] := by
        rw [List.take_add_one, List.getElem?_eq_getElem (by omega)]; rfl
      rw [← Nat.add_assoc, ht, sumL_snoc]
      have := ih (by omega)
      have := h (k + d) (by omega)
      omega
  have := key (ws.length - k) (by omega)
  rwa [show k + (ws.length - k) = ws.length by omega, List.take_length] at this
/-- What the walk is told of a part: all its numbers are in range. -/
theorem part_bd (size s x : Int) (h0 : 0 ≤ size) (h1 : size ≤ 1125899906842624) (hs : 0 < s) (hx : 0 ≤ x) (hx4 : x ≤ 4000) :
    0 ≤ size * x ∧ size * x ≤ 4503599627370496000 ∧ 0 ≤ size * x / s ∧ size * x / s ≤ 4503599627370496000 ∧ 0 ≤ size * x % s ∧ size * x % s < s := by
  have a : 0 ≤ size * x := Int.mul_nonneg h0 hx
  have b : size * x ≤ 1125899906842624 * 4000 := Int.mul_le_mul h1 hx4 hx (by omega)
  have c := Int.ediv_nonneg a (Int.le_of_lt hs)
  have d : size * x / s ≤ size * x := Int.ediv_le_self _ a
  exact ⟨a, by omega, c, by omega, Int.emod_nonneg _ (by omega), Int.emod_lt_of_pos _ hs⟩
theorem leftAt_bd (size : Int) (ws : List Int) (h0 : 0 ≤ size) (hs : 0 < sumL ws) (h : ∀ i, i < ws.length → 0 ≤ ws[i]?.getD 0 ∧ ws[i]?.getD 0 ≤ 4000) (k : Nat) (hk : k ≤ ws.length) :
    0 ≤ leftAt size (sumL ws) ws k ∧ leftAt size (sumL ws) ws k ≤ size := by
  constructor
  · have h1 := (left_bd size (sumL ws) ws hs k hk).1
    have h2 := sumL_mono ws h k hk
    have h3 : 0 ≤ size * (sumL ws - sumL (ws.take k)) := Int.mul_nonneg h0 (by omega)
    have h4 : 0 ≤ sumL ws * leftAt size (sumL ws) ws k := by omega
    exact Int.nonneg_of_mul_nonneg_right h4 hs
  · clear hk
    induction k with
    | zero => exact Int.le_refl _
    | succ k ih =>
      rw [leftAt]
      have : 0 ≤ qOf size (sumL ws) ws k := by
        unfold qOf
        refine Int.ediv_nonneg (Int.mul_nonneg h0 ?_) (Int.le_of_lt hs)
        by_cases e : k < ws.length
        · exact (h k e).1
        · rw [List.getElem?_eq_none (by omega)]; simp
      omega


/-- The first k of a list negated. -/
def negL (k : Nat) (l : List Int) : List Int := (l.take k).map (fun x => -x) ++ l.drop k
theorem negL_length (k : Nat) (l : List Int) : (negL k l).length = l.length := by simp [negL]; omega
theorem negL_zero (l : List Int) : negL 0 l = l := by simp [negL]
theorem negL_all (l : List Int) : negL l.length l = l.map (fun x => -x) := by simp [negL]
theorem negL_get (k : Nat) (l : List Int) (hk : k < l.length) : (negL k l)[k]?.getD 0 = l[k]?.getD 0 := by
  unfold negL
  rw [List.getElem?_append_right (by simp; omega)]
  simp [Nat.min_eq_left (Nat.le_of_lt hk)]
theorem negL_set (k : Nat) (l : List Int) (hk : k < l.length) : (negL k l).set k (-(l[k]?.getD 0)) = negL (k + 1) l := by
  unfold negL
  have e1 : ((l.take k).map (fun x => -x)).length = k := by simp; omega
  rw [List.set_append_right _ _ (by omega), e1, Nat.sub_self, List.drop_eq_getElem_cons hk, List.take_succ_eq_append_getElem hk, List.map_append, List.set_cons_zero, List.append_assoc]
  congr 1
  rw [List.getElem?_eq_getElem hk]
  rfl
theorem parts_length (size : Int) (ws : List Int) : (parts size ws).length = ws.length := by simp [parts]
theorem parts_bd (size : Int) (ws : List Int) (h0 : 0 ≤ size) (h1 : size ≤ 1125899906842624) (hs : 0 < sumL ws) (h : ∀ i, i < ws.length → 0 ≤ ws[i]?.getD 0 ∧ ws[i]?.getD 0 ≤ 4000) (i : Nat) (hi : i < ws.length) :
    0 ≤ (parts size ws)[i]?.getD 0 ∧ (parts size ws)[i]?.getD 0 ≤ 4503599627370496001 := by
  have hp := part_bd size (sumL ws) (ws[i]?.getD 0) h0 h1 hs (h i hi).1 (h i hi).2
  have e : (parts size ws)[i]?.getD 0 = qOf size (sumL ws) ws i + if (rk (rOf size (sumL ws) ws) ws.length i : Int) < lft size ws then 1 else 0 := by
    simp [parts, hi]
  rw [e]
  obtain ⟨_, _, h3, h4, _, _⟩ := hp
  have q3 : 0 ≤ qOf size (sumL ws) ws i := h3
  have q4 : qOf size (sumL ws) ws i ≤ 4503599627370496000 := h4
  split <;> omega
/-- The result of Split. -/
def splitOut (total : Int) (ws : List Int) : List Int := if total < 0 then (parts (-total) ws).map (fun x => -x) else parts total ws

end Go.Proofs.Ytnikhbdjlipcbaa
