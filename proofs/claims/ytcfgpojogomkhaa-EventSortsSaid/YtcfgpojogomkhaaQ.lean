/-
  The reference's Sort: the lists. No program.
-/
import Derived.Test.YtcfgpojogomkhaaF
namespace Go.Proofs.Ytcfgpojogomkhaa
open Go.RowKit Go.Shelf Go.Sort

/-- Not after. -/
def leEv (x y : Ev) : Prop := ¬ 0 < cmpEv x y
theorem leEv_trans {x y z : Ev} (h1 : leEv x y) (h2 : leEv y z) : leEv x z := by
  unfold leEv at *
  have a1 := tot_ev.anti x y
  have a2 := tot_ev.anti y z
  have a3 := tot_ev.anti x z
  by_cases e1 : cmpEv x y = 0
  · rw [tot_ev.cong x y z e1]; exact h2
  · by_cases e2 : cmpEv y z = 0
    · have := tot_ev.cong z y x (by omega); omega
    · have := tot_ev.trans x y z (by omega) (by omega); omega
theorem leEv_of_gt {x y : Ev} (h : 0 < cmpEv x y) : leEv y x := by
  unfold leEv; have := tot_ev.anti x y; omega
theorem leEv_anti {x y : Ev} (h1 : leEv x y) (h2 : leEv y x) : x = y := by
  unfold leEv at *
  have := tot_ev.anti x y
  exact cmpEv_zero (by omega)
theorem sortEv_sorted (l : List Ev) : (sortEv l).Pairwise leEv := by
  have h : ∀ a b : Ev, ((fun x y => !(ltOf cmpEv) y x) a b = true) ↔ leEv a b := fun a b => by
    unfold ltOf leEv
    have := tot_ev.anti a b
    simp; omega
  have := List.pairwise_mergeSort (le := fun x y => !(ltOf cmpEv) y x) (fun a b c h1 h2 => (h a c).2 (leEv_trans ((h a b).1 h1) ((h b c).1 h2))) (fun a b => by
    by_cases e : 0 < cmpEv a b
    · have := (h b a).2 (leEv_of_gt e); simp [this]
    · have := (h a b).2 e; simp [this]) l
  exact this.imp fun {a b} hab => (h a b).1 hab
theorem sortEv_perm (l : List Ev) : (sortEv l).Perm l := List.mergeSort_perm _ _
/-- Whatever is sorted and made of l's events is THE sorted list. -/
theorem sorted_is (l m : List Ev) (hp : m.Perm l) (hs : m.Pairwise leEv) : m = sortEv l :=
  List.Perm.eq_of_pairwise (fun _ _ _ _ h1 h2 => leEv_anti h1 h2) hs (sortEv_sorted l) (hp.trans (sortEv_perm l).symm)

/-- x on its way down: S is sorted, x stands before S's place j. -/
def mid (S : List Ev) (x : Ev) (R : List Ev) (j : Nat) : List Ev := S.take j ++ x :: (S.drop j ++ R)
theorem mid_length (S : List Ev) (x : Ev) (R : List Ev) (j : Nat) (hj : j ≤ S.length) : (mid S x R j).length = S.length + 1 + R.length := by
  simp [mid]; omega
theorem mid_at (S : List Ev) (x : Ev) (R : List Ev) (j : Nat) (hj : j ≤ S.length) : (mid S x R j)[j]?.getD default = x := by
  have : (S.take j).length = j := by simp; omega
  unfold mid
  rw [List.getElem?_append_right (by omega), this, Nat.sub_self]; rfl
theorem mid_before (S : List Ev) (x : Ev) (R : List Ev) (j : Nat) (hj : j < S.length) : (mid S x R (j + 1))[j]?.getD default = S[j]?.getD default := by
  unfold mid
  rw [List.getElem?_append_left (by simp; omega), List.getElem?_take_of_lt (by omega)]
theorem mid_full (S : List Ev) (x : Ev) (R : List Ev) : mid S x R S.length = S ++ x :: R := by simp [mid]
theorem mid_perm (S : List Ev) (x : Ev) (R : List Ev) (j : Nat) : (mid S x R j).Perm (S ++ x :: R) := by
  unfold mid
  calc (S.take j ++ x :: (S.drop j ++ R)).Perm (x :: (S.take j ++ (S.drop j ++ R))) := List.perm_middle
    _ = x :: (S ++ R) := by rw [← List.append_assoc, List.take_append_drop]
    List.Perm _ (S ++ x :: R) := List.perm_middle.symm
theorem mid_swap (S : List Ev) (x : Ev) (R : List Ev) (j : Nat) (hj : j < S.length) : ((mid S x R (j + 1)).set j x).set (j + 1) (S[j]?.getD default) = mid S x R j := by
  have e : mid S x R (j + 1) = S.take j ++ S[j]?.getD default :: x :: (S.drop (j + 1) ++ R) := by
    unfold mid
    rw [List.take_add_one, List.getElem?_eq_getElem hj, List.append_assoc]; rfl
  have h : (S.take j).length = j := by simp; omega
  rw [e, List.set_append_right _ _ (by omega), h, Nat.sub_self, List.set_cons_zero, List.set_append_right _ _ (by omega), h, show j + 1 - j = 1 by omega, List.set_cons_succ, List.set_cons_zero]
  unfold mid
  rw [List.drop_eq_getElem_cons hj, List.getElem?_eq_getElem hj]; rfl
theorem mid_sorted (S : List Ev) (x : Ev) (R : List Ev) (j : Nat) (hj : j ≤ S.length) (hs : S.Pairwise leEv) (hgt : ∀ s ∈ S.drop j, 0 < cmpEv s x) (hle : j = 0 ∨ leEv (S[j - 1]?.getD default) x) : ((mid S x R j).take (S.length + 1)).Pairwise leEv := by
  have e : (mid S x R j).take (S.length + 1) = S.take j ++ x :: S.drop j := by
    unfold mid
    have h : (S.take j ++ x :: S.drop j).length = S.length + 1 := by simp; omega
    rw [show S.take j ++ x :: (S.drop j ++ R) = (S.take j ++ x :: S.drop j) ++ R by simp, ← h, List.take_left']
    rfl
  rw [e]
  rw [← List.take_append_drop j S] at hs
  obtain ⟨h1, h2, h3⟩ := List.pairwise_append.1 hs
  refine List.pairwise_append.2 ⟨h1, List.pairwise_cons.2 ⟨fun s hs' => leEv_of_gt (hgt s hs'), h2⟩, ?_⟩
  intro a ha b hb
  rcases List.mem_cons.1 hb with rfl | hb
  · rcases hle with rfl | hle
    · simp at ha
    · by_cases hj0 : j = 0
      · subst hj0; simp at ha
      · obtain ⟨i, hi, rfl⟩ := List.getElem_of_mem ha
        simp only [List.length_take] at hi
        by_cases e : i = j - 1
        · rw [List.getElem_take]
          rw [List.getElem?_eq_getElem (by omega)] at hle
          subst e; exact hle
        · have hp := List.pairwise_iff_getElem.1 h1 i (j - 1) (by simp; omega) (by simp; omega) (by omega)
          rw [List.getElem_take, List.getElem_take] at hp
          rw [List.getElem_take]
          rw [List.getElem?_eq_getElem (by omega)] at hle
          exact leEv_trans hp hle
  · exact h3 a ha b hb
theorem mid_drop (S : List Ev) (x : Ev) (j : Nat) (hj : j < S.length) (hgt : ∀ s ∈ S.drop (j + 1), 0 < cmpEv s x) (h : 0 < cmpEv (S[j]?.getD default) x) : ∀ s ∈ S.drop j, 0 < cmpEv s x := by
  intro s hs
  rw [List.drop_eq_getElem_cons hj] at hs
  rcases List.mem_cons.1 hs with rfl | hs
  · rw [List.getElem?_eq_getElem hj] at h; exact h
  · exact hgt s hs

/-! ### an event laid over another -/
theorem rowAt_setCells {g : Nat} {t : TypeId} (vs : List Value) : ∀ {w : World} {l : List Value} (off : Nat), RowAt w g t l → off + vs.length ≤ l.length → RowAt (w.setCells g off vs) g t (l.take off ++ vs ++ l.drop (off + vs.length)) := by
  induction vs with
  | nil => intro w l off h hl; simpa [World.setCells] using h
  | cons v vs ih =>
    intro w l off h hl
    simp only [List.length_cons] at hl
    have := ih (off + 1) (h.set off v) (by simp; omega)
    rw [World.setCells]
    have e : (l.set off v).take (off + 1) ++ vs ++ (l.set off v).drop (off + 1 + vs.length) = l.take off ++ (v :: vs) ++ l.drop (off + (v :: vs).length) := by
      rw [List.take_add_one, List.take_set_of_le (by omega), List.getElem?_set_self (by omega), List.drop_set_of_lt (by omega)]
      simp; congr 1; omega
    rw [← e]; exact this
theorem evs_append (a b : List Ev) : evs (a ++ b) = evs a ++ evs b := by simp [evs]
theorem evs_take (l : List Ev) (j : Nat) (hj : j ≤ l.length) : (evs l).take (j * 9) = evs (l.take j) := by
  have h : (evs (l.take j)).length = j * 9 := by rw [evs_length]; simp; omega
  conv => lhs; rw [← List.take_append_drop j l, evs_append, ← h]
  exact List.take_left' rfl
theorem evs_drop (l : List Ev) (j : Nat) (hj : j ≤ l.length) : (evs l).drop (j * 9) = evs (l.drop j) := by
  have h : (evs (l.take j)).length = j * 9 := by rw [evs_length]; simp; omega
  conv => lhs; rw [← List.take_append_drop j l, evs_append, ← h]
  exact List.drop_left' rfl
theorem rowAt_put {w : World} {g : Nat} {t : TypeId} {l : List Ev} (h : RowAt w g t (evs l)) (j : Nat) (hj : j < l.length) (x : Ev) : RowAt (w.setCells g (j * 9) (encEv x)) g t (evs (l.set j x)) := by
  have := rowAt_setCells (w := w) (encEv x) (j * 9) h (by rw [evs_length, encEv_length]; omega)
  rw [encEv_length, evs_take l j (by omega), show j * 9 + 9 = (j + 1) * 9 by omega, evs_drop l (j + 1) (by omega)] at this
  rw [List.set_eq_take_append_cons_drop, if_pos hj, evs_append]
  simpa [evs] using this

end Go.Proofs.Ytcfgpojogomkhaa
