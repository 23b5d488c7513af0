/-
  The joined text of valid tokens is read as these tokens, and joined again. No condition.
-/
import Derived.Test.YtnmiiimbjojcmaaDoorXb
import Derived.Test.YtnmiiimbjojcmaaDoorLe
namespace Go.Proofs.YtnmiiimbjojcmaaDoor
open Go.RowKit

noncomputable def txL (x : Tk) : List UInt8 := (txT x).data.toList
def tk0 (x : Tk) : Tk := { x with place := 0 }
theorem bs_nil {b : ByteArray} (h : b.toList.isEmpty = true) : b = bsL [] := by
  rw [toList_data] at h
  refine Go.WideShapes.bytes_inj ?_
  cases hb : b.data.toList with
  | nil => rfl
  | cons c l => rw [hb] at h; cases h
theorem oneL_text {x : Tk} (h : tkB x = true) : oneL (txL x) = .yes (tk0 x) (txL x).length := by
  obtain ⟨K, T, R, D, Z⟩ := x
  have hk := tkB_kind h
  unfold tkB at h
  dsimp only at h hk
  rcases hk with rfl | rfl | rfl | rfl | rfl
  · simp only [if_true, Bool.and_eq_true, beq_iff_eq] at h
    obtain ⟨⟨⟨⟨h1, h2⟩, h3⟩, _⟩, _⟩ := h
    have e : txL ⟨1, T, R, D, Z⟩ = T.data.toList := rfl
    rw [e, oneL_name h1, bs_nil h2, h3]
    rfl
  · rw [if_neg (by decide), if_pos rfl] at h
    simp only [Bool.and_eq_true, beq_iff_eq] at h
    obtain ⟨⟨⟨⟨h1, h2⟩, h3⟩, _⟩, _⟩ := h
    have e : txL ⟨2, T, R, D, Z⟩ = 34 :: (T.data.toList ++ [34]) := by
      show ((⟨#[34]⟩ ++ T ++ ⟨#[34]⟩ : ByteArray)).data.toList = _
      simp
    rw [e, oneL_quoted h1, bs_nil h2, h3]
    show OneR.yes _ _ = OneR.yes _ _
    congr 1
    simp
  · rw [if_neg (by decide), if_neg (by decide), if_pos rfl] at h
    simp only [Bool.and_eq_true, beq_iff_eq] at h
    obtain ⟨⟨⟨⟨h1, h2⟩, h3⟩, _⟩, _⟩ := h
    unfold vlT at h2
    obtain ⟨n, d, e2, hok⟩ := chkR_zero (by simpa using h2)
    have e : txL ⟨3, T, R, D, Z⟩ = R.data.toList := rfl
    rw [e, e2, oneL_rat hok, bs_nil h1, h3]
    have hR : R = bsL (ratT n d) := Go.WideShapes.bytes_inj e2
    rw [hR]
    rfl
  · rw [if_neg (by decide), if_neg (by decide), if_neg (by decide), if_pos rfl] at h
    simp only [Bool.and_eq_true, decide_eq_true_eq] at h
    obtain ⟨⟨⟨⟨⟨h1, h2⟩, h3⟩, h4⟩, _⟩, _⟩ := h
    have e : txL ⟨4, T, R, D, Z⟩ = dtxt D := rfl
    have hd := (date_exists D.toNat).choose_spec.choose_spec.choose_spec
    have := oneL_date (day := D.toNat) (by omega) hd
    rw [e, show dtxt D = _ from rfl]
    unfold dtxt
    rw [this, dateB_len, bs_nil h1, bs_nil h2, show ((D.toNat : Nat) : Int) = D by omega]
    rfl
  · rw [if_neg (by decide), if_neg (by decide), if_neg (by decide), if_neg (by decide), if_pos rfl] at h
    simp only [Bool.and_eq_true, beq_iff_eq] at h
    obtain ⟨⟨⟨⟨h1, h2⟩, h3⟩, _⟩, _⟩ := h
    have e : txL ⟨5, T, R, D, Z⟩ = T.data.toList := rfl
    unfold mk1 at h1
    split at h1
    · rename_i c hc
      rw [e, hc, oneL_mk1 h1, bs_nil h2, h3]
      have hT : T = bsL [c] := Go.WideShapes.bytes_inj hc
      rw [hT]
      rfl
    · cases h1
theorem jnL_snoc (x : List UInt8) : ∀ l : List (List UInt8), jnL (l ++ [x]) = jnL l ++ ((if l.length = 0 then [] else [32]) ++ x) := by
  intro l
  induction l with
  | nil => rfl
  | cons a l ih =>
    cases l with
    | nil => show a ++ 32 :: x = _; rfl
    | cons b l =>
      show a ++ 32 :: jnL ((b :: l) ++ [x]) = (a ++ 32 :: jnL (b :: l)) ++ _
      rw [ih]
      simp
theorem jT_jnL (l : List Tk) : ∀ k, k ≤ l.length → jT l k = jnL ((l.take k).map txL) := by
  intro k
  induction k with
  | zero => intro _; rfl
  | succ k ih =>
    intro hk
    have hlt : k < l.length := by omega
    rw [List.take_succ_eq_append_getElem hlt, List.map_append, List.map_singleton, jnL_snoc, List.length_map, List.length_take, Nat.min_eq_left (by omega), ← ih (by omega)]
    show jT l k ++ _ = _
    rw [List.getElem?_eq_getElem hlt]
    rfl
noncomputable def pairL (l : List Tk) : List (List UInt8 × Tk) := l.map fun x => (txL x, tk0 x)
theorem pairL_fst (l : List Tk) : (pairL l).map (·.1) = l.map txL := by unfold pairL; rw [List.map_map]; rfl
theorem all_tk {l : List Tk} (h : ∀ i, i < l.length → tkB (l[i]?.getD default) = true) : ∀ x ∈ l, tkB x = true := by
  intro x hx
  obtain ⟨i, hi, e⟩ := List.getElem_of_mem hx
  have := h i hi
  rw [List.getElem?_eq_getElem hi, e] at this
  exact this
/-- What the joined text is read as. -/
theorem lex_join {l : List Tk} (h : ∀ i, i < l.length → tkB (l[i]?.getD default) = true) : lexL 0 (jT l l.length) = .yes (plL 0 (pairL l)) := by
  rw [jT_jnL l l.length (Nat.le_refl _), List.take_length, ← pairL_fst]
  refine lexL_join (pairL l) 0 ?_
  intro x hx
  unfold pairL at hx
  obtain ⟨y, hy, rfl⟩ := List.mem_map.1 hx
  exact oneL_text (all_tk h y hy)
theorem plL_len : ∀ (l : List (List UInt8 × Tk)) (off : Nat), (plL off l).length = l.length := by
  intro l
  induction l with
  | nil => intro _; rfl
  | cons x l ih => intro off; obtain ⟨a, t⟩ := x; show (_ :: plL _ l).length = _; simp [ih]
/-- The tokens read: as the joined ones, at places within the text. -/
theorem plL_at : ∀ (l : List Tk) (off : Nat) (i : Nat) (x : Tk), l[i]? = some x → ∃ p : Nat, off ≤ p ∧ p ≤ off + (jnL (l.map txL)).length ∧ (plL off (pairL l))[i]? = some { x with place := (p : Int) } := by
  intro l
  induction l with
  | nil => intro off i x h; cases h
  | cons y l ih =>
    intro off i x h
    cases i with
    | zero =>
      injection h with h
      subst h
      exact ⟨off, Nat.le_refl _, by omega, rfl⟩
    | succ i =>
      have h' : l[i]? = some x := h
      obtain ⟨p, h1, h2, h3⟩ := ih (off + (txL y).length + 1) i x h'
      refine ⟨p, by omega, ?_, h3⟩
      cases l with
      | nil => cases h'
      | cons z l =>
        show p ≤ off + (txL y ++ 32 :: jnL ((z :: l).map txL)).length
        rw [List.length_append, List.length_cons]
        omega
theorem tkB_place {x : Tk} (h : tkB x = true) {p : Int} (h0 : 0 ≤ p) (h1 : p ≤ 20000) : tkB { x with place := p } = true := by
  unfold tkB at h ⊢
  dsimp only
  by_cases k1 : x.kind = 1
  · rw [if_pos k1] at h ⊢
    simp only [Bool.and_eq_true, decide_eq_true_eq] at h ⊢
    exact ⟨⟨h.1.1, h0⟩, h1⟩
  rw [if_neg k1] at h ⊢
  by_cases k2 : x.kind = 2
  · rw [if_pos k2] at h ⊢
    simp only [Bool.and_eq_true, decide_eq_true_eq] at h ⊢
    exact ⟨⟨h.1.1, h0⟩, h1⟩
  rw [if_neg k2] at h ⊢
  by_cases k3 : x.kind = 3
  · rw [if_pos k3] at h ⊢
    simp only [Bool.and_eq_true, decide_eq_true_eq] at h ⊢
    exact ⟨⟨h.1.1, h0⟩, h1⟩
  rw [if_neg k3] at h ⊢
  by_cases k4 : x.kind = 4
  · rw [if_pos k4] at h ⊢
    simp only [Bool.and_eq_true, decide_eq_true_eq] at h ⊢
    exact ⟨⟨h.1.1, h0⟩, h1⟩
  rw [if_neg k4] at h ⊢
  by_cases k5 : x.kind = 5
  · rw [if_pos k5] at h ⊢
    simp only [Bool.and_eq_true, decide_eq_true_eq] at h ⊢
    exact ⟨⟨h.1.1, h0⟩, h1⟩
  rw [if_neg k5] at h ⊢
  cases h

end Go.Proofs.YtnmiiimbjojcmaaDoor
