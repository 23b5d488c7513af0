/-
  Plain laws: the order of events is total. No program in sight.
-/
import Derived.Test.YtcfgpojogomkhaaA
import Derived.Shelf.SlSortCmp.NoneTotal
namespace Go.Proofs.Ytcfgpojogomkhaa
open Go.RowKit

theorem bl_irrefl (a : List UInt8) : Op.bytesLess a a = false := by
  induction a with
  | nil => rfl
  | cons x a ih => simp [Op.bytesLess, ih]
theorem bl_trans (a b c : List UInt8) (h1 : Op.bytesLess a b = true) (h2 : Op.bytesLess b c = true) : Op.bytesLess a c = true := by
  induction a generalizing b c with
  | nil =>
    cases c with
    | nil => cases b <;> simp [Op.bytesLess] at h2
    | cons z c => rfl
  | cons x a ih =>
    cases b with
    | nil => simp [Op.bytesLess] at h1
    | cons y b =>
      cases c with
      | nil => simp [Op.bytesLess] at h2
      | cons z c =>
        simp only [Op.bytesLess, Bool.or_eq_true, Bool.and_eq_true, decide_eq_true_eq, beq_iff_eq] at h1 h2 ⊢
        rcases h1 with h1 | ⟨h1, h1'⟩ <;> rcases h2 with h2 | ⟨h2, h2'⟩
        · exact .inl (UInt8.lt_trans h1 h2)
        · subst h2; exact .inl h1
        · subst h1; exact .inl h2
        · subst h1; subst h2; exact .inr ⟨rfl, ih b c h1' h2'⟩
theorem bl_total (a b : List UInt8) (h1 : Op.bytesLess a b = false) (h2 : Op.bytesLess b a = false) : a = b := by
  induction a generalizing b with
  | nil => cases b with
    | nil => rfl
    | cons y b => simp [Op.bytesLess] at h1
  | cons x a ih =>
    cases b with
    | nil => simp [Op.bytesLess] at h2
    | cons y b =>
      simp only [Op.bytesLess, Bool.or_eq_false_iff, Bool.and_eq_false_imp, decide_eq_false_iff_not, beq_iff_eq] at h1 h2
      have e : x = y := by
        have a1 := UInt8.not_lt.1 h1.1
        have a2 := UInt8.not_lt.1 h2.1
        exact UInt8.le_antisymm a2 a1
      subst e
      rw [ih b (h1.2 rfl) (h2.2 rfl)]
theorem bl_asymm (a b : List UInt8) (h : Op.bytesLess a b = true) : Op.bytesLess b a = false := by
  by_cases h2 : Op.bytesLess b a = true
  · have := bl_trans a b a h h2; rw [bl_irrefl] at this; cases this
  · simpa using h2

/-- A comparison that orders. -/
structure Tot {α : Type} (c : α → α → Int) : Prop where
  anti : ∀ x y, c y x = -(c x y)
  trans : ∀ x y z, c x y < 0 → c y z < 0 → c x z < 0
  cong : ∀ x y z, c x y = 0 → c x z = c y z

theorem tot_lex {α : Type} {c d : α → α → Int} (hc : Tot c) (hd : Tot d) : Tot (fun x y => if c x y = 0 then d x y else c x y) where
  anti x y := by
    have h := hc.anti x y
    have h2 := hd.anti x y
    show (if c y x = 0 then d y x else c y x) = -(if c x y = 0 then d x y else c x y)
    by_cases e : c x y = 0
    · rw [if_pos e, if_pos (by omega), h2]
    · rw [if_neg e, if_neg (by omega), h]
  trans x y z := by
    intro h1 h2
    have a1 := hc.anti x y
    have a2 := hc.anti y z
    show (if c x z = 0 then d x z else c x z) < 0
    change (if c x y = 0 then d x y else c x y) < 0 at h1
    change (if c y z = 0 then d y z else c y z) < 0 at h2
    by_cases e1 : c x y = 0
    · rw [if_pos e1] at h1
      have g1 := hc.cong x y z e1
      by_cases e2 : c y z = 0
      · rw [if_pos e2] at h2
        rw [if_pos (by omega)]
        exact hd.trans x y z h1 h2
      · rw [if_neg e2] at h2
        rw [if_neg (by omega)]; omega
    · rw [if_neg e1] at h1
      by_cases e2 : c y z = 0
      · have g2 := hc.cong z y x (by omega)
        have a3 := hc.anti x z
        rw [if_neg (by omega)]
        omega
      · rw [if_neg e2] at h2
        have := hc.trans x y z h1 h2
        rw [if_neg (by omega)]; omega
  cong x y z := by
    intro h
    show (if c x z = 0 then d x z else c x z) = (if c y z = 0 then d y z else c y z)
    change (if c x y = 0 then d x y else c x y) = 0 at h
    by_cases e : c x y = 0
    · rw [if_pos e] at h
      rw [hc.cong x y z e, hd.cong x y z h]
    · rw [if_neg e] at h; exact absurd h e
theorem tot_zero {α : Type} : Tot (fun _ _ : α => (0 : Int)) := ⟨fun _ _ => rfl, fun _ _ _ h => by omega, fun _ _ _ _ => rfl⟩
theorem tot_int {α : Type} (f : α → Int) : Tot (fun x y => cmpI (f x) (f y)) where
  anti x y := by unfold cmpI; split <;> split <;> first | omega | (split <;> omega)
  trans x y z := by unfold cmpI; intro h1 h2; split at h1 <;> split at h2 <;> first | (rw [if_pos (by omega)]; omega) | (split at h1 <;> omega) | (split at h2 <;> omega) | omega
  cong x y z := by
    intro h
    have : f x = f y := by unfold cmpI at h; split at h <;> first | omega | (split at h <;> omega)
    rw [this]
theorem cmpS_lt {a b : ByteArray} : cmpS a b < 0 ↔ Op.bytesLess a.toList b.toList = true := by
  unfold cmpS
  by_cases h : Op.bytesLess a.toList b.toList = true
  · simp [h]
  · rw [if_neg h]; split <;> simp [h]
theorem toList_inj {a b : ByteArray} (h : a.toList = b.toList) : a = b := by
  rw [ByteArray.toList_eq, ByteArray.toList_eq] at h
  exact Go.WideShapes.bytes_inj h
theorem cmpS_zero {a b : ByteArray} (h : cmpS a b = 0) : a = b := by
  unfold cmpS at h
  split at h
  · omega
  · split at h
    · rename_i h2; exact toList_inj (by simpa using h2)
    · omega
theorem tot_str {α : Type} (f : α → ByteArray) : Tot (fun x y => cmpS (f x) (f y)) where
  anti x y := by
    by_cases h : Op.bytesLess (f x).toList (f y).toList = true
    · have h2 := bl_asymm _ _ h
      have h3 : ((f y).toList == (f x).toList) = false := by
        rw [beq_eq_false_iff_ne]; intro e; rw [e, bl_irrefl] at h; cases h
      unfold cmpS
      rw [if_pos h, if_neg (by simp [h2]), if_neg (by simp [h3])]; rfl
    · by_cases h2 : Op.bytesLess (f y).toList (f x).toList = true
      · have h3 : ((f x).toList == (f y).toList) = false := by
          rw [beq_eq_false_iff_ne]; intro e; rw [e, bl_irrefl] at h2; cases h2
        unfold cmpS
        rw [if_pos h2, if_neg h, if_neg (by simp [h3])]
      · have e := bl_total _ _ (by simpa using h) (by simpa using h2)
        unfold cmpS
        rw [e]
        simp [bl_irrefl]
  trans x y z := by
    intro h1 h2
    rw [cmpS_lt] at h1 h2 ⊢
    exact bl_trans _ _ _ h1 h2
  cong x y z := by intro h; rw [cmpS_zero h]
theorem tot_num {α : Type} (f : α → Bool) : Tot (fun x y => numB (f x) - numB (f y)) where
  anti x y := by omega
  trans x y z := by intro h1 h2; omega
  cong x y z := by intro h; omega

theorem tot_ev : Tot cmpEv :=
  tot_lex (tot_int Ev.entry) (tot_lex (tot_int Ev.id) (tot_lex (tot_int Ev.kind) (tot_lex (tot_int Ev.target) (tot_lex (tot_int Ev.date) (tot_lex (tot_str Ev.party) (tot_lex (tot_str Ev.name) (tot_lex (tot_str Ev.value) (tot_lex (tot_num Ev.first) tot_zero))))))))
theorem cmpI_zero {x y : Int} (h : cmpI x y = 0) : x = y := by
  unfold cmpI at h; split at h <;> first | omega | (split at h <;> omega)
theorem lex_zero {a b : Int} (h : (if a = 0 then b else a) = 0) : a = 0 ∧ b = 0 := by
  by_cases e : a = 0
  · rw [if_pos e] at h; exact ⟨e, h⟩
  · rw [if_neg e] at h; exact absurd h e
theorem numB_inj {a b : Bool} (h : numB a - numB b = 0) : a = b := by cases a <;> cases b <;> simp_all [numB]
theorem cmpEv_zero {x y : Ev} (h : cmpEv x y = 0) : x = y := by
  have h0 : (if cmpI x.entry y.entry = 0 then (if cmpI x.id y.id = 0 then (if cmpI x.kind y.kind = 0 then (if cmpI x.target y.target = 0 then (if cmpI x.date y.date = 0 then (if cmpS x.party y.party = 0 then (if cmpS x.name y.name = 0 then (if cmpS x.value y.value = 0 then (if numB x.first - numB y.first = 0 then 0 else numB x.first - numB y.first) else cmpS x.value y.value) else cmpS x.name y.name) else cmpS x.party y.party) else cmpI x.date y.date) else cmpI x.target y.target) else cmpI x.kind y.kind) else cmpI x.id y.id) else cmpI x.entry y.entry) = (0 : Int) := h
  obtain ⟨e1, h1⟩ := lex_zero h0
  obtain ⟨e2, h2⟩ := lex_zero h1
  obtain ⟨e3, h3⟩ := lex_zero h2
  obtain ⟨e4, h4⟩ := lex_zero h3
  obtain ⟨e5, h5⟩ := lex_zero h4
  obtain ⟨e6, h6⟩ := lex_zero h5
  obtain ⟨e7, h7⟩ := lex_zero h6
  obtain ⟨e8, h8⟩ := lex_zero h7
  obtain ⟨e9, _⟩ := lex_zero h8
  cases x; cases y
  simp only [Ev.mk.injEq]
  exact ⟨cmpI_zero e3, cmpI_zero e2, cmpI_zero e1, cmpI_zero e4, cmpI_zero e5, cmpS_zero e6, cmpS_zero e7, cmpS_zero e8, numB_inj e9⟩

theorem swo_ev : Go.Sort.SWO (ltOf cmpEv) where
  irrefl x := by
    have := tot_ev.anti x x
    unfold ltOf; simp; omega
  trans x y z := by
    unfold ltOf; simp only [decide_eq_true_eq]; exact tot_ev.trans x y z
  ntrans x y z := by
    unfold ltOf
    simp only [decide_eq_false_iff_not]
    intro h1 h2
    have a1 := tot_ev.anti x y
    have a2 := tot_ev.anti y z
    have a3 := tot_ev.anti x z
    by_cases e1 : cmpEv x y = 0
    · rw [tot_ev.cong x y z e1]; exact h2
    · by_cases e2 : cmpEv y z = 0
      · have := tot_ev.cong z y x (by omega); omega
      · have := tot_ev.trans z y x (by omega) (by omega); omega
theorem total_ev (x y : Ev) (h1 : ltOf cmpEv x y = false) (h2 : ltOf cmpEv y x = false) : x = y := by
  unfold ltOf at h1 h2
  simp only [decide_eq_false_iff_not] at h1 h2
  have := tot_ev.anti x y
  exact cmpEv_zero (by omega)
/-- The events in their order. -/
def sortEv (l : List Ev) : List Ev := l.mergeSort fun x y => !(ltOf cmpEv) y x

end Go.Proofs.Ytcfgpojogomkhaa
