/-
  The texts of events, plain: what is read, what is written; each is the other's inverse. No condition. The words of a valid event hold no space; what a text reads as, plain. No condition. The program's event.Parse at any text. Condition: what the package-level variables hold; at most 100,000 bytes. novationlaw17.reads at the text of a valid event; fixing; Compare, Text and Parse as contracts. Condition: what the package-level variables hold.
-/
import Derived.Test.YtcfgpojogomkhaaGreatDoorWd
import Derived.Test.YtcfgpojogomkhaaGreatDoorWe
import Derived.Test.YtcfgpojogomkhaaGreatDoorVr
import Derived.Test.YtcfgpojogomkhaaGreatDoorVa
namespace Go.Proofs.YtcfgpojogomkhaaGreatDoor
open Go.RowKit

theorem kdF_lit1 : kdF fmK1 = 1 := by decide
theorem kdF_lit2 : kdF fmK2 = 2 := by decide
theorem kdF_lit3 : kdF fmK3 = 3 := by decide
theorem kdF_lit4 : kdF fmK4 = 4 := by decide
theorem kdF_lit5 : kdF fmK5 = 5 := by decide
theorem kdF_cases (l : List UInt8) : (kdF l = 0) ∨ (l = fmK1 ∧ kdF l = 1) ∨ (l = fmK2 ∧ kdF l = 2) ∨ (l = fmK3 ∧ kdF l = 3) ∨ (l = fmK4 ∧ kdF l = 4) ∨ (l = fmK5 ∧ kdF l = 5) := by
  by_cases h1 : l = fmK1
  · exact .inr (.inl ⟨h1, h1 ▸ kdF_lit1⟩)
  by_cases h2 : l = fmK2
  · exact .inr (.inr (.inl ⟨h2, h2 ▸ kdF_lit2⟩))
  by_cases h3 : l = fmK3
  · exact .inr (.inr (.inr (.inl ⟨h3, h3 ▸ kdF_lit3⟩)))
  by_cases h4 : l = fmK4
  · exact .inr (.inr (.inr (.inr (.inl ⟨h4, h4 ▸ kdF_lit4⟩))))
  by_cases h5 : l = fmK5
  · exact .inr (.inr (.inr (.inr (.inr ⟨h5, h5 ▸ kdF_lit5⟩))))
  · left; unfold kdF; simp [h1, h2, h3, h4, h5]

noncomputable def stepEv (e : Ev) (c : Nat) (x : ByteArray) : Ev :=
  if c = 110 then { e with name := x } else if c = 112 then { e with party := x } else if c = 100 then { e with date := dtB x } else if c = 118 then { e with value := x } else if c = 116 then { e with target := cntB x } else { e with first := decide (x = yesB) }
noncomputable def evAt (e0 : Ev) (l : List UInt8) (r : List ByteArray) : Nat → Ev
  | 0 => e0
  | j + 1 => stepEv (evAt e0 l r j) (l.getD j 0).toNat (r.getD (3 + j) ⟨#[]⟩)
noncomputable def ev0 (ws : List ByteArray) : Ev := ⟨kdF (ws.getD 0 ⟨#[]⟩).data.toList, cntB (ws.getD 1 ⟨#[]⟩), cntB (ws.getD 2 ⟨#[]⟩), 0, 0, ⟨#[]⟩, ⟨#[]⟩, ⟨#[]⟩, false⟩
noncomputable def evOf (ws : List ByteArray) : Ev := evAt (ev0 ws) (wdF (kdF (ws.getD 0 ⟨#[]⟩).data.toList)) ws (wdF (kdF (ws.getD 0 ⟨#[]⟩).data.toList)).length
/-- Words that are read as an event. -/
def ReadsW (ws : List ByteArray) : Prop :=
  kdF (ws.getD 0 ⟨#[]⟩).data.toList ≠ 0 ∧ ws.length = 3 + (wdF (kdF (ws.getD 0 ⟨#[]⟩).data.toList)).length ∧
    GoodW ⟨(wdF (kdF (ws.getD 0 ⟨#[]⟩).data.toList)).toArray⟩ ws (wdF (kdF (ws.getD 0 ⟨#[]⟩).data.toList)).length ∧ valB (evOf ws) = true

theorem wdF1 : wdF 1 = [110, 100, 118] := by decide
theorem wdF2 : wdF 2 = [112, 110, 100, 115] := by decide
theorem wdF3 : wdF 3 = [116, 118] := by decide
theorem wdF4 : wdF 4 = [116, 115] := by decide
theorem wdF5 : wdF 5 = [116] := by decide
theorem list4 {α} (l : List α) (h : l.length = 4) : ∃ a b c d, l = [a, b, c, d] := by
  match l, h with
  | [a, b, c, d], _ => exact ⟨a, b, c, d, rfl⟩
theorem list5 {α} (l : List α) (h : l.length = 5) : ∃ a b c d e, l = [a, b, c, d, e] := by
  match l, h with
  | [a, b, c, d, e], _ => exact ⟨a, b, c, d, e, rfl⟩
theorem list6 {α} (l : List α) (h : l.length = 6) : ∃ a b c d e f, l = [a, b, c, d, e, f] := by
  match l, h with
  | [a, b, c, d, e, f], _ => exact ⟨a, b, c, d, e, f, rfl⟩
theorem list7 {α} (l : List α) (h : l.length = 7) : ∃ a b c d e f g, l = [a, b, c, d, e, f, g] := by
  match l, h with
  | [a, b, c, d, e, f, g], _ => exact ⟨a, b, c, d, e, f, g, rfl⟩

theorem evOf_1 (x1 x2 x3 x4 x5 : ByteArray) : evOf [⟨#[102, 105, 120]⟩, x1, x2, x3, x4, x5] = ⟨1, cntB x1, cntB x2, 0, dtB x4, ⟨#[]⟩, x3, x5, false⟩ := by
  have hk : kdF (([⟨#[102, 105, 120]⟩, x1, x2, x3, x4, x5] : List ByteArray).getD 0 ⟨#[]⟩).data.toList = 1 := kdF_lit1
  unfold evOf ev0
  rw [hk, wdF1]
  show stepEv (stepEv (stepEv ⟨1, cntB x1, cntB x2, 0, 0, ⟨#[]⟩, ⟨#[]⟩, ⟨#[]⟩, false⟩ 110 x3) 100 x4) 118 x5 = _
  simp [stepEv]
theorem evOf_2 (x1 x2 x3 x4 x5 x6 : ByteArray) : evOf [⟨#[99, 104, 111, 105, 99, 101]⟩, x1, x2, x3, x4, x5, x6] = ⟨2, cntB x1, cntB x2, 0, dtB x5, x3, x4, ⟨#[]⟩, decide (x6 = yesB)⟩ := by
  have hk : kdF (([⟨#[99, 104, 111, 105, 99, 101]⟩, x1, x2, x3, x4, x5, x6] : List ByteArray).getD 0 ⟨#[]⟩).data.toList = 2 := kdF_lit2
  unfold evOf ev0
  rw [hk, wdF2]
  show stepEv (stepEv (stepEv (stepEv ⟨2, cntB x1, cntB x2, 0, 0, ⟨#[]⟩, ⟨#[]⟩, ⟨#[]⟩, false⟩ 112 x3) 110 x4) 100 x5) 115 x6 = _
  simp [stepEv]
theorem evOf_3 (x1 x2 x3 x4 : ByteArray) : evOf [⟨#[118, 97, 108, 117, 101]⟩, x1, x2, x3, x4] = ⟨3, cntB x1, cntB x2, cntB x3, 0, ⟨#[]⟩, ⟨#[]⟩, x4, false⟩ := by
  have hk : kdF (([⟨#[118, 97, 108, 117, 101]⟩, x1, x2, x3, x4] : List ByteArray).getD 0 ⟨#[]⟩).data.toList = 3 := kdF_lit3
  unfold evOf ev0
  rw [hk, wdF3]
  show stepEv (stepEv ⟨3, cntB x1, cntB x2, 0, 0, ⟨#[]⟩, ⟨#[]⟩, ⟨#[]⟩, false⟩ 116 x3) 118 x4 = _
  simp [stepEv]
theorem evOf_4 (x1 x2 x3 x4 : ByteArray) : evOf [⟨#[115, 105, 100, 101]⟩, x1, x2, x3, x4] = ⟨4, cntB x1, cntB x2, cntB x3, 0, ⟨#[]⟩, ⟨#[]⟩, ⟨#[]⟩, decide (x4 = yesB)⟩ := by
  have hk : kdF (([⟨#[115, 105, 100, 101]⟩, x1, x2, x3, x4] : List ByteArray).getD 0 ⟨#[]⟩).data.toList = 4 := kdF_lit4
  unfold evOf ev0
  rw [hk, wdF4]
  show stepEv (stepEv ⟨4, cntB x1, cntB x2, 0, 0, ⟨#[]⟩, ⟨#[]⟩, ⟨#[]⟩, false⟩ 116 x3) 115 x4 = _
  simp [stepEv]
theorem evOf_5 (x1 x2 x3 : ByteArray) : evOf [⟨#[99, 97, 110, 99, 101, 108]⟩, x1, x2, x3] = ⟨5, cntB x1, cntB x2, cntB x3, 0, ⟨#[]⟩, ⟨#[]⟩, ⟨#[]⟩, false⟩ := by
  have hk : kdF (([⟨#[99, 97, 110, 99, 101, 108]⟩, x1, x2, x3] : List ByteArray).getD 0 ⟨#[]⟩).data.toList = 5 := kdF_lit5
  unfold evOf ev0
  rw [hk, wdF5]
  show stepEv ⟨5, cntB x1, cntB x2, 0, 0, ⟨#[]⟩, ⟨#[]⟩, ⟨#[]⟩, false⟩ 116 x3 = _
  simp [stepEv]

theorem sideS_of {x : ByteArray} (h : x = yesB ∨ x = noB) : sideS (decide (x = yesB)) = x := by
  rcases h with rfl | rfl
  · rw [decide_eq_true rfl]; rfl
  · rw [decide_eq_false (by decide)]; rfl
theorem sideS_yes (b : Bool) : decide (sideS b = yesB) = b := by cases b <;> decide
theorem sideS_or (b : Bool) : sideS b = yesB ∨ sideS b = noB := by cases b <;> decide

/-- What is read is the text of its event. -/
theorem text_of_reads {ws : List ByteArray} (h : ReadsW ws) : textW (evOf ws) = ws := by
  obtain ⟨h0, hl, hg, hv⟩ := h
  have hx : ∀ x0 t, ws = x0 :: t → (ws.getD 0 ⟨#[]⟩) = x0 := fun x0 t e => by rw [e]; rfl
  rcases kdF_cases (ws.getD 0 ⟨#[]⟩).data.toList with k | ⟨e, k⟩ | ⟨e, k⟩ | ⟨e, k⟩ | ⟨e, k⟩ | ⟨e, k⟩
  · exact absurd k h0
  · rw [k, wdF1] at hl
    obtain ⟨x0, x1, x2, x3, x4, x5, rfl⟩ := list6 ws hl
    obtain rfl : x0 = ⟨#[102, 105, 120]⟩ := Go.WideShapes.bytes_inj e
    rw [evOf_1] at hv ⊢
    have V := valE hv
    rw [show textW ⟨1, cntB x1, cntB x2, 0, dtB x4, ⟨#[]⟩, x3, x5, false⟩ = [⟨#[102, 105, 120]⟩, itS (cntB x1), itS (cntB x2), x3, dayS (dtB x4), x5] by simp [textW]]
    rw [cntB_pos (s := x1) (by have := V.id1; exact Int.le_trans (by decide) this), cntB_pos (s := x2) V.en1, (dayS_dtB (s := x4) V.da1).1]
  · rw [k, wdF2] at hl hg
    obtain ⟨x0, x1, x2, x3, x4, x5, x6, rfl⟩ := list7 ws hl
    obtain rfl : x0 = ⟨#[99, 104, 111, 105, 99, 101]⟩ := Go.WideShapes.bytes_inj e
    rw [evOf_2] at hv ⊢
    have V := valE hv
    have hs := hg 3 x6 115 (by decide) rfl rfl rfl
    rw [show textW ⟨2, cntB x1, cntB x2, 0, dtB x5, x3, x4, ⟨#[]⟩, decide (x6 = yesB)⟩ = [⟨#[99, 104, 111, 105, 99, 101]⟩, itS (cntB x1), itS (cntB x2), x3, x4, dayS (dtB x5), sideS (decide (x6 = yesB))] by simp [textW]]
    rw [cntB_pos (s := x1) (by have := V.id1; exact Int.le_trans (by decide) this), cntB_pos (s := x2) V.en1, (dayS_dtB (s := x5) V.da1).1, sideS_of hs]
  · rw [k, wdF3] at hl
    obtain ⟨x0, x1, x2, x3, x4, rfl⟩ := list5 ws hl
    obtain rfl : x0 = ⟨#[118, 97, 108, 117, 101]⟩ := Go.WideShapes.bytes_inj e
    rw [evOf_3] at hv ⊢
    have V := valE hv
    rw [show textW ⟨3, cntB x1, cntB x2, cntB x3, 0, ⟨#[]⟩, ⟨#[]⟩, x4, false⟩ = [⟨#[118, 97, 108, 117, 101]⟩, itS (cntB x1), itS (cntB x2), itS (cntB x3), x4] by simp [textW]]
    rw [cntB_pos (s := x1) (by have := V.id1; exact Int.le_trans (by decide) this), cntB_pos (s := x2) V.en1, cntB_pos (s := x3) V.ta1]
  · rw [k, wdF4] at hl hg
    obtain ⟨x0, x1, x2, x3, x4, rfl⟩ := list5 ws hl
    obtain rfl : x0 = ⟨#[115, 105, 100, 101]⟩ := Go.WideShapes.bytes_inj e
    rw [evOf_4] at hv ⊢
    have V := valE hv
    have hs := hg 1 x4 115 (by decide) rfl rfl rfl
    rw [show textW ⟨4, cntB x1, cntB x2, cntB x3, 0, ⟨#[]⟩, ⟨#[]⟩, ⟨#[]⟩, decide (x4 = yesB)⟩ = [⟨#[115, 105, 100, 101]⟩, itS (cntB x1), itS (cntB x2), itS (cntB x3), sideS (decide (x4 = yesB))] by simp [textW]]
    rw [cntB_pos (s := x1) (by have := V.id1; exact Int.le_trans (by decide) this), cntB_pos (s := x2) V.en1, cntB_pos (s := x3) V.ta1, sideS_of hs]
  · rw [k, wdF5] at hl
    obtain ⟨x0, x1, x2, x3, rfl⟩ := list4 ws hl
    obtain rfl : x0 = ⟨#[99, 97, 110, 99, 101, 108]⟩ := Go.WideShapes.bytes_inj e
    rw [evOf_5] at hv ⊢
    have V := valE hv
    rw [show textW ⟨5, cntB x1, cntB x2, cntB x3, 0, ⟨#[]⟩, ⟨#[]⟩, ⟨#[]⟩, false⟩ = [⟨#[99, 97, 110, 99, 101, 108]⟩, itS (cntB x1), itS (cntB x2), itS (cntB x3)] by simp [textW]]
    rw [cntB_pos (s := x1) (by have := V.id1; exact Int.le_trans (by decide) this), cntB_pos (s := x2) V.en1, cntB_pos (s := x3) V.ta1]

theorem empty_of {s : ByteArray} (h : s.toList.isEmpty = true) : s = ⟨#[]⟩ := by
  rw [Lib.toList_data] at h
  exact Go.WideShapes.bytes_inj (by simpa using h)
theorem good_1 (ws : List ByteArray) (l : List UInt8) (j : Nat) (h : ∀ c ∈ l, c.toNat ≠ 115) : GoodW ⟨l.toArray⟩ ws j := fun i x c _ _ hc h115 => by
  have : c ∈ l := List.mem_of_getElem? (by simpa using hc)
  exact absurd h115 (h c this)
theorem good_2 (ws : List ByteArray) (l : List UInt8) (p : Nat) (x : ByteArray) (hl : l.length = p) (h : ∀ c ∈ l, c.toNat ≠ 115) (hx : ws[3 + p]? = some x) (hs : x = yesB ∨ x = noB) : GoodW ⟨(l ++ [115]).toArray⟩ ws (p + 1) := fun i y c hi hy hc h115 => by
  by_cases e : i = p
  · subst e
    rw [hx] at hy
    exact Option.some.inj hy ▸ hs
  · have hc' : l[i]? = some c := by
      have : (l ++ [115])[i]? = some c := by simpa using hc
      rwa [List.getElem?_append_left (by omega)] at this
    exact absurd h115 (h c (List.mem_of_getElem? hc'))

/-- The text of a valid event is read, and gives the event back. -/
theorem reads_text {x : Ev} (hv : valB x = true) : ReadsW (textW x) ∧ evOf (textW x) = x := by
  have V := valE hv
  have c1 := cntB_itS (n := x.id) (Int.le_trans (by decide) V.id1) (Int.le_trans V.id2 (by decide))
  have c2 := cntB_itS (n := x.entry) V.en1 (Int.le_trans V.en2 (by decide))
  have c3 := cntB_itS (n := x.target) V.ta1 (Int.le_trans V.ta2 (by decide))
  have c4 := dtB_dayS V.da1 V.da2
  obtain ⟨K, i, e, t, d, p, n, v, f⟩ := x
  dsimp only at V c1 c2 c3 c4
  rcases valB_kind hv with k | k | k | k | k <;> dsimp only at k <;> subst k
  · have h := hv
    rw [valB_1 rfl] at h
    simp only [Bool.and_eq_true, beq_iff_eq, Bool.not_eq_true'] at h
    obtain ⟨_, _, ⟨⟨_, ht⟩, hp⟩, hf⟩ := h
    obtain rfl : p = ⟨#[]⟩ := empty_of hp
    subst ht hf
    have ht : textW ⟨1, i, e, 0, d, ⟨#[]⟩, n, v, false⟩ = [⟨#[102, 105, 120]⟩, itS i, itS e, n, dayS d, v] := by simp [textW]
    have he : evOf (textW ⟨1, i, e, 0, d, ⟨#[]⟩, n, v, false⟩) = ⟨1, i, e, 0, d, ⟨#[]⟩, n, v, false⟩ := by rw [ht, evOf_1, c1, c2, c4]
    refine ⟨⟨?_, ?_, ?_, by rw [he]; exact hv⟩, he⟩
    all_goals rw [ht, show kdF (([⟨#[102, 105, 120]⟩, itS i, itS e, n, dayS d, v] : List ByteArray).getD 0 ⟨#[]⟩).data.toList = 1 from kdF_lit1]
    · decide
    · rw [wdF1]; rfl
    · rw [wdF1]; exact good_1 _ _ _ (by decide)
  · have h := hv
    rw [valB_2 rfl] at h
    simp only [Bool.and_eq_true, beq_iff_eq] at h
    obtain ⟨_, _, ⟨_, ht⟩, hp⟩ := h
    obtain rfl : v = ⟨#[]⟩ := empty_of hp
    subst ht
    have ht : textW ⟨2, i, e, 0, d, p, n, ⟨#[]⟩, f⟩ = [⟨#[99, 104, 111, 105, 99, 101]⟩, itS i, itS e, p, n, dayS d, sideS f] := by simp [textW]
    have he : evOf (textW ⟨2, i, e, 0, d, p, n, ⟨#[]⟩, f⟩) = ⟨2, i, e, 0, d, p, n, ⟨#[]⟩, f⟩ := by rw [ht, evOf_2, c1, c2, c4, sideS_yes]
    refine ⟨⟨?_, ?_, ?_, by rw [he]; exact hv⟩, he⟩
    all_goals rw [ht, show kdF (([⟨#[99, 104, 111, 105, 99, 101]⟩, itS i, itS e, p, n, dayS d, sideS f] : List ByteArray).getD 0 ⟨#[]⟩).data.toList = 2 from kdF_lit2]
    · decide
    · rw [wdF2]; rfl
    · rw [wdF2]; exact good_2 _ [112, 110, 100] 3 (sideS f) rfl (by decide) rfl (sideS_or f)
  · have h := hv
    rw [valB_3 rfl] at h
    simp only [Bool.and_eq_true, beq_iff_eq, Bool.not_eq_true'] at h
    obtain ⟨_, _, ⟨⟨⟨_, hd⟩, hp⟩, hn⟩, hf⟩ := h
    obtain rfl : p = ⟨#[]⟩ := empty_of hp
    obtain rfl : n = ⟨#[]⟩ := empty_of hn
    subst hd hf
    have ht : textW ⟨3, i, e, t, 0, ⟨#[]⟩, ⟨#[]⟩, v, false⟩ = [⟨#[118, 97, 108, 117, 101]⟩, itS i, itS e, itS t, v] := by simp [textW]
    have he : evOf (textW ⟨3, i, e, t, 0, ⟨#[]⟩, ⟨#[]⟩, v, false⟩) = ⟨3, i, e, t, 0, ⟨#[]⟩, ⟨#[]⟩, v, false⟩ := by rw [ht, evOf_3, c1, c2, c3]
    refine ⟨⟨?_, ?_, ?_, by rw [he]; exact hv⟩, he⟩
    all_goals rw [ht, show kdF (([⟨#[118, 97, 108, 117, 101]⟩, itS i, itS e, itS t, v] : List ByteArray).getD 0 ⟨#[]⟩).data.toList = 3 from kdF_lit3]
    · decide
    · rw [wdF3]; rfl
    · rw [wdF3]; exact good_1 _ _ _ (by decide)
  · have h := hv
    rw [valB_4 rfl] at h
    simp only [Bool.and_eq_true, beq_iff_eq] at h
    obtain ⟨_, _, ⟨⟨⟨_, hd⟩, hp⟩, hn⟩, hx⟩ := h
    obtain rfl : p = ⟨#[]⟩ := empty_of hp
    obtain rfl : n = ⟨#[]⟩ := empty_of hn
    obtain rfl : v = ⟨#[]⟩ := empty_of hx
    subst hd
    have ht : textW ⟨4, i, e, t, 0, ⟨#[]⟩, ⟨#[]⟩, ⟨#[]⟩, f⟩ = [⟨#[115, 105, 100, 101]⟩, itS i, itS e, itS t, sideS f] := by simp [textW]
    have he : evOf (textW ⟨4, i, e, t, 0, ⟨#[]⟩, ⟨#[]⟩, ⟨#[]⟩, f⟩) = ⟨4, i, e, t, 0, ⟨#[]⟩, ⟨#[]⟩, ⟨#[]⟩, f⟩ := by rw [ht, evOf_4, c1, c2, c3, sideS_yes]
    refine ⟨⟨?_, ?_, ?_, by rw [he]; exact hv⟩, he⟩
    all_goals rw [ht, show kdF (([⟨#[115, 105, 100, 101]⟩, itS i, itS e, itS t, sideS f] : List ByteArray).getD 0 ⟨#[]⟩).data.toList = 4 from kdF_lit4]
    · decide
    · rw [wdF4]; rfl
    · rw [wdF4]; exact good_2 _ [116] 1 (sideS f) rfl (by decide) rfl (sideS_or f)
  · have h := hv
    rw [valB_5 rfl] at h
    simp only [Bool.and_eq_true, beq_iff_eq, Bool.not_eq_true'] at h
    obtain ⟨_, _, ⟨⟨⟨⟨_, hd⟩, hp⟩, hn⟩, hx⟩, hf⟩ := h
    obtain rfl : p = ⟨#[]⟩ := empty_of hp
    obtain rfl : n = ⟨#[]⟩ := empty_of hn
    obtain rfl : v = ⟨#[]⟩ := empty_of hx
    subst hd hf
    have ht : textW ⟨5, i, e, t, 0, ⟨#[]⟩, ⟨#[]⟩, ⟨#[]⟩, false⟩ = [⟨#[99, 97, 110, 99, 101, 108]⟩, itS i, itS e, itS t] := by simp [textW]
    have he : evOf (textW ⟨5, i, e, t, 0, ⟨#[]⟩, ⟨#[]⟩, ⟨#[]⟩, false⟩) = ⟨5, i, e, t, 0, ⟨#[]⟩, ⟨#[]⟩, ⟨#[]⟩, false⟩ := by rw [ht, evOf_5, c1, c2, c3]
    refine ⟨⟨?_, ?_, ?_, by rw [he]; exact hv⟩, he⟩
    all_goals rw [ht, show kdF (([⟨#[99, 97, 110, 99, 101, 108]⟩, itS i, itS e, itS t] : List ByteArray).getD 0 ⟨#[]⟩).data.toList = 5 from kdF_lit5]
    · decide
    · rw [wdF5]; rfl
    · rw [wdF5]; exact good_1 _ _ _ (by decide)

end Go.Proofs.YtcfgpojogomkhaaGreatDoor

namespace Go.Proofs.YtcfgpojogomkhaaGreatDoor
open Go.RowKit

theorem chkN_sp {l : List UInt8} (h : (32 : UInt8) ∈ l) : chkN l = 12 := chkN_byte h (by decide)
theorem chkZ_sp {l : List UInt8} (h : (32 : UInt8) ∈ l) : chkZ l = 12 := by
  unfold chkZ
  split
  · rename_i h45
    split
    · rfl
    · cases l with
      | nil => cases h
      | cons a r =>
        simp only [List.head?_cons, Option.some.injEq] at h45
        subst h45
        rcases List.mem_cons.1 h with e | e
        · exact absurd e (by decide)
        · exact chkN_sp e
  · exact chkN_sp h
theorem chkR_sp {l : List UInt8} (h : (32 : UInt8) ∈ l) : chkR l = 12 := by
  unfold chkR
  split
  · rename_i hk
    obtain ⟨h47, _⟩ := slN_spec hk
    have hl : l = l.take (slN l) ++ 47 :: l.drop (slN l + 1) := by
      obtain ⟨hlt, he⟩ := List.getElem?_eq_some_iff.1 h47
      rw [← he, ← List.drop_eq_getElem_cons hlt, List.take_append_drop]
    rw [hl] at h
    rcases List.mem_append.1 h with e | e
    · exact chkF_12 (.inl (chkZ_sp e))
    · rcases List.mem_cons.1 e with e | e
      · exact absurd e (by decide)
      · exact chkF_12 (.inr (.inl (chkZ_sp e)))
  · exact chkZ_sp h
theorem vlB_sp {s : ByteArray} (h : vlB s = true) : (32 : UInt8) ∉ s.data.toList := fun hm => by
  unfold vlB at h
  rw [chkR_sp hm] at h
  exact absurd h (by decide)
theorem nmB_sp {l : List UInt8} (h : nmB l = true) : (32 : UInt8) ∉ l := fun hm => by
  rw [nmB_bad hm (by decide) (by decide)] at h
  cases h
theorem sideS_sp (b : Bool) : (32 : UInt8) ∉ (sideS b).data.toList := by cases b <;> decide

theorem textW_sp {x : Ev} (hv : valB x = true) : ∀ y ∈ textW x, (32 : UInt8) ∉ y.data.toList := by
  have V := valE hv
  have i1 := itS_sp (n := x.id) (Int.le_trans (by decide) V.id1)
  have i2 := itS_sp V.en1
  have i3 := itS_sp V.ta1
  have i4 := dayS_sp V.da1 V.da2
  have i5 := sideS_sp x.first
  intro y hy
  unfold textW at hy
  rcases valB_kind hv with k | k | k | k | k
  · rw [valB_1 k] at hv
    simp only [Bool.and_eq_true] at hv
    have j1 := nmB_sp hv.2.2.1.1.1.1.1
    have j2 := vlB_sp hv.2.2.1.1.1.2
    rw [if_pos k] at hy
    simp only [List.mem_cons, List.not_mem_nil, or_false] at hy
    rcases hy with rfl | rfl | rfl | rfl | rfl | rfl
    · decide
    · exact i1
    · exact i2
    · exact j1
    · exact i4
    · exact j2
  · rw [valB_2 k] at hv
    simp only [Bool.and_eq_true] at hv
    have j1 := nmB_sp hv.2.2.1.1.1.1
    have j2 := nmB_sp hv.2.2.1.1.1.2
    rw [if_neg (by omega), if_pos k] at hy
    simp only [List.mem_cons, List.not_mem_nil, or_false] at hy
    rcases hy with rfl | rfl | rfl | rfl | rfl | rfl | rfl
    · decide
    · exact i1
    · exact i2
    · exact j1
    · exact j2
    · exact i4
    · exact i5
  · rw [valB_3 k] at hv
    simp only [Bool.and_eq_true] at hv
    have j2 := vlB_sp hv.2.2.1.1.1.1.2
    rw [if_neg (by omega), if_neg (by omega), if_pos k] at hy
    simp only [List.mem_cons, List.not_mem_nil, or_false] at hy
    rcases hy with rfl | rfl | rfl | rfl | rfl
    · decide
    · exact i1
    · exact i2
    · exact i3
    · exact j2
  · rw [if_neg (by omega), if_neg (by omega), if_neg (by omega), if_pos k] at hy
    simp only [List.mem_cons, List.not_mem_nil, or_false] at hy
    rcases hy with rfl | rfl | rfl | rfl | rfl
    · decide
    · exact i1
    · exact i2
    · exact i3
    · exact i5
  · rw [if_neg (by omega), if_neg (by omega), if_neg (by omega), if_neg (by omega)] at hy
    simp only [List.mem_cons, List.not_mem_nil, or_false] at hy
    rcases hy with rfl | rfl | rfl | rfl
    · decide
    · exact i1
    · exact i2
    · exact i3
theorem textW_ne (x : Ev) : textW x ≠ [] := by
  unfold textW
  repeat' split
  all_goals simp
theorem words_text {x : Ev} (hv : valB x = true) : wordsOf (joinS (textW x)) = textW x := words_join _ (textW_ne x) (textW_sp hv)

/-- A text is read just where it is that of a valid event; and as that event. -/
theorem reads_join {x : Ev} (hv : valB x = true) : ReadsW (wordsOf (joinS (textW x))) ∧ evOf (wordsOf (joinS (textW x))) = x := by
  rw [words_text hv]
  exact reads_text hv
theorem join_reads {s : ByteArray} (h : ReadsW (wordsOf s)) : valB (evOf (wordsOf s)) = true ∧ joinS (textW (evOf (wordsOf s))) = s := by
  refine ⟨h.2.2.2, ?_⟩
  rw [text_of_reads h, join_words]
theorem text_inj {x y : Ev} (hx : valB x = true) (hy : valB y = true) (h : joinS (textW x) = joinS (textW y)) : x = y := by
  rw [← (reads_join hx).2, ← (reads_join hy).2, h]

end Go.Proofs.YtcfgpojogomkhaaGreatDoor

namespace Go.Proofs.YtcfgpojogomkhaaGreatDoor
open Go.RowKit

/-- What Parse hands back at words. -/
def ParP (w : World) (ws : List ByteArray) (e : Ending) (w' : World) : Prop :=
  Below w.heap.size w w' ∧ ((ReadsW ws ∧ e = .returned (.tuple #[evV (evOf ws), .int .i64 0])) ∨ (¬ReadsW ws ∧ e = .returned (.tuple #[zEv, .int .i64 12])))

theorem spc_any {w : World} (h : Env w) (s : ByteArray) (hs : s.size ≤ 100000) : SpC w s (wordsOf s) (wordsOf s).length := fun W hW => by
  obtain ⟨m, hm⟩ := (h.below hW).len
  have hl : (wordsOf s).length = Lib.countB s ⟨#[32]⟩ + 1 := Lib.splitB_all ⟨#[32]⟩ (by decide) 0 _ s rfl
  rw [hl]
  exact Tryz.strings_Split s ⟨#[32]⟩ m W (by omega) hm (by decide)
theorem dpc_any (w : World) (x : ByteArray) : DpC w x (dtB x) := fun W _ => by
  rcases dparse_any x with ⟨day, hd, hc⟩ | ⟨hn, hc⟩
  · rw [dtB_is hd]
    exact (hc W).mono fun e w' ⟨h1, h2⟩ => ⟨.inl h1, h2⟩
  · rw [dtB_none hn]
    exact (hc W).mono fun e w' ⟨q, hq, h1, h2⟩ => ⟨.inr ⟨rfl, q, hq, h1⟩, h2⟩
theorem wdF_small (k : Int) : (wdF k).length ≤ 4 := by
  unfold wdF
  split
  · decide
  · split
    · decide
    · split
      · decide
      · split
        · decide
        · split <;> decide
theorem wdF_pos {l : List UInt8} (h : kdF l ≠ 0) : 1 ≤ (wdF (kdF l)).length := by
  rcases kdF_cases l with k | ⟨_, k⟩ | ⟨_, k⟩ | ⟨_, k⟩ | ⟨_, k⟩ | ⟨_, k⟩
  · exact absurd k h
  all_goals rw [k]; decide
theorem wdF_let (k : Int) : ∀ c ∈ wdF k, c.toNat = 110 ∨ c.toNat = 112 ∨ c.toNat = 100 ∨ c.toNat = 118 ∨ c.toNat = 116 ∨ c.toNat = 115 := by
  unfold wdF
  split
  · decide
  · split
    · decide
    · split
      · decide
      · split
        · decide
        · split <;> decide

theorem evAt_size (e0 : Ev) (l : List UInt8) (r : List ByteArray) (B : Nat) (h0 : e0.value.size ≤ B) (hr : ∀ x ∈ r, x.size ≤ B) (j : Nat) : (evAt e0 l r j).value.size ≤ B := by
  induction j with
  | zero => exact h0
  | succ j ih =>
    have hx : (r.getD (3 + j) ⟨#[]⟩).size ≤ B := by
      rw [List.getD_eq_getElem?_getD]
      cases e : r[3 + j]? with
      | none => exact Nat.zero_le _
      | some y => exact hr y (List.mem_of_getElem? e)
    show (stepEv (evAt e0 l r j) (l.getD j 0).toNat (r.getD (3 + j) ⟨#[]⟩)).value.size ≤ B
    unfold stepEv
    repeat' split
    all_goals first | exact ih | exact hx

theorem parse_any {w : World} (h : Env w) (s : ByteArray) (hs : s.size ≤ 100000) : Calls Tryz.prog 12 #[.string s] w (ParP w (wordsOf s)) := by
  obtain ⟨x0, t, hws⟩ := words_cons s
  have hsz := words_le s
  have HS := Lib.hid (spc_any h s hs)
  generalize wordsOf s = ws at hws hsz HS
  have h0 : ws[0]? = some x0 := by rw [hws]; rfl
  have hg0 : ws.getD 0 ⟨#[]⟩ = x0 := by rw [hws]; rfl
  have hx0 : x0.size ≤ maxLen := by
    have := hsz x0 (by rw [hws]; exact List.mem_cons_self)
    unfold maxLen; omega
  have hp1 : 1 ≤ ws.length := by rw [hws]; simp
  obtain ⟨k, hk⟩ : ∃ k, kdF x0.data.toList = k := ⟨_, rfl⟩
  by_cases hgo : k ≠ 0 ∧ ws.length = 3 + (wdF k).length
  · obtain ⟨hk0, hlen⟩ := hgo
    have hp : 1 ≤ (wdF k).length := by rw [← hk] at hk0 ⊢; exact wdF_pos hk0
    have hsm := wdF_small k
    obtain ⟨sw, hsw⟩ : ∃ sw : ByteArray, sw = ⟨(wdF k).toArray⟩ := ⟨_, rfl⟩
    have hsd : sw.data.toList = wdF k := by rw [hsw]
    have hss : sw.size = (wdF k).length := by rw [← hsd, data_len]
    have g1 : ∃ x1, ws[1]? = some x1 := ⟨_, List.getElem?_eq_getElem (by omega)⟩
    have g2 : ∃ x2, ws[2]? = some x2 := ⟨_, List.getElem?_eq_getElem (by omega)⟩
    obtain ⟨x1, h1⟩ := g1
    obtain ⟨x2, h2⟩ := g2
    have e1 : ws.getD 1 ⟨#[]⟩ = x1 := by rw [List.getD_eq_getElem?_getD, h1]; rfl
    have e2 : ws.getD 2 ⟨#[]⟩ = x2 := by rw [List.getD_eq_getElem?_getD, h2]; rfl
    have hle : ∀ x ∈ ws, x.size ≤ 100000 := fun x hx => Nat.le_trans (hsz x hx) hs
    have E0 : ev0 ws = ⟨k, cntB x1, cntB x2, 0, 0, ⟨#[]⟩, ⟨#[]⟩, ⟨#[]⟩, false⟩ := by unfold ev0; rw [hg0, hk, e1, e2]
    have hO : evOf ws = evAt (ev0 ws) (wdF k) ws sw.size := by unfold evOf; rw [hg0, hk, hss]
    have HR : Hid (∀ j (hj : j < sw.size), ∃ x, ws[3 + j]? = some x ∧ RoundOk w sw[j].toNat x (evAt (ev0 ws) (wdF k) ws j) (evAt (ev0 ws) (wdF k) ws (j + 1))) := fun j hj => by
      have gx : ws[3 + j]? = some (ws[3 + j]'(by omega)) := List.getElem?_eq_getElem (by omega)
      obtain ⟨x, hx⟩ : ∃ x, x = ws[3 + j]'(by omega) := ⟨_, rfl⟩
      rw [← hx] at gx
      refine ⟨x, gx, ?_⟩
      have hxm : x ∈ ws := List.mem_of_getElem? gx
      have hc : (wdF k)[j]? = some sw[j] := by rw [← hsd]; exact Lib.data_getElem? sw j hj
      have hst : evAt (ev0 ws) (wdF k) ws (j + 1) = stepEv (evAt (ev0 ws) (wdF k) ws j) sw[j].toNat x := by
        show stepEv _ ((wdF k).getD j 0).toNat (ws.getD (3 + j) ⟨#[]⟩) = _
        rw [List.getD_eq_getElem?_getD, hc, List.getD_eq_getElem?_getD, gx]; rfl
      rw [hst]
      rcases wdF_let k sw[j] (List.mem_of_getElem? hc) with c | c | c | c | c | c <;> rw [c]
      · exact .name rfl (by simp [stepEv])
      · exact .party rfl (by simp [stepEv])
      · exact .date rfl (dtB x) (Lib.hid (dpc_any w x)) (by simp [stepEv])
      · exact .value rfl (by simp [stepEv])
      · exact .target rfl (cntB x) (Lib.hid (count_ct h x (hle x hxm))) (by simp [stepEv])
      · by_cases y : x = yesB
        · exact .yes rfl y (by simp [stepEv, y])
        · by_cases n : x = noB
          · exact .no rfl n (by simp [stepEv, y])
          · exact .bad rfl y n
    have hv : (evAt (ev0 ws) (wdF k) ws sw.size).value.size ≤ 100000 := evAt_size _ _ _ _ (by rw [E0]; exact Nat.zero_le _) hle _
    have HCK := Lib.hid (check_ct (evAt (ev0 ws) (wdF k) ws sw.size) w hv)
    have hgw : GoodW sw ws sw.size ↔ GoodW ⟨(wdF k).toArray⟩ ws (wdF k).length := by rw [hsw, ← hss, hsw]
    have hR : ReadsW ws ↔ (GoodW sw ws sw.size ∧ valB (evAt (ev0 ws) (wdF k) ws sw.size) = true) := by
      unfold ReadsW
      rw [hg0, hk, hO, hgw]
      exact ⟨fun h => h.2.2, fun h => ⟨hk0, hlen, h⟩⟩
    refine (parse_go s ws ws.length sw.size w k (cntB x1) (cntB x2) _ sw x0 x1 x2 rfl (by omega) rfl (by omega) (by omega) h0 h1 h2 hx0 HS hk hk0 hsd.symm (Lib.hid (count_ct h x1 (hle x1 (List.mem_of_getElem? h1)))) (Lib.hid (count_ct h x2 (hle x2 (List.mem_of_getElem? h2)))) (evAt (ev0 ws) (wdF k) ws) E0 HR HCK).mono ?_
    rintro e w' ⟨hb, hp⟩
    refine ⟨hb, ?_⟩
    rw [hR, hO]
    rcases hp with ⟨n, he⟩ | ⟨g, f0, he⟩ | ⟨g, f0, he⟩
    · exact .inr ⟨fun h => n h.1, he⟩
    · refine .inl ⟨⟨g, ?_⟩, he⟩
      by_cases hv : valB (evAt (ev0 ws) (wdF k) ws sw.size) = true
      · exact hv
      · rw [if_neg hv] at f0; exact absurd f0 (by decide)
    · refine .inr ⟨fun h => ?_, he⟩
      rw [if_pos h.2] at f0
      exact f0 rfl
  · have hbad : decide (k ≠ 0) = false ∨ ws.length ≠ 3 + (wdF k).length := by
      by_cases hk0 : k ≠ 0
      · exact .inr fun hl => hgo ⟨hk0, hl⟩
      · exact .inl (by simpa using hk0)
    refine (parse_no s ws ws.length x0 w rfl hp1 h0 hx0 HS k (wdF k) (decide (k ≠ 0)) hk rfl rfl (by have := wdF_small k; omega) hbad).mono ?_
    rintro e w' ⟨he, hb⟩
    refine ⟨hb, .inr ⟨fun h => ?_, he⟩⟩
    obtain ⟨a, b, _⟩ := h
    rw [hg0, hk] at a b
    exact hgo ⟨a, b⟩

end Go.Proofs.YtcfgpojogomkhaaGreatDoor

namespace Go.Proofs.YtcfgpojogomkhaaGreatDoor
open Go.RowKit

theorem cmp_ct (x y : Ev) (w : World) : Ct w 15 #[evV x, evV y] (.int .i64 (cmpEv x y)) := fun W _ => by
  refine (compare_any x.kind x.id x.entry x.target x.date y.kind y.id y.entry y.target y.date x.party x.name x.value y.party y.name y.value x.first y.first W).mono ?_
  rintro e w' ⟨h, o1, o2, o3, rfl⟩
  exact ⟨h, ((((Below.refl _ _).alloc (Nat.le_refl _) o1).alloc (by simp) o2).drew).alloc (by simp; omega) o3⟩
theorem text_ct {x : Ev} {w : World} (h : Env w) (hs : x.value.size ≤ 100000) (hv : valB x = true) : Ct w 10 #[evV x] (.tuple #[.string (joinS (textW x)), .int .i64 0]) := fun W hW => text_yes x W (h.below hW) hs hv
theorem parse_ct {x : Ev} {w : World} (h : Env w) (hv : valB x = true) (hs : (joinS (textW x)).size ≤ 100000) : Ct w 12 #[.string (joinS (textW x))] (.tuple #[evV x, .int .i64 0]) := fun W hW => by
  refine (parse_any (h.below hW) _ hs).mono ?_
  rintro e w' ⟨hb, hp⟩
  obtain ⟨h1, h2⟩ := reads_join hv
  rcases hp with ⟨_, he⟩ | ⟨hn, _⟩
  · rw [h2] at he
    exact ⟨he, hb⟩
  · exact absurd h1 hn
theorem parse_no_ct {w : World} (h : Env w) (s : ByteArray) (hs : s.size ≤ 100000) (hn : ¬ReadsW (wordsOf s)) : Ct w 12 #[.string s] (.tuple #[zEv, .int .i64 12]) := fun W hW => by
  refine (parse_any (h.below hW) _ hs).mono ?_
  rintro e w' ⟨hb, hp⟩
  rcases hp with ⟨hy, _⟩ | ⟨_, he⟩
  · exact absurd hy hn
  · exact ⟨he, hb⟩

set_option maxHeartbeats 4000000 in
set_option maxRecDepth 100000 in
theorem reads_walk (s : ByteArray) (K i e0 t d : Int) (p n v : ByteArray) (f : Bool) (w : World)
    (HT : Hid (Ct w 10 #[.agg #[.int .u8 K, .int .i64 i, .int .i64 e0, .int .i64 t, .int .i64 d, .string p, .string n, .string v, .bool f]] (.tuple #[.string s, .int .i64 0])))
    (HP : Hid (Ct w 12 #[.string s] (.tuple #[.agg #[.int .u8 K, .int .i64 i, .int .i64 e0, .int .i64 t, .int .i64 d, .string p, .string n, .string v, .bool f], .int .i64 0]))) :
    Calls Tryz.prog 18 #[.string s, .agg #[.int .u8 K, .int .i64 i, .int .i64 e0, .int .i64 t, .int .i64 d, .string p, .string n, .string v, .bool f]] w (BelB w true) := by
  go_enter Tryz.func18, Tryz.ntmps18
  go_wp2_with fail
  refine (HT.out.use (own_below _ _)).mono ?_
  rintro e w2 ⟨rfl, b2⟩
  have B2 : Hid (Below w.heap.size w w2) := (own_below _ _).trans (b2.mono (by simp))
  have ho2 := objNext (B := 0) ⟨Nat.zero_le _, objHere _ _⟩ b2
  have HO2 := Lib.hid ho2
  clear b2 ho2
  go_wp2_with fail
  refine (HP.out.use B2.out).mono ?_
  rintro e w3 ⟨rfl, b3⟩
  have B3 : Hid (Below w.heap.size w w3) := B2.out.trans (b3.mono B2.out.size)
  have ho3 := objNext HO2.out b3
  obtain ⟨q0, q1, q2, q3, q4, q5, q6, q7, q8⟩ := zcells ho3.2
  have qf := zfrozen ho3.2
  have hs := objLt ho3.2
  clear b3 ho3
  go_wp2_with fail
  go_ret
  exact ⟨rfl, B3.out.alloc B3.out.size _⟩

theorem reads_ct {x : Ev} {s : ByteArray} {w : World} (h : Env w) (hv : valB x = true) (hval : x.value.size ≤ 100000) (hs : joinS (textW x) = s) (hsz : s.size ≤ 100000) :
    Ct w 18 #[.string s, evV x] (.bool true) := fun W hW => by
  subst hs
  exact reads_walk _ _ _ _ _ _ _ _ _ _ W (Lib.hid (text_ct (h.below hW) hval hv)) (Lib.hid (parse_ct (h.below hW) hv hsz))

end Go.Proofs.YtcfgpojogomkhaaGreatDoor
