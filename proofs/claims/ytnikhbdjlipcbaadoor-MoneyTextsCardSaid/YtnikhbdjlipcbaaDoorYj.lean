/-
  The program's Read at any text. Condition: what the package-level variables hold; at most 100,000 bytes.
-/
import Derived.Test.YtnikhbdjlipcbaaDoorYi
namespace Go.Proofs.YtnikhbdjlipcbaaDoor
open Go.RowKit Go.Shelf

theorem upTo_len (c : UInt8) (l : List UInt8) : (upTo c l).length ≤ l.length := (List.takeWhile_sublist _).length_le
theorem past_len (c : UInt8) (l : List UInt8) : (past c l).length ≤ l.length := by
  unfold past
  rw [List.length_drop]
  have := (List.dropWhile_sublist (p := fun x => x != c) (l := l)).length_le
  omega
theorem preD_len (l : List UInt8) : (preD l).length ≤ l.length := by
  unfold preD
  split
  · simp
  · exact Nat.le_refl _
theorem readA_pre (l : List UInt8) (un : List UInt8 → Option Nat) (u : Nat) (h : un (past 32 l) = some u) : readA un l =
    if figOK u (preD (upTo 32 l)) = false then (0, [], 12)
    else if figN (preD (upTo 32 l)) = 0 then (if decide ((upTo 32 l).head? = some 45) = true then (0, [], 12) else (0, past 32 l, 0))
    else if maxM < figN (preD (upTo 32 l)) then (0, [], 14)
    else (if decide ((upTo 32 l).head? = some 45) = true then -(figN (preD (upTo 32 l)) : Int) else (figN (preD (upTo 32 l)) : Int), past 32 l, 0) := by
  have e : (if decide ((upTo 32 l).head? = some 45) = true then (upTo 32 l).tail else upTo 32 l) = preD (upTo 32 l) := by
    unfold preD
    by_cases hh : (upTo 32 l).head? = some 45
    · rw [if_pos (decide_eq_true hh), if_pos hh]
    · rw [if_neg (by simpa using hh), if_neg hh]
  unfold readA
  rw [h]
  dsimp only
  rw [e]
theorem fig_ok (u : Nat) (d : List UInt8) (z : Bool) (hz1 : 1 < (upTo 46 d).length → z = decide ((upTo 46 d).head? = some 48)) (hz2 : ¬1 < (upTo 46 d).length → z = false) :
    figOK u d = (figsB (upTo 46 d) && !z && (d.contains 46 == decide (0 < u)) && decide ((past 46 d).length = u) && (!decide (0 < u) || figsB (past 46 d))) := by
  have ez : (decide (1 < (upTo 46 d).length) && decide ((upTo 46 d).head? = some 48)) = z := by
    by_cases h : 1 < (upTo 46 d).length
    · rw [hz1 h, decide_eq_true h, Bool.true_and]
    · rw [hz2 h, decide_eq_false h, Bool.false_and]
  have ep : (decide ((past 46 d).length = u) && (past 46 d).all isDig) = (decide ((past 46 d).length = u) && (!decide (0 < u) || figsB (past 46 d))) := by
    by_cases h : (past 46 d).length = u
    · rw [decide_eq_true h, Bool.true_and, Bool.true_and]
      rcases Nat.eq_zero_or_pos u with hu | hu
      · rw [decide_eq_false (by omega)]
        have : past 46 d = [] := List.eq_nil_of_length_eq_zero (by omega)
        rw [this]; rfl
      · rw [decide_eq_true hu]
        unfold figsB
        rw [decide_eq_true (by omega)]
        simp
    · rw [decide_eq_false h]; simp
  unfold figOK
  rw [ez, Bool.and_assoc, ep]
  unfold figsB
  simp only [Bool.and_assoc]
theorem fig_digs {u : Nat} {d : List UInt8} (h : figOK u d = true) : ∀ c ∈ upTo 46 d ++ past 46 d, isDig c = true := by
  unfold figOK at h
  simp only [Bool.and_eq_true] at h
  obtain ⟨⟨⟨⟨⟨_, h2⟩, _⟩, _⟩, _⟩, h6⟩ := h
  intro c hc
  rcases List.mem_append.1 hc with hc | hc
  · exact List.all_eq_true.1 h2 c hc
  · exact List.all_eq_true.1 h6 c hc

theorem mread_any (s : ByteArray) (w : World) (HE : Hid (Env w)) (hs : s.size ≤ 100000) :
    Calls Tryd.prog 13 #[.string s] w (R3 w (readA unitOf s.data.toList).1 ⟨(readA unitOf s.data.toList).2.1.toArray⟩ (readA unitOf s.data.toList).2.2) := by
  have HC1 := Lib.hid (fun W => cutb_any s 32 W (by omega))
  have HU := fun W => munit_any ⟨(past 32 s.data.toList).toArray⟩ W
  have hsl : s.data.toList.length ≤ 100000 := by rw [data_len]; exact hs
  generalize s.data.toList = l at *
  have e0 : (⟨(past 32 l).toArray⟩ : ByteArray).data.toList = past 32 l := rfl
  rw [e0] at HU
  cases hu : unitOf (past 32 l) with
  | none =>
    rw [hu] at HU
    have hr : readA unitOf l = (0, [], 12) := by unfold readA; rw [hu]
    rw [hr]
    exact mread_unit s _ _ _ w HC1 (Lib.hid HU)
  | some u =>
    rw [hu] at HU
    rw [readA_pre l unitOf u hu]
    have hu3 := unit_le hu
    obtain ⟨num, hnum⟩ : ∃ num, num = upTo 32 l := ⟨_, rfl⟩
    obtain ⟨cc, hcc⟩ : ∃ cc, cc = past 32 l := ⟨_, rfl⟩
    have hnl : num.length ≤ 100000 := by rw [hnum]; exact Nat.le_trans (upTo_len _ _) hsl
    rw [← hnum, ← hcc] at HC1
    rw [← hcc] at HU
    rw [← hnum, ← hcc]
    obtain ⟨d, hd⟩ : ∃ d, d = preD num := ⟨_, rfl⟩
    rw [← hd]
    have hdl : d.length ≤ 100000 := by rw [hd]; exact Nat.le_trans (preD_len _) hnl
    obtain ⟨W, hW⟩ : ∃ W, W = upTo 46 d := ⟨_, rfl⟩
    obtain ⟨P, hP⟩ : ∃ P, P = past 46 d := ⟨_, rfl⟩
    have hWl : W.length ≤ 100000 := by rw [hW]; exact Nat.le_trans (upTo_len _ _) hdl
    have hPl : P.length ≤ 100000 := by rw [hP]; exact Nat.le_trans (past_len _ _) hdl
    have sz : ∀ x : List UInt8, (⟨x.toArray⟩ : ByteArray).size = x.length := fun x => by rw [← data_len]
    have HP : Hid (Ca 37 #[.string ⟨num.toArray⟩, .string ⟨#[45]⟩] (.tuple #[.string ⟨d.toArray⟩, .bool (decide (num.head? = some 45))])) := fun V => by
      have := cutp_any ⟨num.toArray⟩ V
      rw [show (⟨num.toArray⟩ : ByteArray).data.toList = num from rfl, ← hd] at this
      exact this
    have HC2 : Hid (∀ V, Calls Tryd.prog 36 #[.string ⟨d.toArray⟩, .string ⟨#[46]⟩] V (CutQ V ⟨W.toArray⟩ ⟨P.toArray⟩ (d.contains 46))) := fun V => by
      have := cutb_any ⟨d.toArray⟩ 46 V (by rw [sz]; omega)
      rw [show (⟨d.toArray⟩ : ByteArray).data.toList = d from rfl, ← hW, ← hP] at this
      exact this
    have HF1 : Hid (∀ V, Calls Tryd.prog 38 #[.string ⟨W.toArray⟩] V (RetB V (figsB W))) := fun V => figs_any ⟨W.toArray⟩ V (by rw [sz]; omega)
    have HF2 : Hid (∀ V, Calls Tryd.prog 38 #[.string ⟨P.toArray⟩] V (RetB V (figsB P))) := fun V => figs_any ⟨P.toArray⟩ V (by rw [sz]; omega)
    have eN : figN d = numL (W ++ P) := by unfold figN; rw [hW, hP]
    have hT : figOK u d = true → numL (Lib.trimLeftB (W ++ P) 48) = figN d ∧ (Lib.trimLeftB (W ++ P) 48 = [] ↔ figN d = 0) ∧ (∀ c ∈ Lib.trimLeftB (W ++ P) 48, isDig c = true) ∧ (Lib.trimLeftB (W ++ P) 48).length ≤ (W ++ P).length := fun h => by
      rw [eN]
      exact trim_digs (W ++ P) (by rw [hW, hP]; exact fig_digs h)
    have hTl : figOK u d = true → (Lib.trimLeftB (W ++ P) 48).length ≤ 200000 := fun h => by
      have := (hT h).2.2.2
      rw [List.length_append] at this
      omega
    have HTL : Hid (figOK u d = true → Ca 39 #[.string (⟨W.toArray⟩ ++ ⟨P.toArray⟩), .string ⟨#[48]⟩] (.string ⟨(Lib.trimLeftB (W ++ P) 48).toArray⟩)) := fun _ V => by
      have := Tryd.strings_TrimLeft_one (⟨W.toArray⟩ ++ ⟨P.toArray⟩) 48 (by decide) V
      rw [show ((⟨W.toArray⟩ : ByteArray) ++ ⟨P.toArray⟩).data.toList = W ++ P by simp] at this
      exact this.mono fun e w' ⟨h1, h2⟩ => ⟨h1, by rw [h2]; exact Below.refl _ _⟩
    refine mread_go s ⟨num.toArray⟩ ⟨cc.toArray⟩ ⟨d.toArray⟩ ⟨W.toArray⟩ ⟨P.toArray⟩ ⟨(Lib.trimLeftB (W ++ P) 48).toArray⟩ _ (decide (num.head? = some 45)) (d.contains 46) (figsB W) (figsB P) (figOK u d) u (figN d) _ _ _ w HC1 (u : Int) (Lib.hid rfl) (by omega) (by omega) (Lib.hid fun V => HU V) HP HC2 HF1 HF2 (by rw [sz]; omega) (by rw [sz]; omega) ?_ ?_ HTL ?_ ?_ ?_ ?_ ?_ ?_ ?_ ?_ ?_
    · intro h
      unfold figsB at h
      simp only [Bool.and_eq_true, decide_eq_true_eq] at h
      rw [sz]; exact h.1
    · intro z hz1 hz2
      have h := fig_ok u d z (fun h => by
        rw [← hW] at h ⊢
        have h0 : 0 < (⟨W.toArray⟩ : ByteArray).size := by rw [sz]; omega
        rw [hz1 (by rw [sz]; exact h) h0]
        have hh : W.head? = some ((⟨W.toArray⟩ : ByteArray)[0]'h0) := by
          rw [List.head?_eq_getElem?]
          exact Lib.data_getElem? ⟨W.toArray⟩ 0 h0
        rw [hh]
        by_cases h48 : (⟨W.toArray⟩ : ByteArray)[0] = 48
        · rw [h48]; rfl
        · have n1 : ((⟨W.toArray⟩ : ByteArray)[0]).toNat ≠ 48 := fun e => h48 (UInt8.toNat_inj.1 (by rw [e]; rfl))
          rw [decide_eq_false (by simpa using h48)]
          simp; omega) (fun h => by
        rw [← hW] at h
        exact hz2 (by rw [sz]; exact h))
      rw [← hW, ← hP] at h
      rw [sz]
      exact h
    · intro h
      have := (hT h).2.1
      rw [Lib.toList_data]
      show (Lib.trimLeftB (W ++ P) 48 == []) = _
      by_cases h0 : figN d = 0
      · rw [decide_eq_true h0, this.2 h0]; rfl
      · rw [decide_eq_false h0]
        have hne : Lib.trimLeftB (W ++ P) 48 ≠ [] := fun e => h0 (this.1 e)
        simpa using hne
    · intro h hv hlt V
      obtain ⟨t1, t2, t3, _⟩ := hT h
      have hne : Lib.trimLeftB (W ++ P) 48 ≠ [] := fun e => by have := t2.1 e; omega
      have ha := atoi_digs hne t3
      rw [t1, if_pos hlt] at ha
      refine (Tryd.strconv_Atoi_ok ⟨(Lib.trimLeftB (W ++ P) 48).toArray⟩ (by rw [sz]; have := hTl h; omega) (figN d : Int) ha V).mono fun e w' ⟨h1, h2⟩ => ⟨h1, ?_⟩
      rcases h2 with rfl | ⟨t, rfl⟩
      · exact Below.refl _ _
      · exact Joins.below_bytesWorld _ _ _ _ (Nat.le_refl _)
    · intro h hlt V hV
      obtain ⟨t1, t2, t3, _⟩ := hT h
      have hne : Lib.trimLeftB (W ++ P) 48 ≠ [] := fun e => by have := t2.1 e; omega
      have ha := atoi_digs hne t3
      rw [t1, if_neg hlt] at ha
      obtain ⟨ev, he, hev⟩ := (HE.out.below hV).rng
      exact (Tryd.strconv_Atoi_range ⟨(Lib.trimLeftB (W ++ P) 48).toArray⟩ (by rw [sz]; have := hTl h; omega) ha ev V he hev).mono fun e w' ⟨N, h1, _, _, h2⟩ => ⟨⟨_, N, h1⟩, h2⟩
    · intro h
      rw [if_pos h]; exact ⟨rfl, rfl, rfl⟩
    · intro h h0 hm
      rw [if_neg (by rw [h]; simp), if_pos h0, if_pos hm]; exact ⟨rfl, rfl, rfl⟩
    · intro h h0 hm
      rw [if_neg (by rw [h]; simp), if_pos h0, if_neg (by rw [hm]; simp)]; exact ⟨rfl, rfl, rfl⟩
    · intro h h0 h1 hm
      rw [if_neg (by rw [h]; simp), if_neg (by omega), if_neg (by unfold maxM; omega), if_pos hm]; exact ⟨rfl, rfl, rfl⟩
    · intro h h0 h1 hm
      rw [if_neg (by rw [h]; simp), if_neg (by omega), if_neg (by unfold maxM; omega), if_neg (by rw [hm]; simp)]; exact ⟨rfl, rfl, rfl⟩
    · intro h h1
      rw [if_neg (by rw [h]; simp), if_neg (by omega), if_pos (by unfold maxM; omega)]; exact ⟨rfl, rfl, rfl⟩

end Go.Proofs.YtnikhbdjlipcbaaDoor
