/-
  The reference's number of a text. No condition.
-/
import Derived.Test.YtnmiiimbjojcmaaGreatDoorMrg
import Derived.Test.YtnmiiimbjojcmaaGreatDoorMrh
import Derived.Test.YtnmiiimbjojcmaaGreatDoorMri
import Derived.Test.YtnmiiimbjojcmaaGreatDoorMrj
namespace Go.Proofs.YtnmiiimbjojcmaaGreatDoor
open Go.RowKit Go.Shelf
set_option linter.unusedVariables false

theorem size_len (t : ByteArray) : t.size = t.data.toList.length := (data_len t).symm
theorem head_at {t : ByteArray} (h : 0 < t.size) : t.data.toList.head? = some t[0] := by
  have := dropAt t 0 h
  rw [List.drop_zero] at this
  rw [this]; rfl
theorem head48 {t : ByteArray} (h : 0 < t.size) : (t.data.toList.head? = some 48) ↔ t[0].toNat = 48 := by
  rw [head_at h]
  constructor
  · intro e; injection e with e; rw [e]; rfl
  · intro e; congr 1; rw [← UInt8.toNat_inj]; exact e
theorem numO_12 {neg : Bool} {F B : ByteArray} {mk n : Nat} {z : Bool} (hF : 0 < F.size) (hB : mk = 47 → 0 < B.size) (h : z = false ∨ (1 < F.size ∧ F[0].toNat = 48) ∨ (mk = 47 ∧ B.data.toList.head? = some 48)) : numO neg F.data.toList mk B.data.toList z n = .no 12 := by
  unfold numO
  rw [if_pos]
  rcases h with h | ⟨h1, h2⟩ | h
  · exact .inr (.inl h)
  · exact .inl ⟨by rw [data_len]; exact h1, (head48 hF).2 h2⟩
  · exact .inr (.inr h)
theorem numO_14 {neg : Bool} {F B : ByteArray} {mk n : Nat} {z : Bool} (hF : 0 < F.size) (hz : z = true) (h1 : ¬ (1 < F.size ∧ F[0].toNat = 48)) (h2 : ¬ (mk = 47 ∧ B.data.toList.head? = some 48)) (hb : 1000 < F.size ∨ (mk = 46 ∧ 1000 < F.size + B.size) ∨ 1000 < B.size) : numO neg F.data.toList mk B.data.toList z n = .no 14 := by
  unfold numO
  rw [if_neg, if_pos]
  · rw [data_len, data_len]; exact hb
  · rintro (⟨a, b⟩ | a | a)
    · rw [data_len] at a; exact h1 ⟨a, (head48 hF).1 b⟩
    · rw [hz] at a; cases a
    · exact h2 a
theorem numO_ok {neg : Bool} {F B : ByteArray} {mk n : Nat} {z : Bool} (hF : 0 < F.size) (hz : z = true) (h1 : ¬ (1 < F.size ∧ F[0].toNat = 48)) (h2 : ¬ (mk = 47 ∧ B.data.toList.head? = some 48)) (hb : ¬ (1000 < F.size ∨ (mk = 46 ∧ 1000 < F.size + B.size) ∨ 1000 < B.size)) : numO neg F.data.toList mk B.data.toList z n = .yes ⟨3, bsL [], bsL (ratOf neg F.data.toList mk B.data.toList), 0, 0⟩ n := by
  unfold numO
  rw [if_neg, if_neg]
  · rw [data_len, data_len]; exact hb
  · rintro (⟨a, b⟩ | a | a)
    · rw [data_len] at a; exact h1 ⟨a, (head48 hF).1 b⟩
    · rw [hz] at a; cases a
    · exact h2 a
theorem frcQ_at (s : ByteArray) (A : Nat) (h : A < s.size) : frcQ (s.data.toList.drop A) = (decide (s[A].toNat = 46 ∨ s[A].toNat = 47) && dgH (s.data.toList.drop (A + 1))) := by
  rw [dropAt s A h]
  by_cases h2 : A + 1 < s.size
  · rw [dropAt s (A + 1) h2]; rfl
  · have : s.data.toList.drop (A + 1) = [] := List.drop_eq_nil_of_le (by rw [data_len]; omega)
    rw [this]
    show false = _
    rw [show dgH [] = false from rfl, Bool.and_false]
theorem ext_take (s : ByteArray) (k A a : Nat) (h : A = k + a) : (s.extract k A).data.toList = (s.data.toList.drop k).take a := by
  rw [ext_list]; congr 1; omega
/-- What is read of a number, by the bytes. -/
theorem numK_at (s : ByteArray) (i k A : Nat) (hik : k = i + numS (s.data.toList.drop i)) (hA : A = k + spn dgQ (s.data.toList.drop k)) (neg : Bool) (hneg : neg = decide (numS (s.data.toList.drop i) = 1)) :
    (frcQ (s.data.toList.drop A) = true → ∀ E, E = A + 1 + spn dgQ (s.data.toList.drop (A + 1)) → numK (s.data.toList.drop i) = numO neg (s.extract k A).data.toList ((s.data.toList.drop A).headD 0).toNat (s.extract (A + 1) E).data.toList (endQ (s.data.toList.drop E)) (E - i)) ∧
    (frcQ (s.data.toList.drop A) = false → numK (s.data.toList.drop i) = numO neg (s.extract k A).data.toList 0 [] (endQ (s.data.toList.drop A)) (A - i)) := by
  obtain ⟨g, hg⟩ : ∃ g, g = numS (s.data.toList.drop i) := ⟨_, rfl⟩
  obtain ⟨a, ha⟩ : ∃ a, a = spn dgQ (s.data.toList.drop k) := ⟨_, rfl⟩
  rw [← hg] at hik hneg
  rw [← ha] at hA
  have e1 : (s.data.toList.drop i).drop g = s.data.toList.drop k := by rw [List.drop_drop, hik]
  have e2 : (s.data.toList.drop i).drop (g + a) = s.data.toList.drop A := by rw [List.drop_drop, hA, hik, Nat.add_assoc]
  have eF : (s.extract k A).data.toList = (s.data.toList.drop k).take a := ext_take s k A a hA
  constructor
  · intro hf E hE
    have eB : (s.extract (A + 1) E).data.toList = (s.data.toList.drop (A + 1)).take (spn dgQ (s.data.toList.drop (A + 1))) := ext_take s (A + 1) E _ hE
    unfold numK
    dsimp only
    rw [← hg, e1, ← ha, e2, if_pos hf, List.drop_drop, List.drop_drop, eF, eB, hneg]
    congr 1
    · rw [hE, Nat.add_assoc]
    · omega
  · intro hf
    unfold numK
    dsimp only
    rw [← hg, e1, ← ha, e2, if_neg (by rw [hf]; decide), eF, hneg]
    congr 1
    omega
theorem dig_run (l : List UInt8) (n : Nat) (h : n = spn dgQ l) : ∀ c ∈ l.take n, dgQ c = true := by rw [h]; exact spn_take_all dgQ l
/-- The leaves of a number without a point and a slash. -/
theorem leaf_0 (neg : Bool) (F : ByteArray) (z : Bool) (n : Nat) (R : OneR) (hR : R = numO neg F.data.toList 0 [] z n) (hF : 0 < F.size) (hd : ∀ c ∈ F.data.toList, dgQ c = true) :
    (z = false ∨ (1 < F.size ∧ F[0].toNat = 48) → R = .no 12) ∧ (z = true → ¬ (1 < F.size ∧ F[0].toNat = 48) → 1000 < F.size → R = .no 14) ∧
    (z = true → ¬ (1 < F.size ∧ F[0].toNat = 48) → ¬ 1000 < F.size → R = .yes ⟨3, ⟨#[]⟩, ⟨(ratOf neg F.data.toList 0 []).toArray⟩, 0, 0⟩ n ∧ ∀ W, Calls Tryz.prog 50 #[.bool neg, .string F, .int .u8 0, .string ⟨#[]⟩] W (StE W ⟨(ratOf neg F.data.toList 0 []).toArray⟩ 0)) := by
  have hne : F.data.toList ≠ [] := by intro e; have := data_len F; rw [e] at this; simp at this; omega
  refine ⟨fun h => ?_, fun hz h1 hb => ?_, fun hz h1 hb => ⟨?_, fun W => ?_⟩⟩
  · rw [hR]; exact numO_12 (B := ⟨#[]⟩) hF (by intro e; cases e) (by rcases h with h | h; exact .inl h; exact .inr (.inl h))
  · rw [hR]; exact numO_14 (B := ⟨#[]⟩) hF hz h1 (by rintro ⟨e, _⟩; cases e) (.inl hb)
  · rw [hR]; exact numO_ok (B := ⟨#[]⟩) hF hz h1 (by rintro ⟨e, _⟩; cases e) (by rintro (e | ⟨e, _⟩ | e); exact hb e; cases e; exact absurd e (by show ¬ 1000 < 0; decide))
  · exact number_rf neg F ⟨#[]⟩ 0 W (.inl rfl) hne hd (by intro c hc; cases hc) (by omega) (by decide) (by intro e; cases e) (by intro e; cases e)
theorem leaf_46 (neg : Bool) (F B : ByteArray) (z : Bool) (n : Nat) (R : OneR) (hR : R = numO neg F.data.toList 46 B.data.toList z n) (hF : 0 < F.size) (hd : ∀ c ∈ F.data.toList, dgQ c = true) (hB : 0 < B.size) (hdb : ∀ c ∈ B.data.toList, dgQ c = true) :
    (z = false ∨ (1 < F.size ∧ F[0].toNat = 48) → R = .no 12) ∧ (z = true → ¬ (1 < F.size ∧ F[0].toNat = 48) → 1000 < F.size + B.size → R = .no 14) ∧
    (z = true → ¬ (1 < F.size ∧ F[0].toNat = 48) → ¬ 1000 < F.size + B.size → R = .yes ⟨3, ⟨#[]⟩, ⟨(ratOf neg F.data.toList 46 B.data.toList).toArray⟩, 0, 0⟩ n ∧ ∀ W, Calls Tryz.prog 50 #[.bool neg, .string F, .int .u8 46, .string B] W (StE W ⟨(ratOf neg F.data.toList 46 B.data.toList).toArray⟩ 0)) := by
  have hne : F.data.toList ≠ [] := by intro e; have := data_len F; rw [e] at this; simp at this; omega
  refine ⟨fun h => ?_, fun hz h1 hb => ?_, fun hz h1 hb => ⟨?_, fun W => ?_⟩⟩
  · rw [hR]; exact numO_12 hF (by intro e; cases e) (by rcases h with h | h; exact .inl h; exact .inr (.inl h))
  · rw [hR]; exact numO_14 hF hz h1 (by rintro ⟨e, _⟩; cases e) (.inr (.inl ⟨rfl, hb⟩))
  · rw [hR]; exact numO_ok hF hz h1 (by rintro ⟨e, _⟩; cases e) (by rintro (e | ⟨_, e⟩ | e) <;> omega)
  · exact number_rf neg F B 46 W (.inr (.inl rfl)) hne hd hdb (by omega) (by omega) (fun _ => by omega) (by intro e; cases e)
theorem leaf_47 (neg : Bool) (F B : ByteArray) (z : Bool) (n : Nat) (R : OneR) (hR : R = numO neg F.data.toList 47 B.data.toList z n) (hF : 0 < F.size) (hd : ∀ c ∈ F.data.toList, dgQ c = true) (hB : 0 < B.size) (hdb : ∀ c ∈ B.data.toList, dgQ c = true) :
    (z = false ∨ (1 < F.size ∧ F[0].toNat = 48) ∨ B[0].toNat = 48 → R = .no 12) ∧ (z = true → ¬ (1 < F.size ∧ F[0].toNat = 48) → ¬ B[0].toNat = 48 → (1000 < F.size ∨ 1000 < B.size) → R = .no 14) ∧
    (z = true → ¬ (1 < F.size ∧ F[0].toNat = 48) → ¬ B[0].toNat = 48 → ¬ (1000 < F.size ∨ 1000 < B.size) → R = .yes ⟨3, ⟨#[]⟩, ⟨(ratOf neg F.data.toList 47 B.data.toList).toArray⟩, 0, 0⟩ n ∧ ∀ W, Calls Tryz.prog 50 #[.bool neg, .string F, .int .u8 47, .string B] W (StE W ⟨(ratOf neg F.data.toList 47 B.data.toList).toArray⟩ 0)) := by
  have hne : F.data.toList ≠ [] := by intro e; have := data_len F; rw [e] at this; simp at this; omega
  have hnb : B.data.toList ≠ [] := by intro e; have := data_len B; rw [e] at this; simp at this; omega
  refine ⟨fun h => ?_, fun hz h1 h2 hb => ?_, fun hz h1 h2 hb => ⟨?_, fun W => ?_⟩⟩
  · rw [hR]; exact numO_12 hF (fun _ => hB) (by
      rcases h with h | h | h
      · exact .inl h
      · exact .inr (.inl h)
      · exact .inr (.inr ⟨rfl, (head48 hB).2 h⟩))
  · rw [hR]; exact numO_14 hF hz h1 (fun e => h2 ((head48 hB).1 e.2)) (by rcases hb with h | h; exact .inl h; exact .inr (.inr h))
  · rw [hR]; exact numO_ok hF hz h1 (fun e => h2 ((head48 hB).1 e.2)) (by rintro (e | ⟨e, _⟩ | e); exact hb (.inl e); cases e; exact hb (.inr e))
  · exact number_rf neg F B 47 W (.inr (.inr rfl)) hne hd hdb (by omega) (by omega) (by intro e; cases e) (fun _ => ⟨hnb, fun e => h2 ((head48 hB).1 e)⟩)
theorem spn_dg {l : List UInt8} (h : dgH l = true) : 1 ≤ spn dgQ l := by
  cases l with
  | nil => cases h
  | cons c l => exact spn_pos h
/-- The reference's number of a text. -/
theorem rnumber_any (s : ByteArray) (i : Nat) (w : World) (hs : s.size ≤ 100000) (hi : i < s.size) (hh : dgQ s[i] = true ∨ (s[i].toNat = 45 ∧ dgH (s.data.toList.drop (i + 1)) = true)) :
    Calls Tryz.prog 34 #[.string s, .int .i64 (i : Int)] w (OnePost w i (numK (s.data.toList.drop i))) := by
  have hl := dropAt s i hi
  have run : ∀ k, k ≤ s.size → k + spn dgQ (s.data.toList.drop k) ≤ s.size := fun k hk => by
    have := spn_le dgQ (s.data.toList.drop k)
    rw [List.length_drop, data_len] at this; omega
  by_cases h45 : s[i].toNat = 45
  · have hS : numS (s.data.toList.drop i) = 1 := by
      rw [hl]; unfold numS; rw [if_pos]; simp; rw [← UInt8.toNat_inj]; exact h45
    have hdg : dgH (s.data.toList.drop (i + 1)) = true := by
      rcases hh with h | h
      · unfold dgQ at h; simp at h; omega
      · exact h.2
    have t45 : ((s[i].toNat : Int) == 45) = true := by simp; omega
    have hik : (i + 1) = i + numS (s.data.toList.drop i) := by rw [hS]
    have hneg : true = decide (numS (s.data.toList.drop i) = 1) := by rw [hS]; rfl
    have hk1 : i + 1 ≤ s.size := by omega
    obtain ⟨A, hA⟩ : ∃ A, A = (i + 1) + spn dgQ (s.data.toList.drop (i + 1)) := ⟨_, rfl⟩
    have hAs : A ≤ s.size := by rw [hA]; exact run (i + 1) hk1
    have hsp := spn_dg hdg
    have hkA : (i + 1) ≤ A := by omega
    obtain ⟨n1, n2⟩ := numK_at s i (i + 1) A hik hA true hneg
    have HR1 := Lib.hid (fun W : World => show Calls Tryz.prog 49 #[.string s, .int .i64 ((i : Int) + 1)] W (RetI W (A : Int)) from (by have := run_rf s (i + 1) W hs hk1; rw [← hA] at this; exact this))
    have hF0 : 0 < (s.extract (i + 1) A).size := by simp; omega
    have hFd : ∀ c ∈ (s.extract (i + 1) A).data.toList, dgQ c = true := by rw [ext_take s (i + 1) A _ hA]; exact spn_take_all _ _
    by_cases hlt : A < s.size
    · by_cases hfr : frcQ (s.data.toList.drop A) = true
      · obtain ⟨E, hE⟩ : ∃ E, E = A + 1 + spn dgQ (s.data.toList.drop (A + 1)) := ⟨_, rfl⟩
        have hR := n1 hfr E hE
        have hfr2 := hfr
        rw [frcQ_at s A hlt, Bool.and_eq_true, decide_eq_true_eq] at hfr2
        obtain ⟨hmk, hdA⟩ := hfr2
        have hA1 : A + 1 ≤ s.size := by omega
        have hEs : E ≤ s.size := by rw [hE]; exact run (A + 1) hA1
        have hsB := spn_dg hdA
        have hhd : ((s.data.toList.drop A).headD 0).toNat = s[A].toNat := by rw [dropAt s A hlt]; rfl
        rw [hhd] at hR
        have HD := Lib.hid (fun W : World => show Calls Tryz.prog 33 #[.string s, .int .i64 ((A : Int) + 1)] W (RetB W true) from (by have := digitAt_rf s (A + 1) W hA1; rw [hdA] at this; exact this))
        have HR2 := Lib.hid (fun W : World => show Calls Tryz.prog 49 #[.string s, .int .i64 ((A : Int) + 1)] W (RetI W (E : Int)) from (by have := run_rf s (A + 1) W hs hA1; rw [← hE] at this; exact this))
        have hB0 : 0 < (s.extract (A + 1) E).size := by simp; omega
        have hBd : ∀ c ∈ (s.extract (A + 1) E).data.toList, dgQ c = true := by rw [ext_take s (A + 1) E _ hE]; exact spn_take_all _ _
        have HE := Lib.hid (fun W : World => ended_rf s E W hEs)
        rcases hmk with hm | hm
        · rw [hm] at hR
          have t46 : ((s[A].toNat : Int) == 46) = true := by simp; omega
          obtain ⟨l1, l2, l3⟩ := leaf_46 true (s.extract (i + 1) A) (s.extract (A + 1) E) _ _ _ hR hF0 hFd hB0 hBd
          exact num_walk1p s _ _ _ i A E _ _ w hs hi hkA hAs t45 HR1 rfl hF0 hlt t46 HD HR2 (by omega) hEs rfl hB0 (by omega) HE (Lib.hid l1) (Lib.hid l2) (Lib.hid l3)
        · rw [hm] at hR
          have t46 : ((s[A].toNat : Int) == 46) = false := by simp; omega
          have t47 : ((s[A].toNat : Int) == 47) = true := by simp; omega
          obtain ⟨l1, l2, l3⟩ := leaf_47 true (s.extract (i + 1) A) (s.extract (A + 1) E) _ _ _ hR hF0 hFd hB0 hBd
          exact num_walk1s s _ _ _ i A E _ _ w hs hi hkA hAs t45 HR1 rfl hF0 hlt t46 t47 HD HR2 (by omega) hEs rfl hB0 (by omega) HE (Lib.hid l1) (Lib.hid l2) (Lib.hid l3)
      · have hR := n2 (Bool.eq_false_iff.2 hfr)
        obtain ⟨l1, l2, l3⟩ := leaf_0 true (s.extract (i + 1) A) _ _ _ hR hF0 hFd
        have HE := Lib.hid (fun W : World => ended_rf s A W hAs)
        have hA1 : A + 1 ≤ s.size := by omega
        rw [frcQ_at s A hlt] at hfr
        by_cases h46 : s[A].toNat = 46
        · have hdA : dgH (s.data.toList.drop (A + 1)) = false := by
            rw [decide_eq_true (.inl h46), Bool.true_and] at hfr; exact Bool.eq_false_iff.2 hfr
          have HD := Lib.hid (fun W : World => show Calls Tryz.prog 33 #[.string s, .int .i64 ((A : Int) + 1)] W (RetB W false) from (by have := digitAt_rf s (A + 1) W hA1; rw [hdA] at this; exact this))
          have t46 : ((s[A].toNat : Int) == 46) = true := by simp; omega
          exact num_walk1c s _ _ i A _ _ w hs hi hkA hAs t45 HR1 rfl hF0 hlt t46 HD HE (Lib.hid l1) (Lib.hid l2) (Lib.hid l3)
        · have t46 : ((s[A].toNat : Int) == 46) = false := by simp; omega
          by_cases h47 : s[A].toNat = 47
          · have hdA : dgH (s.data.toList.drop (A + 1)) = false := by
              rw [decide_eq_true (.inr h47), Bool.true_and] at hfr; exact Bool.eq_false_iff.2 hfr
            have HD := Lib.hid (fun W : World => show Calls Tryz.prog 33 #[.string s, .int .i64 ((A : Int) + 1)] W (RetB W false) from (by have := digitAt_rf s (A + 1) W hA1; rw [hdA] at this; exact this))
            have t47 : ((s[A].toNat : Int) == 47) = true := by simp; omega
            exact num_walk1d s _ _ i A _ _ w hs hi hkA hAs t45 HR1 rfl hF0 hlt t46 t47 HD HE (Lib.hid l1) (Lib.hid l2) (Lib.hid l3)
          · have t47 : ((s[A].toNat : Int) == 47) = false := by simp; omega
            exact num_walk1b s _ _ i A _ _ w hs hi hkA hAs t45 HR1 rfl hF0 hlt t46 t47 HE (Lib.hid l1) (Lib.hid l2) (Lib.hid l3)
    · have hAe : A = s.size := by omega
      have hR := n2 (by rw [List.drop_eq_nil_of_le (by rw [data_len]; omega)]; rfl)
      obtain ⟨l1, l2, l3⟩ := leaf_0 true (s.extract (i + 1) A) _ _ _ hR hF0 hFd
      have HE := Lib.hid (fun W : World => ended_rf s A W hAs)
      exact num_walk1a s _ _ i A _ _ w hs hi hkA hAs t45 HR1 rfl hF0 hAe HE (Lib.hid l1) (Lib.hid l2) (Lib.hid l3)
  · have hS : numS (s.data.toList.drop i) = 0 := by
      rw [hl]; unfold numS; rw [if_neg]; simp; intro e; exact h45 (by rw [e]; rfl)
    have hdg : dgH (s.data.toList.drop i) = true := by
      rcases hh with h | h
      · rw [hl]; exact h
      · exact absurd h.1 h45
    have t45 : ((s[i].toNat : Int) == 45) = false := by simp; omega
    have hik : i = i + numS (s.data.toList.drop i) := by rw [hS]; rfl
    have hneg : false = decide (numS (s.data.toList.drop i) = 1) := by rw [hS]; rfl
    have hk1 : i ≤ s.size := by omega
    obtain ⟨A, hA⟩ : ∃ A, A = i + spn dgQ (s.data.toList.drop i) := ⟨_, rfl⟩
    have hAs : A ≤ s.size := by rw [hA]; exact run i hk1
    have hsp := spn_dg hdg
    have hkA : i ≤ A := by omega
    obtain ⟨n1, n2⟩ := numK_at s i i A hik hA false hneg
    have HR1 := Lib.hid (fun W : World => show Calls Tryz.prog 49 #[.string s, .int .i64 (i : Int)] W (RetI W (A : Int)) from (by have := run_rf s i W hs hk1; rw [← hA] at this; exact this))
    have hF0 : 0 < (s.extract i A).size := by simp; omega
    have hFd : ∀ c ∈ (s.extract i A).data.toList, dgQ c = true := by rw [ext_take s i A _ hA]; exact spn_take_all _ _
    by_cases hlt : A < s.size
    · by_cases hfr : frcQ (s.data.toList.drop A) = true
      · obtain ⟨E, hE⟩ : ∃ E, E = A + 1 + spn dgQ (s.data.toList.drop (A + 1)) := ⟨_, rfl⟩
        have hR := n1 hfr E hE
        have hfr2 := hfr
        rw [frcQ_at s A hlt, Bool.and_eq_true, decide_eq_true_eq] at hfr2
        obtain ⟨hmk, hdA⟩ := hfr2
        have hA1 : A + 1 ≤ s.size := by omega
        have hEs : E ≤ s.size := by rw [hE]; exact run (A + 1) hA1
        have hsB := spn_dg hdA
        have hhd : ((s.data.toList.drop A).headD 0).toNat = s[A].toNat := by rw [dropAt s A hlt]; rfl
        rw [hhd] at hR
        have HD := Lib.hid (fun W : World => show Calls Tryz.prog 33 #[.string s, .int .i64 ((A : Int) + 1)] W (RetB W true) from (by have := digitAt_rf s (A + 1) W hA1; rw [hdA] at this; exact this))
        have HR2 := Lib.hid (fun W : World => show Calls Tryz.prog 49 #[.string s, .int .i64 ((A : Int) + 1)] W (RetI W (E : Int)) from (by have := run_rf s (A + 1) W hs hA1; rw [← hE] at this; exact this))
        have hB0 : 0 < (s.extract (A + 1) E).size := by simp; omega
        have hBd : ∀ c ∈ (s.extract (A + 1) E).data.toList, dgQ c = true := by rw [ext_take s (A + 1) E _ hE]; exact spn_take_all _ _
        have HE := Lib.hid (fun W : World => ended_rf s E W hEs)
        rcases hmk with hm | hm
        · rw [hm] at hR
          have t46 : ((s[A].toNat : Int) == 46) = true := by simp; omega
          obtain ⟨l1, l2, l3⟩ := leaf_46 false (s.extract i A) (s.extract (A + 1) E) _ _ _ hR hF0 hFd hB0 hBd
          exact num_walk0p s _ _ _ i A E _ _ w hs hi hkA hAs t45 HR1 rfl hF0 hlt t46 HD HR2 (by omega) hEs rfl hB0 (by omega) HE (Lib.hid l1) (Lib.hid l2) (Lib.hid l3)
        · rw [hm] at hR
          have t46 : ((s[A].toNat : Int) == 46) = false := by simp; omega
          have t47 : ((s[A].toNat : Int) == 47) = true := by simp; omega
          obtain ⟨l1, l2, l3⟩ := leaf_47 false (s.extract i A) (s.extract (A + 1) E) _ _ _ hR hF0 hFd hB0 hBd
          exact num_walk0s s _ _ _ i A E _ _ w hs hi hkA hAs t45 HR1 rfl hF0 hlt t46 t47 HD HR2 (by omega) hEs rfl hB0 (by omega) HE (Lib.hid l1) (Lib.hid l2) (Lib.hid l3)
      · have hR := n2 (Bool.eq_false_iff.2 hfr)
        obtain ⟨l1, l2, l3⟩ := leaf_0 false (s.extract i A) _ _ _ hR hF0 hFd
        have HE := Lib.hid (fun W : World => ended_rf s A W hAs)
        have hA1 : A + 1 ≤ s.size := by omega
        rw [frcQ_at s A hlt] at hfr
        by_cases h46 : s[A].toNat = 46
        · have hdA : dgH (s.data.toList.drop (A + 1)) = false := by
            rw [decide_eq_true (.inl h46), Bool.true_and] at hfr; exact Bool.eq_false_iff.2 hfr
          have HD := Lib.hid (fun W : World => show Calls Tryz.prog 33 #[.string s, .int .i64 ((A : Int) + 1)] W (RetB W false) from (by have := digitAt_rf s (A + 1) W hA1; rw [hdA] at this; exact this))
          have t46 : ((s[A].toNat : Int) == 46) = true := by simp; omega
          exact num_walk0c s _ _ i A _ _ w hs hi hkA hAs t45 HR1 rfl hF0 hlt t46 HD HE (Lib.hid l1) (Lib.hid l2) (Lib.hid l3)
        · have t46 : ((s[A].toNat : Int) == 46) = false := by simp; omega
          by_cases h47 : s[A].toNat = 47
          · have hdA : dgH (s.data.toList.drop (A + 1)) = false := by
              rw [decide_eq_true (.inr h47), Bool.true_and] at hfr; exact Bool.eq_false_iff.2 hfr
            have HD := Lib.hid (fun W : World => show Calls Tryz.prog 33 #[.string s, .int .i64 ((A : Int) + 1)] W (RetB W false) from (by have := digitAt_rf s (A + 1) W hA1; rw [hdA] at this; exact this))
            have t47 : ((s[A].toNat : Int) == 47) = true := by simp; omega
            exact num_walk0d s _ _ i A _ _ w hs hi hkA hAs t45 HR1 rfl hF0 hlt t46 t47 HD HE (Lib.hid l1) (Lib.hid l2) (Lib.hid l3)
          · have t47 : ((s[A].toNat : Int) == 47) = false := by simp; omega
            exact num_walk0b s _ _ i A _ _ w hs hi hkA hAs t45 HR1 rfl hF0 hlt t46 t47 HE (Lib.hid l1) (Lib.hid l2) (Lib.hid l3)
    · have hAe : A = s.size := by omega
      have hR := n2 (by rw [List.drop_eq_nil_of_le (by rw [data_len]; omega)]; rfl)
      obtain ⟨l1, l2, l3⟩ := leaf_0 false (s.extract i A) _ _ _ hR hF0 hFd
      have HE := Lib.hid (fun W : World => ended_rf s A W hAs)
      exact num_walk0a s _ _ i A _ _ w hs hi hkA hAs t45 HR1 rfl hF0 hAe HE (Lib.hid l1) (Lib.hid l2) (Lib.hid l3)

end Go.Proofs.YtnmiiimbjojcmaaGreatDoor
