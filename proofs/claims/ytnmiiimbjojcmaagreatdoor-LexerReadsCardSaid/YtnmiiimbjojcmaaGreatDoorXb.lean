/-
  The texts of tokens are read as these tokens; what is read is valid; joined texts. No condition. Two texts, remarks, wrong tokens, places; the texts of the examples. No condition.
-/
import Derived.Test.YtnmiiimbjojcmaaGreatDoorXa
namespace Go.Proofs.YtnmiiimbjojcmaaGreatDoor
open Go.RowKit

theorem numV_undig (l : List UInt8) : numV l = dval (undig l) := by
  have : ∀ (n : Nat) (l : List UInt8), l.length = n → numV l = dval (undig l) := by
    intro n
    induction n with
    | zero => intro l hl; obtain rfl := List.length_eq_zero_iff.1 hl; rfl
    | succ n ih =>
      intro l hl
      obtain ⟨m, c, rfl⟩ : ∃ m c, l = m ++ [c] := ⟨l.dropLast, l.getLast (by intro h; rw [h] at hl; simp at hl), (List.dropLast_concat_getLast _).symm⟩
      rw [numV_snoc, ih m (by simpa using hl)]
      unfold undig
      rw [List.reverse_append, List.reverse_singleton, List.singleton_append, List.map_cons]
      show _ = (c.toNat - 48) + 10 * dval _
      omega
  exact this l.length l rfl
theorem numV_txtN (n : Nat) : numV (txtN n) = n := by rw [numV_undig, undig_txtN, dval_decN]
theorem spn_whole {p : UInt8 → Bool} {l : List UInt8} (h : ∀ c ∈ l, p c = true) : spn p l = l.length := by
  induction l with
  | nil => rfl
  | cons c l ih => unfold spn; rw [if_pos (h c (List.mem_cons_self ..)), ih fun x hx => h x (List.mem_cons_of_mem _ hx)]; simp
theorem txtN_dgQ (n : Nat) : ∀ c ∈ txtN n, dgQ c = true := fun c hc => by
  have := txtN_dig n c hc
  unfold dgQ; simpa using this
theorem txtN_no0 {n : Nat} (h : 1 < (txtN n).length) : (txtN n).head? ≠ some 48 := fun a => by
  have := (canN_txtN n).2.2 a; omega
theorem bigZ_len {z : Int} (h : bigZ z = false) : (txtN z.natAbs).length ≤ 1000 := by
  unfold bigZ at h; rw [txtN_len]; simpa using h
theorem txtZ_numS (z : Int) : numS (txtZ z) = (if z < 0 then 1 else 0) ∧ (txtZ z).drop (numS (txtZ z)) = txtN z.natAbs ∧ numS (txtZ z) + (txtN z.natAbs).length = (txtZ z).length := by
  by_cases h : z < 0
  · have e : txtZ z = 45 :: txtN z.natAbs := by unfold txtZ; rw [if_pos h]
    have e2 : numS (txtZ z) = 1 := by rw [e]; rfl
    rw [e2, if_pos h, e]; exact ⟨rfl, rfl, by simp; omega⟩
  · have e : txtZ z = txtN z.natAbs := by unfold txtZ; rw [if_neg h]
    have e2 : numS (txtZ z) = 0 := by unfold numS; rw [if_neg]; rw [e]; exact txtN_head _
    rw [e2, if_neg h, e]; exact ⟨rfl, rfl, by omega⟩
theorem ratN_id {n d : Int} (h : RatOK n d) : ratN n d = n ∧ ratD n d = d := by
  obtain ⟨h1, h2, _, _⟩ := h
  unfold ratN ratD
  rw [h2, if_neg (by omega)]
  simp
  omega
theorem ratT_head (n d : Int) : ∃ c r, ratT n d = c :: r ∧ (dgQ c = true ∨ (c.toNat = 45 ∧ dgH r = true)) := by
  have hz : ∃ c r, txtZ n = c :: r ∧ (dgQ c = true ∨ (c.toNat = 45 ∧ dgH r = true)) := by
    cases ht : txtN n.natAbs with
    | nil => exact absurd ht (txtN_ne _)
    | cons d t =>
      have hd : dgQ d = true := txtN_dgQ n.natAbs d (by rw [ht]; exact List.mem_cons_self ..)
      by_cases h : n < 0
      · exact ⟨45, d :: t, by unfold txtZ; rw [if_pos h, ht], .inr ⟨rfl, hd⟩⟩
      · exact ⟨d, t, by unfold txtZ; rw [if_neg h, ht], .inl hd⟩
  obtain ⟨c, r, e, h⟩ := hz
  unfold ratT
  split
  · exact ⟨c, r, e, h⟩
  · refine ⟨c, r ++ 47 :: txtZ d, by rw [e]; rfl, ?_⟩
    rcases h with h | ⟨h1, h2⟩
    · exact .inl h
    · refine .inr ⟨h1, ?_⟩
      cases r with
      | nil => cases h2
      | cons x r => exact h2
theorem ratT_noday {n d : Int} (hd : 0 < d) : ¬ dayQ (ratT n d) = true := by
  intro h
  have h0 := dayQ_at h (i := 0) (by omega)
  have h4 : ∃ c, (ratT n d)[4]? = some c ∧ c.toNat = 45 := by
    obtain ⟨c0, c1, c2, c3, c4, c5, c6, c7, c8, c9, t, e⟩ := ten (dayQ_len h)
    rw [e] at h ⊢
    unfold dayQ at h
    simp only [Bool.and_eq_true, decide_eq_true_eq] at h
    exact ⟨c4, rfl, h.1.1.1.1.1.2⟩
  obtain ⟨c, hc, h45⟩ := h4
  by_cases hn : n < 0
  · have e : ratT n d = 45 :: (ratT n d).tail := by
      unfold ratT txtZ; rw [if_pos hn]; split <;> rfl
    rw [e] at h
    exact absurd (dayQ_dg h) (by decide)
  · have hm := List.mem_of_getElem? hc
    have : ∀ x ∈ ratT n d, x.toNat ≠ 45 := by
      intro x hx
      have key : ∀ z : Int, ¬ z < 0 → ∀ x ∈ txtZ z, x.toNat ≠ 45 := fun z hz x hx => by
        unfold txtZ at hx; rw [if_neg hz] at hx; have := txtN_dig _ x hx; omega
      unfold ratT at hx
      split at hx
      · exact key n hn x hx
      · rcases List.mem_append.1 hx with hx | hx
        · exact key n hn x hx
        · rcases List.mem_cons.1 hx with rfl | hx
          · decide
          · exact key d (by omega) x hx
    exact this c hm h45
/-- The text of a number is read as that number. -/
theorem numK_rat {n d : Int} (h : RatOK n d) : numK (ratT n d) = .yes ⟨3, bsL [], bsL (ratT n d), 0, 0⟩ (ratT n d).length := by
  obtain ⟨hd, hg, bn, bd⟩ := h
  have hl1 := bigZ_len bn
  have hl2 := bigZ_len bd
  obtain ⟨s1, s2, s3⟩ := txtZ_numS n
  have hsg : (if decide (numS (txtZ n) = 1) = true then -(n.natAbs : Int) else (n.natAbs : Int)) = n := by
    rw [s1]; by_cases hn : n < 0
    · rw [if_pos hn]; simp; omega
    · rw [if_neg hn]; simp; omega
  have hz : txtZ n ≠ [] := by
    intro e; rw [e] at s2; exact txtN_ne _ (by rw [← s2]; simp)
  by_cases h1 : d = 1
  · have e : ratT n d = txtZ n := by unfold ratT; rw [if_pos h1]
    have ev : ratOf (decide (numS (txtZ n) = 1)) (txtN n.natAbs) 0 [] = ratT n d := by
      unfold ratOf
      dsimp only
      rw [if_neg (show ¬ (0 : Nat) = 46 by decide), if_neg (show ¬ (0 : Nat) = 46 by decide), if_neg (show ¬ (0 : Nat) = 47 by decide), numV_txtN, hsg, h1]
      have := ratN_id (n := n) (d := 1) ⟨by omega, by simp, bn, bigZ_one⟩
      rw [show ((1 : Nat) : Int) = 1 from rfl, this.1, this.2]
    unfold numK
    dsimp only
    rw [e, s2, spn_whole (txtN_dgQ _)]
    have ed : (txtZ n).drop (numS (txtZ n) + (txtN n.natAbs).length) = [] := by rw [s3, List.drop_length]
    rw [ed, if_neg (by decide), List.take_length]
    unfold numO
    rw [if_neg (by
      rintro (⟨a, b⟩ | a | ⟨a, _⟩)
      · exact txtN_no0 a b
      · cases a
      · cases a), if_neg (by
      rintro (a | ⟨a, _⟩ | a)
      · omega
      · cases a
      · simp at a), ev, e, s3]
  · have e : ratT n d = txtZ n ++ 47 :: txtN d.natAbs := by
      unfold ratT; rw [if_neg h1]
      congr 2
      unfold txtZ; rw [if_neg (by omega)]
    have ev : ratOf (decide (numS (txtZ n) = 1)) (txtN n.natAbs) 47 (txtN d.natAbs) = ratT n d := by
      unfold ratOf
      dsimp only
      rw [if_neg (show ¬ (47 : Nat) = 46 by decide), if_neg (show ¬ (47 : Nat) = 46 by decide), if_pos rfl, numV_txtN, numV_txtN, hsg, show (d.natAbs : Int) = d by omega]
      have := ratN_id (n := n) (d := d) ⟨hd, hg, bn, bd⟩
      rw [this.1, this.2]
    have f1 : numS (txtZ n ++ 47 :: txtN d.natAbs) = numS (txtZ n) := numS_app hz _
    have f2 : (txtZ n ++ 47 :: txtN d.natAbs).drop (numS (txtZ n)) = txtN n.natAbs ++ 47 :: txtN d.natAbs := by
      rw [drop_le_app _ (by omega), s2]
    have f3 : spn dgQ (txtN n.natAbs ++ 47 :: txtN d.natAbs) = (txtN n.natAbs).length := by
      rw [spn_app _ _ (by decide), spn_whole (txtN_dgQ _)]
    have f4 : (txtZ n ++ 47 :: txtN d.natAbs).drop (numS (txtZ n) + (txtN n.natAbs).length) = 47 :: txtN d.natAbs := by
      rw [s3, List.drop_left]
    have f5 : frcQ (47 :: txtN d.natAbs) = true := by
      cases ht : txtN d.natAbs with
      | nil => exact absurd ht (txtN_ne _)
      | cons c t =>
        have := txtN_dgQ d.natAbs c (by rw [ht]; exact List.mem_cons_self ..)
        show (decide ((47 : UInt8).toNat = 46 ∨ (47 : UInt8).toNat = 47) && dgQ c) = true
        rw [this]; rfl
    have f6 : (txtN d.natAbs).head? ≠ some 48 := by
      intro a
      have hl := (canN_txtN d.natAbs).2.2 a
      cases ht : txtN d.natAbs with
      | nil => rw [ht] at hl; simp at hl
      | cons c t =>
        rw [ht] at a hl
        simp at a hl
        rw [a, hl] at ht
        have : txtN d.natAbs = txtN 0 := by rw [ht]; rfl
        have := txtN_inj this
        omega
    unfold numK
    dsimp only
    rw [e, f1, f2, f3, f4, if_pos f5, List.drop_one, List.tail_cons, spn_whole (txtN_dgQ _), take_le_app _ (Nat.le_refl _), List.take_length, List.take_length]
    have f7 : endQ ((47 :: txtN d.natAbs).drop (1 + (txtN d.natAbs).length)) = true := by
      rw [show 1 + (txtN d.natAbs).length = (47 :: txtN d.natAbs).length by simp; omega, List.drop_length]; rfl
    rw [f7, show ((47 :: txtN d.natAbs).headD 0).toNat = 47 from rfl]
    unfold numO
    rw [if_neg (by
      rintro (⟨a, b⟩ | a | ⟨_, a⟩)
      · exact txtN_no0 a b
      · cases a
      · exact f6 a), if_neg (by
      rintro (a | ⟨a, _⟩ | a)
      · omega
      · cases a
      · omega), ev, e]
    congr 1
    simp; omega
theorem oneL_rat {n d : Int} (h : RatOK n d) : oneL (ratT n d) = .yes ⟨3, bsL [], bsL (ratT n d), 0, 0⟩ (ratT n d).length := by
  obtain ⟨c, r, e, hh⟩ := ratT_head n d
  have hy := ratT_noday (n := n) h.1
  have := numK_rat h
  rw [e] at hy this ⊢
  rw [oneL_num hy hh]
  exact this
theorem oneL_date {day y m d : Nat} (hd : day ≤ 99999) (h : DateIs day y m d) : oneL (dateB y m d) = .yes ⟨4, bsL [], bsL [], day, 0⟩ 10 := by
  obtain ⟨hy, hdd⟩ := h.small hd
  obtain ⟨h1, h2, h3, h4, h5, h6⟩ := h
  have l4 : figB y 4 = [UInt8.ofNat (48 + y / 10 / 10 / 10 % 10), UInt8.ofNat (48 + y / 10 / 10 % 10), UInt8.ofNat (48 + y / 10 % 10), UInt8.ofNat (48 + y % 10)] := rfl
  have l2 : figB m 2 = [UInt8.ofNat (48 + m / 10 % 10), UInt8.ofNat (48 + m % 10)] := rfl
  have l3 : figB d 2 = [UInt8.ofNat (48 + d / 10 % 10), UInt8.ofNat (48 + d % 10)] := rfl
  have dq : ∀ k : Nat, dgQ (UInt8.ofNat (48 + k % 10)) = true := fun k => by
    unfold dgQ; rw [UInt8.toNat_ofNat']; simp; omega
  have e : dateB y m d = UInt8.ofNat (48 + y / 10 / 10 / 10 % 10) :: (dateB y m d).tail := by unfold dateB; rw [l4]; rfl
  have hq : dayQ (dateB y m d) = true := by
    unfold dateB; rw [l4, l2, l3]
    show dayQ (_ :: _ :: _ :: _ :: 45 :: _ :: _ :: 45 :: _ :: _ :: []) = true
    unfold dayQ
    simp only [dq, Bool.true_and, Bool.and_true]; decide
  have hv : datV (dateB y m d) = some day := by
    have t1 : (dateB y m d).take 4 = figB y 4 := by unfold dateB; rw [l4, l2, l3]; rfl
    have t2 : ((dateB y m d).drop 5).take 2 = figB m 2 := by unfold dateB; rw [l4, l2, l3]; rfl
    have t3 : ((dateB y m d).drop 8).take 2 = figB d 2 := by unfold dateB; rw [l4, l2, l3]; rfl
    unfold datV
    dsimp only
    rw [t1, t2, t3, numV_figB, numV_figB, numV_figB, Nat.mod_eq_of_lt (show y < 10 ^ 4 by omega), Nat.mod_eq_of_lt (show m < 10 ^ 2 by omega), Nat.mod_eq_of_lt (show d < 10 ^ 2 by omega), if_pos ⟨h1, h2, h3, h4, h5, by omega⟩]
    congr 1; omega
  have hdr : (dateB y m d).drop 10 = [] := by
    rw [show 10 = (dateB y m d).length from (dateB_len y m d).symm, List.drop_length]
  rw [e] at hq hv hdr ⊢
  rw [oneL_day hq, hdr, if_pos endQ_nil, hv]
theorem nmB_parts {l : List UInt8} (h : nmB l = true) : 1 ≤ l.length ∧ l.length ≤ 40 ∧ (∃ c r, l = c :: r ∧ letB c = true) ∧ ∀ c ∈ l, wdQ c = true := by
  unfold nmB at h
  simp only [Bool.and_eq_true, decide_eq_true_eq, List.all_eq_true] at h
  obtain ⟨⟨h1, h2⟩, h3⟩ := h
  refine ⟨h1.1, h1.2, ?_, h3⟩
  cases l with
  | nil => simp at h1
  | cons c r => exact ⟨c, r, rfl, h2⟩
theorem oneL_name {l : List UInt8} (h : nmB l = true) : oneL l = .yes ⟨1, bsL l, bsL [], 0, 0⟩ l.length := by
  obtain ⟨h1, h2, ⟨c, r, rfl, hc⟩, ha⟩ := nmB_parts h
  have hs : spn wdQ r = r.length := spn_whole fun x hx => ha x (List.mem_cons_of_mem _ hx)
  rw [oneL_word hc, hs, if_neg (by simpa using h2)]
  rw [show r.length + 1 = (c :: r).length by simp, List.take_length]
theorem oneL_quoted {l : List UInt8} (h : nmB l = true) : oneL (34 :: (l ++ [34])) = .yes ⟨2, bsL l, bsL [], 0, 0⟩ (l.length + 2) := by
  obtain ⟨_, _, _, ha⟩ := nmB_parts h
  have hs : spn (fun x => decide (x.toNat ≠ 34)) (l ++ [34]) = l.length := by
    rw [spn_app _ _ (by decide)]
    refine spn_whole fun x hx => ?_
    have := ha x hx
    unfold wdQ letB othB at this
    simp at this ⊢
    omega
  rw [oneL_quote (by decide), hs, take_le_app _ (Nat.le_refl _), List.take_length, if_pos ⟨by simp, h⟩]
theorem oneL_mk1 {c : UInt8} (h : mkB c = true) : oneL [c] = .yes ⟨5, bsL [c], bsL [], 0, 0⟩ 1 := oneL_mark h (by rintro ⟨_, a⟩; cases a)

theorem ratOK_mk {x y : Int} (h0 : y ≠ 0) (bx : bigZ x = false) (byy : bigZ y = false) : RatOK (ratN x y) (ratD x y) := by
  have hgp : 0 < Nat.gcd x.natAbs y.natAbs := Nat.gcd_pos_of_pos_right _ (by omega)
  have hD : ratD x y = ((y.natAbs / Nat.gcd x.natAbs y.natAbs : Nat) : Int) := rfl
  have hN : (ratN x y).natAbs = x.natAbs / Nat.gcd x.natAbs y.natAbs := by
    unfold ratN
    have hd : ((Nat.gcd x.natAbs y.natAbs : Nat) : Int) ∣ (if y < 0 then -x else x) := by
      refine Int.ofNat_dvd_left.2 ?_
      split
      · rw [Int.natAbs_neg]; exact Nat.gcd_dvd_left _ _
      · exact Nat.gcd_dvd_left _ _
    rw [Int.natAbs_ediv_of_dvd hd, Int.natAbs_natCast]
    split
    · rw [Int.natAbs_neg]
    · rfl
  refine ⟨?_, ?_, ?_, ?_⟩
  · rw [hD]
    have : 0 < y.natAbs / Nat.gcd x.natAbs y.natAbs := Nat.div_pos (Nat.gcd_le_right _ (by omega)) hgp
    omega
  · rw [hN, hD, Int.natAbs_natCast]
    rw [Nat.gcd_div (Nat.gcd_dvd_left _ _) (Nat.gcd_dvd_right _ _), Nat.div_self hgp]
  · refine bigZ_small (x := x) ?_ bx
    rw [hN]; exact Nat.div_le_self _ _
  · rw [hD]
    refine bigZ_le (Nat.div_le_self _ _) ?_
    rw [bigZ_abs]; exact byy

theorem bigZ_ten {n m : Nat} (h : n < 10 ^ m) (h0 : 0 < m) (hm : m ≤ 1000) : bigZ (n : Int) = false := by
  unfold bigZ
  rw [Int.natAbs_natCast]
  simp only [decide_eq_false_iff_not, Nat.not_lt]
  exact Nat.le_trans ((decN_len_le _ _ h0).2 h) hm
theorem spn_take_all (p : UInt8 → Bool) (l : List UInt8) : ∀ c ∈ l.take (spn p l), p c = true := by
  induction l with
  | nil => intro c hc; simp [spn] at hc
  | cons d l ih =>
    intro c hc
    unfold spn at hc
    split at hc
    · rename_i hd
      rw [List.take_succ_cons] at hc
      rcases List.mem_cons.1 hc with rfl | hc
      · exact hd
      · exact ih c hc
    · simp at hc
theorem numV_pos {l : List UInt8} (hl : l ≠ []) (hd : ∀ c ∈ l, dgQ c = true) (h0 : l.head? ≠ some 48) : 0 < numV l := by
  cases l with
  | nil => exact absurd rfl hl
  | cons c r =>
    have hc : 0 < c.toNat - 48 := by
      have h1 := hd c (List.mem_cons_self ..)
      unfold dgQ at h1
      simp at h1 h0
      have : c.toNat ≠ 48 := fun e => h0 (by rw [← UInt8.toNat_inj]; exact e)
      omega
    have : ∀ (r : List UInt8) (a : Nat), 0 < a → 0 < r.foldl (fun n c => 10 * n + (c.toNat - 48)) a := by
      intro r
      induction r with
      | nil => intro a h; exact h
      | cons x r ih => intro a h; exact ih (10 * a + (x.toNat - 48)) (by omega)
    unfold numV
    exact this r (10 * 0 + (c.toNat - 48)) (by omega)
/-- What is read is a valid token, apart from its place. -/
def VTk (t : Tk) : Prop :=
  (t.kind = 1 ∧ nmB t.text.data.toList = true ∧ t.rat = bsL [] ∧ t.date = 0) ∨ (t.kind = 2 ∧ nmB t.text.data.toList = true ∧ t.rat = bsL [] ∧ t.date = 0) ∨
  (t.kind = 3 ∧ t.text = bsL [] ∧ (∃ n d, RatOK n d ∧ t.rat = bsL (ratT n d)) ∧ t.date = 0) ∨ (t.kind = 4 ∧ t.text = bsL [] ∧ t.rat = bsL [] ∧ 0 ≤ t.date ∧ t.date ≤ 99999) ∨
  (t.kind = 5 ∧ (∃ c, mkB c = true ∧ t.text = bsL [c]) ∧ t.rat = bsL [] ∧ t.date = 0)
theorem bsL_list (l : List UInt8) : (bsL l).data.toList = l := rfl
theorem ratOf_ok {neg : Bool} {front back : List UInt8} {mk : Nat} (hf : ∀ c ∈ front, dgQ c = true) (hb : ∀ c ∈ back, dgQ c = true) (hf0 : front ≠ []) (h1 : front.length ≤ 1000) (h2 : back.length ≤ 1000)
    (h46 : mk = 46 → front.length + back.length ≤ 1000) (h47 : mk = 47 → back ≠ [] ∧ back.head? ≠ some 48) : ∃ n d, RatOK n d ∧ ratOf neg front mk back = ratT n d := by
  have dg : ∀ l : List UInt8, (∀ c ∈ l, dgQ c = true) → ∀ c ∈ l, 48 ≤ c.toNat ∧ c.toNat ≤ 57 := fun l h c hc => by
    have := h c hc; unfold dgQ at this; simpa using this
  have lf : 0 < front.length := List.length_pos_iff.2 hf0
  obtain ⟨X, hX⟩ : ∃ X : Nat, X = if mk = 46 then numV (front ++ back) else numV front := ⟨_, rfl⟩
  obtain ⟨Y, hY⟩ : ∃ Y : Nat, Y = if mk = 46 then 10 ^ back.length else if mk = 47 then numV back else 1 := ⟨_, rfl⟩
  obtain ⟨M, hM⟩ : ∃ M, M = 1000 := ⟨_, rfl⟩
  have bX : X < 10 ^ M := by
    rw [hX]; split
    · rename_i h
      refine Nat.lt_of_lt_of_le (numV_le _ ?_) (Nat.pow_le_pow_right (by omega) (by rw [List.length_append]; have := h46 h; omega))
      intro c hc
      rcases List.mem_append.1 hc with hc | hc
      · exact dg _ hf c hc
      · exact dg _ hb c hc
    · exact Nat.lt_of_lt_of_le (numV_le _ (dg _ hf)) (Nat.pow_le_pow_right (by omega) (by omega))
  have bY : Y < 10 ^ M ∧ 0 < Y := by
    rw [hY]; split
    · rename_i h
      have := h46 h
      exact ⟨Nat.pow_lt_pow_right (by omega) (by omega), Nat.pow_pos (by omega)⟩
    · split
      · rename_i h
        obtain ⟨b1, b2⟩ := h47 h
        exact ⟨Nat.lt_of_lt_of_le (numV_le _ (dg _ hb)) (Nat.pow_le_pow_right (by omega) (by omega)), numV_pos b1 hb b2⟩
      · exact ⟨Nat.one_lt_pow (by omega) (by omega), by omega⟩
  have zX := bigZ_ten bX (by omega) (by omega)
  have zY := bigZ_ten bY.1 (by omega) (by omega)
  refine ⟨_, _, ratOK_mk (x := if neg = true then -(X : Int) else (X : Int)) (y := (Y : Int)) (by omega) ?_ zY, ?_⟩
  · refine bigZ_small (x := (X : Int)) ?_ zX
    split <;> simp
  · unfold ratOf
    dsimp only
    rw [← hX, ← hY]
theorem numO_valid {neg : Bool} {front back : List UInt8} {mk : Nat} {ended : Bool} {n m : Nat} {t : Tk} (hf : ∀ c ∈ front, dgQ c = true) (hb : ∀ c ∈ back, dgQ c = true) (hf0 : front ≠ []) (hbk : mk = 47 → back ≠ [])
    (h : numO neg front mk back ended n = .yes t m) : VTk t := by
  unfold numO at h
  split at h
  · cases h
  · rename_i h1
    split at h
    · cases h
    · rename_i h2
      injection h with h _
      subst h
      obtain ⟨a, b, r1, r2⟩ := ratOf_ok (neg := neg) (mk := mk) hf hb hf0 (by omega) (by omega) (fun e => by omega) (fun e => ⟨hbk e, fun e2 => h1 (.inr (.inr ⟨e, e2⟩))⟩)
      exact .inr (.inr (.inl ⟨rfl, rfl, ⟨a, b, r1, congrArg bsL r2⟩, rfl⟩))
theorem spn_pos {p : UInt8 → Bool} {c : UInt8} {r : List UInt8} (h : p c = true) : 1 ≤ spn p (c :: r) := by unfold spn; rw [if_pos h]; omega
theorem numK_valid {c : UInt8} {r : List UInt8} (hh : dgQ c = true ∨ (c.toNat = 45 ∧ dgH r = true)) {t : Tk} {n : Nat} (h : numK (c :: r) = .yes t n) : VTk t := by
  have hsp : 1 ≤ spn dgQ ((c :: r).drop (numS (c :: r))) := by
    rcases hh with hd | ⟨h45, hd⟩
    · have : numS (c :: r) = 0 := by unfold numS; rw [if_neg]; simp; exact dgQ_45 hd
      rw [this]; exact spn_pos hd
    · have : numS (c :: r) = 1 := by unfold numS; rw [if_pos]; simp; rw [← UInt8.toNat_inj]; exact h45
      rw [this]
      cases r with
      | nil => cases hd
      | cons d r => exact spn_pos hd
  have hne : ((c :: r).drop (numS (c :: r))).take (spn dgQ ((c :: r).drop (numS (c :: r)))) ≠ [] := by
    intro e
    have := congrArg List.length e
    have hle := spn_le dgQ ((c :: r).drop (numS (c :: r)))
    rw [List.length_take, List.length_nil] at this
    omega
  unfold numK at h
  dsimp only at h
  split at h
  · rename_i hf
    refine numO_valid (spn_take_all _ _) (spn_take_all _ _) hne (fun _ => ?_) h
    obtain ⟨q, hq⟩ : ∃ q, q = (c :: r).drop (numS (c :: r) + spn dgQ ((c :: r).drop (numS (c :: r)))) := ⟨_, rfl⟩
    rw [← hq] at hf ⊢
    rcases q with _ | ⟨x, _ | ⟨y, q⟩⟩
    · cases hf
    · cases hf
    · have hy : dgQ y = true := by
        unfold frcQ at hf; simp only [Bool.and_eq_true] at hf; exact hf.2
      rw [List.drop_one, List.tail_cons]
      intro e
      have := congrArg List.length e
      have h1 := spn_pos (r := q) hy
      have h2 := spn_le dgQ (y :: q)
      rw [List.length_take, List.length_nil] at this
      omega
  · exact numO_valid (spn_take_all _ _) (fun c hc => by cases hc) hne (fun e => by cases e) h
theorem oneL_valid {l : List UInt8} {t : Tk} {n : Nat} (h : oneL l = .yes t n) : VTk t := by
  cases l with
  | nil => cases h
  | cons c r =>
    rcases oneL_ways c r with w | w | w | ⟨w, v⟩ | ⟨w, v⟩ | ⟨w1, w2, w3, w4⟩
    · rw [oneL_word w] at h; split at h
      · cases h
      · rename_i hl
        injection h with h _
        subst h
        refine .inl ⟨rfl, ?_, rfl, rfl⟩
        show nmB ((c :: r).take (spn wdQ r + 1)) = true
        have hle := spn_le wdQ r
        rw [List.take_succ_cons]
        refine nmB_ok (c := c) (by simp) ?_ rfl w ?_
        · simp; omega
        · intro x hx
          rcases List.mem_cons.1 hx with rfl | hx
          · rw [w]; rfl
          · exact spn_take_all wdQ r x hx
    · rw [oneL_quote w] at h; split at h
      · rename_i hq
        injection h with h _
        subst h
        exact .inr (.inl ⟨rfl, hq.2, rfl, rfl⟩)
      · cases h
    · rw [oneL_day w] at h; split at h
      · split at h
        · rename_i day hv
          injection h with h _
          subst h
          refine .inr (.inr (.inr (.inl ⟨rfl, rfl, rfl, ?_⟩)))
          unfold datV at hv
          dsimp only at hv
          split at hv
          · rename_i hc
            injection hv with hv
            obtain ⟨_, _, _, _, _, _⟩ := hc
            dsimp only
            omega
          · cases hv
        · cases h
      · cases h
    · rw [oneL_num w v] at h; exact numK_valid v h
    · rw [oneL_mark w v] at h
      injection h with h _
      subst h
      exact .inr (.inr (.inr (.inr ⟨rfl, ⟨c, w, rfl⟩, rfl, rfl⟩)))
    · rw [oneL_none w1 w2 w3 w4] at h; cases h
theorem oneL_head {c : UInt8} {r : List UInt8} {t : Tk} {n : Nat} (h : oneL (c :: r) = .yes t n) : ¬ blQ c = true ∧ ¬ c.toNat = 35 := by
  have key : ∀ P : Prop, (c.toNat = 32 ∨ c.toNat = 9 ∨ c.toNat = 10 ∨ c.toNat = 35 → P) → ¬ P → ¬ blQ c = true ∧ ¬ c.toNat = 35 := fun P hp hn =>
    ⟨fun a => hn (hp (by have := blQ_nat a; omega)), fun a => hn (hp (by omega))⟩
  refine key (oneL (c :: r) = .no 12) ?_ (fun e => by rw [h] at e; cases e)
  intro hc
  refine oneL_none ?_ (by omega) ?_ ?_
  · unfold letB; simp; omega
  · unfold dgQ; simp; omega
  · rw [mkB_nat]; omega
theorem VTk.move {t : Tk} (h : VTk t) (p : Int) : VTk { t with place := p } := h
/-- The texts joined by blanks. -/
def jnL : List (List UInt8) → List UInt8
  | [] => []
  | [a] => a
  | a :: b :: l => a ++ 32 :: jnL (b :: l)
/-- The tokens with the places that they have in the joined text. -/
def plL (off : Nat) : List (List UInt8 × Tk) → List Tk
  | [] => []
  | (a, t) :: l => { t with place := (off : Int) } :: plL (off + a.length + 1) l
theorem lexL_join : ∀ (l : List (List UInt8 × Tk)) (off : Nat), (∀ x ∈ l, oneL x.1 = .yes x.2 x.1.length) → lexL off (jnL (l.map (·.1))) = .yes (plL off l) := by
  intro l
  induction l with
  | nil => intro off _; exact lexL_end rfl
  | cons x l ih =>
    intro off h
    obtain ⟨a, t⟩ := x
    have hx : oneL a = .yes t a.length := h _ (List.mem_cons_self ..)
    have hl := fun y hy => h y (List.mem_cons_of_mem _ hy)
    have ha : a ≠ [] := by rintro rfl; cases hx
    have hz : ∀ X, skS false (a ++ X) = 0 := fun X => by
      cases a with
      | nil => exact absurd rfl ha
      | cons c r =>
        obtain ⟨h1, h2⟩ := oneL_head hx
        exact skS_tok h1 h2
    have hp : 0 < a.length := List.length_pos_iff.2 ha
    cases l with
    | nil =>
      show lexL off a = _
      have hz0 := hz []
      rw [List.append_nil] at hz0
      rw [lexL_yes (t := t) (n := a.length) (by omega) (by rw [hz0]; exact hx), hz0, lexL_end (l := a.drop (0 + a.length)) (by rw [Nat.zero_add, List.drop_length]; rfl)]
      rfl
    | cons y l =>
      show lexL off (a ++ 32 :: jnL ((y :: l).map (·.1))) = _
      have hone := oneL_app (s := 32) (by decide) ha (jnL ((y :: l).map (·.1)))
      have hz0 := hz (32 :: jnL ((y :: l).map (·.1)))
      rw [lexL_yes (t := t) (n := a.length) (by rw [hz0, List.length_append]; omega) (by rw [hz0]; show oneL (a ++ _) = _; rw [hone]; exact hx), hz0]
      have e1 : (a ++ 32 :: jnL ((y :: l).map (·.1))).drop (0 + a.length) = 32 :: jnL ((y :: l).map (·.1)) := by rw [Nat.zero_add, List.drop_left]
      rw [e1, lexL_skip (k := 1) (by simp) (by rw [skS_bl (by decide)]; simp; omega)]
      have := ih (off + a.length + 1) hl
      show pre1 _ (lexL _ (jnL ((y :: l).map (·.1)))) = _
      rw [show off + 0 + a.length + 1 = off + a.length + 1 by omega, this]
      rfl

end Go.Proofs.YtnmiiimbjojcmaaGreatDoor

namespace Go.Proofs.YtnmiiimbjojcmaaGreatDoor
open Go.RowKit

theorem lexL_concat' {c : UInt8} (hc : c.toNat = 10) (off : Nat) (a X : List UInt8) : lexL off (a ++ c :: X) = match lexL off a with
      | .no i e => .no i e
      | .yes ts => preL ts (mvR (a.length + 1) (lexL off X)) := by
  rw [lexL_concat hc X a.length off a (Nat.le_refl _)]
  cases lexL off a with
  | no i e => rfl
  | yes ts => dsimp only; rw [show off + a.length + 1 = off + (a.length + 1) by omega, lexL_shift (a.length + 1) X.length off X (Nat.le_refl _)]
theorem lexL_before {l : List UInt8} {i : Nat} {e : Int} (h : lexL 0 l = .no i e) : i < l.length ∧ ∃ ts, lexL 0 (l.take i) = .yes ts := by
  obtain ⟨p, ts, h1, h2, _⟩ := lexL_wrong l.length 0 l (Nat.le_refl _) h
  have e1 : i = p := by omega
  subst e1
  refine ⟨h2.lt, ts, ?_⟩
  have := h2.cut (X := []) (.inl rfl)
  rw [List.append_nil, lexL_end (l := []) rfl] at this
  rw [this]
  show LexR.yes (ts ++ []) = _
  rw [List.append_nil]
theorem preL_yes {ts us : List Tk} {R : LexR} {a : List Tk} (h : LexR.yes us = preL ts R) (ha : ts = a) : ∃ vs, R = .yes vs ∧ us = a ++ vs := by
  cases R with
  | no i e => cases h
  | yes vs => injection h with h; exact ⟨vs, rfl, by rw [← ha]; exact h⟩
theorem lexL_at {l : List UInt8} {ts : List Tk} (h : lexL 0 l = .yes ts) {j : Nat} (hj : j < ts.length) :
    ∃ p t m, p < l.length ∧ Bnd 0 l p (ts.take j) ∧ oneL (l.drop p) = .yes t m ∧ ts[j]? = some { t with place := (p : Int) } ∧ lexL p (l.drop p) = .yes (ts.drop j) := by
  obtain ⟨p, t, m, h1, h2, h3⟩ := lexL_token l.length 0 l (Nat.le_refl _) h hj
  rw [Nat.zero_add] at h3
  refine ⟨p, t, m, h1.lt, h1, h2, h3, ?_⟩
  obtain ⟨h4, _⟩ := h1.read
  rw [h, Nat.zero_add] at h4
  obtain ⟨vs, e1, e2⟩ := preL_yes h4 rfl
  rw [e1]
  congr 1
  have : ts.drop j = (ts.take j ++ vs).drop j := by rw [← e2]
  rw [this]
  have hl : (ts.take j).length = j := by rw [List.length_take]; omega
  have := List.drop_left (l₁ := ts.take j) (l₂ := vs)
  rw [hl] at this
  exact this.symm
theorem mvR_one {d : Nat} {R : LexR} {t : Tk} (h : mvR d R = .yes [t]) : ∃ u, R = .yes [u] ∧ t = mvT d u := by
  cases R with
  | no i e => cases h
  | yes l =>
    injection h with h
    match l, h with
    | [u], h => exact ⟨u, rfl, by simpa using h.symm⟩
    | [], h => cases h
    | _ :: _ :: _, h => simp at h
/-- Each token is read as itself from its place up to the next one. -/
theorem lexL_cover {l : List UInt8} {ts : List Tk} (h : lexL 0 l = .yes ts) {j : Nat} (hj : j < ts.length) {t : Tk} (ht : ts[j]? = some t) {last : Nat}
    (hlast : (∃ u, ts[j + 1]? = some u ∧ u.place = (last : Int)) ∨ (ts.length = j + 1 ∧ last = l.length)) :
    ∃ p : Nat, t.place = (p : Int) ∧ p < last ∧ last ≤ l.length ∧ VTk t ∧ lexL 0 ((l.take last).drop p) = .yes [{ t with place := 0 }] := by
  obtain ⟨p, t', m, h1, h2, h3, h4, h5⟩ := lexL_at h hj
  rw [ht] at h4
  have h4 := Option.some.inj h4
  have hp : t.place = (p : Int) := by rw [h4]
  have hv : VTk t := by rw [h4]; exact (oneL_valid h3).move _
  have main : ∀ q, lexL (0 + p) q = .yes [t] → lexL 0 q = .yes [{ t with place := 0 }] := by
    intro q hq
    rw [lexL_shift p q.length 0 q (Nat.le_refl _)] at hq
    obtain ⟨u, e1, e2⟩ := mvR_one hq
    rw [e1, e2]
    have : u.place = 0 := by have := congrArg Tk.place e2; rw [hp] at this; unfold mvT at this; dsimp only at this; omega
    congr 2
    unfold mvT
    dsimp only
    rw [← this]
  rcases hlast with ⟨u, hu, hup⟩ | ⟨he, rfl⟩
  · have hj2 : j + 1 < ts.length := (List.getElem?_eq_some_iff.1 hu).1
    have hd : 1 < (ts.drop j).length := by rw [List.length_drop]; omega
    obtain ⟨p1, t1, m1, g1, g2, g3⟩ := lexL_token (l.drop p).length p (l.drop p) (Nat.le_refl _) h5 hd
    rw [List.getElem?_drop, hu] at g3
    have g3 := Option.some.inj g3
    have hl : last = p + p1 := by rw [g3] at hup; dsimp only at hup; omega
    have glt := g1.lt
    rw [List.length_drop] at glt
    have gc := g1.cut (X := []) (.inl rfl)
    rw [List.append_nil, lexL_end (l := []) rfl] at gc
    have e1 : (ts.drop j).take 1 = [t] := by
      obtain ⟨hlt, hh⟩ := List.getElem?_eq_some_iff.1 ht
      rw [List.drop_eq_getElem_cons hj, hh]; rfl
    have gp : 0 < p1 := by
      rcases Nat.eq_zero_or_pos p1 with h0 | h0
      · rw [h0, List.take_zero, lexL_end (l := []) rfl, e1] at gc
        cases gc
      · exact h0
    refine ⟨p, hp, by omega, by omega, hv, main _ ?_⟩
    rw [hl, List.drop_take, show p + p1 - p = p1 by omega, Nat.zero_add, gc, e1]
    rfl
  · refine ⟨p, hp, h1, Nat.le_refl _, hv, main _ ?_⟩
    rw [List.take_length, Nat.zero_add, h5]
    congr 1
    obtain ⟨hlt, hh⟩ := List.getElem?_eq_some_iff.1 ht
    rw [List.drop_eq_getElem_cons hj, hh, List.drop_eq_nil_of_le (by omega)]
theorem lexL_first {l : List UInt8} {ts : List Tk} (h : lexL 0 l = .yes ts) : (ts = [] ∧ skS false l = l.length) ∨ (∃ (t : Tk) (p : Nat), ts[0]? = some t ∧ t.place = (p : Int) ∧ p < l.length ∧ skS false (l.take p) = p) := by
  rcases Nat.lt_or_ge (skS false l) l.length with hlt | hge
  · right
    cases ho : oneL (l.drop (skS false l)) with
    | no e => rw [lexL_no hlt ho] at h; cases h
    | yes t n =>
      rw [lexL_yes hlt ho] at h
      cases hL : lexL (0 + skS false l + n) (l.drop (skS false l + n)) with
      | no i e => rw [hL] at h; cases h
      | yes us =>
        rw [hL] at h
        injection h with h
        subst h
        refine ⟨_, skS false l, rfl, by dsimp only; rw [Nat.zero_add], hlt, ?_⟩
        have hne : l.drop (skS false l) ≠ [] := fun h => by have := congrArg List.length h; simp at this; omega
        have := skS_then false (l.take (skS false l)) (l.drop (skS false l)) [] hne (by rw [List.take_append_drop, List.length_take]; omega)
        rw [List.append_nil, List.length_take] at this
        rw [this]
        show _ + 0 = _
        omega
  · left
    have hf : skS false l = l.length := by have := skS_le false l; omega
    rw [lexL_end hf] at h
    injection h with h
    exact ⟨h.symm, hf⟩
theorem skS_remark {l : List UInt8} (h : ∀ c ∈ l, c.toNat ≠ 10) : skS true l = l.length := by
  induction l with
  | nil => rfl
  | cons c l ih => rw [skS_in (h c (List.mem_cons_self ..)), ih fun x hx => h x (List.mem_cons_of_mem _ hx)]; simp
/-- Blanks and a remark before a token move it and those behind it. -/
theorem lexL_blanks {l r : List UInt8} {ts : List Tk} (h : lexL 0 l = .yes ts) {j : Nat} (hj : j < ts.length) (hr : ∀ c ∈ r, c.toNat ≠ 10) {t : Tk} (ht : ts[j]? = some t) :
    ∃ p : Nat, t.place = (p : Int) ∧ p < l.length ∧ lexL 0 (l.take p ++ 32 :: 9 :: 35 :: (r ++ 10 :: l.drop p)) = .yes (ts.take j ++ (ts.drop j).map (mvT (r.length + 4 : Nat))) := by
  obtain ⟨p, t', m, h1, h2, h3, h4, h5⟩ := lexL_at h hj
  rw [ht] at h4
  have h4 := Option.some.inj h4
  refine ⟨p, by rw [h4], h1, ?_⟩
  rw [h2.cut (.inr ⟨32, _, rfl, by decide⟩), Nat.zero_add]
  have e : (32 :: 9 :: 35 :: (r ++ 10 :: l.drop p) : List UInt8).drop (r.length + 4) = l.drop p := by
    show (r ++ 10 :: l.drop p).drop (r.length + 1) = _
    rw [← List.drop_drop, List.drop_left]; rfl
  have hs : skS false (32 :: 9 :: 35 :: (r ++ 10 :: l.drop p) : List UInt8) = r.length + 4 + skS false (l.drop p) := by
    rw [skS_bl (by decide), skS_bl (by decide), skS_hash (by decide), skS_line true r (by decide) _ (skS_remark hr)]; omega
  rw [lexL_skip (k := r.length + 4) (by simp) (by rw [e]; exact hs), e, lexL_shift (r.length + 4) (l.drop p).length p _ (Nat.le_refl _), h5]
  rfl
theorem dayQ_ten {l : List UInt8} (h : dayQ l = true) : ∃ c0 c1 c2 c3 c5 c6 c8 c9 t, l = c0 :: c1 :: c2 :: c3 :: 45 :: c5 :: c6 :: 45 :: c8 :: c9 :: t ∧ dgQ c0 = true ∧ dgQ c1 = true ∧ dgQ c2 = true ∧ dgQ c3 = true ∧ dgQ c5 = true ∧ dgQ c6 = true ∧ dgQ c8 = true ∧ dgQ c9 = true := by
  obtain ⟨c0, c1, c2, c3, c4, c5, c6, c7, c8, c9, t, rfl⟩ := ten (dayQ_len h)
  unfold dayQ at h
  simp only [Bool.and_eq_true, decide_eq_true_eq] at h
  obtain ⟨⟨⟨⟨⟨⟨⟨⟨⟨h0, h1⟩, h2⟩, h3⟩, h4⟩, h5⟩, h6⟩, h7⟩, h8⟩, h9⟩ := h
  obtain rfl : c4 = 45 := by rw [← UInt8.toNat_inj]; exact h4
  obtain rfl : c7 = 45 := by rw [← UInt8.toNat_inj]; exact h7
  exact ⟨c0, c1, c2, c3, c5, c6, c8, c9, t, rfl, h0, h1, h2, h3, h5, h6, h8, h9⟩
/-- The day that is read, by the text of a date. -/
theorem datV_text {l : List UInt8} (h : dayQ l = true) {day : Nat} : datV l = some day ↔ DText (l.take 10) day := by
  obtain ⟨c0, c1, c2, c3, c5, c6, c8, c9, t, rfl, h0, h1, h2, h3, h5, h6, h8, h9⟩ := dayQ_ten h
  have dg : ∀ c : UInt8, dgQ c = true → 48 ≤ c.toNat ∧ c.toNat ≤ 57 := fun c hc => by unfold dgQ at hc; simpa using hc
  have f1 : figB (numV [c0, c1, c2, c3]) 4 = [c0, c1, c2, c3] := figB_numV [c0, c1, c2, c3] (by intro c hc; simp at hc; rcases hc with rfl | rfl | rfl | rfl <;> exact dg _ ‹_›)
  have f2 : figB (numV [c5, c6]) 2 = [c5, c6] := figB_numV [c5, c6] (by intro c hc; simp at hc; rcases hc with rfl | rfl <;> exact dg _ ‹_›)
  have f3 : figB (numV [c8, c9]) 2 = [c8, c9] := figB_numV [c8, c9] (by intro c hc; simp at hc; rcases hc with rfl | rfl <;> exact dg _ ‹_›)
  have ht : (c0 :: c1 :: c2 :: c3 :: 45 :: c5 :: c6 :: 45 :: c8 :: c9 :: t).take 10 = dateB (numV [c0, c1, c2, c3]) (numV [c5, c6]) (numV [c8, c9]) := by
    unfold dateB; rw [f1, f2, f3]; rfl
  constructor
  · intro hv
    unfold datV at hv
    dsimp only at hv
    split at hv
    · rename_i hc
      obtain ⟨k1, k2, k3, k4, k5, k6⟩ := hc
      injection hv with hv
      change yd (numV [c0, c1, c2, c3]) + mdR (numV [c0, c1, c2, c3]) (numV [c5, c6] - 1) + numV [c8, c9] - 1 = day at hv
      change 1 ≤ numV [c8, c9] at k4
      change yd (numV [c0, c1, c2, c3]) + mdR (numV [c0, c1, c2, c3]) (numV [c5, c6] - 1) + numV [c8, c9] ≤ 100000 at k6
      have k7 : yd (numV [c0, c1, c2, c3]) + mdR (numV [c0, c1, c2, c3]) (numV [c5, c6] - 1) + numV [c8, c9] = day + 1 := by omega
      exact ⟨by omega, _, _, _, ⟨k1, k2, k3, k4, k5, k7⟩, ht⟩
    · cases hv
  · rintro ⟨hd, y, m, d, hD, e⟩
    obtain ⟨hy, hdd⟩ := hD.small hd
    have hD' := hD
    obtain ⟨k1, k2, k3, k4, k5, k6⟩ := hD
    have l4 : figB y 4 = [UInt8.ofNat (48 + y / 10 / 10 / 10 % 10), UInt8.ofNat (48 + y / 10 / 10 % 10), UInt8.ofNat (48 + y / 10 % 10), UInt8.ofNat (48 + y % 10)] := rfl
    have l2 : figB m 2 = [UInt8.ofNat (48 + m / 10 % 10), UInt8.ofNat (48 + m % 10)] := rfl
    have l3 : figB d 2 = [UInt8.ofNat (48 + d / 10 % 10), UInt8.ofNat (48 + d % 10)] := rfl
    have t1 : (dateB y m d).take 4 = figB y 4 := by unfold dateB; rw [l4, l2, l3]; rfl
    have t2 : ((dateB y m d).drop 5).take 2 = figB m 2 := by unfold dateB; rw [l4, l2, l3]; rfl
    have t3 : ((dateB y m d).drop 8).take 2 = figB d 2 := by unfold dateB; rw [l4, l2, l3]; rfl
    have u1 := congrArg (List.take 4) e
    have u2 := congrArg (fun q => (List.drop 5 q).take 2) e
    have u3 := congrArg (fun q => (List.drop 8 q).take 2) e
    rw [t1] at u1
    change _ = ((dateB y m d).drop 5).take 2 at u2
    change _ = ((dateB y m d).drop 8).take 2 at u3
    rw [t2] at u2
    rw [t3] at u3
    unfold datV
    dsimp only
    have v1 : (c0 :: c1 :: c2 :: c3 :: 45 :: c5 :: c6 :: 45 :: c8 :: c9 :: t).take 4 = figB y 4 := u1
    have v2 : ((c0 :: c1 :: c2 :: c3 :: 45 :: c5 :: c6 :: 45 :: c8 :: c9 :: t).drop 5).take 2 = figB m 2 := u2
    have v3 : ((c0 :: c1 :: c2 :: c3 :: 45 :: c5 :: c6 :: 45 :: c8 :: c9 :: t).drop 8).take 2 = figB d 2 := u3
    rw [v1, v2, v3, numV_figB, numV_figB, numV_figB, Nat.mod_eq_of_lt (show y < 10 ^ 4 by omega), Nat.mod_eq_of_lt (show m < 10 ^ 2 by omega), Nat.mod_eq_of_lt (show d < 10 ^ 2 by omega), if_pos ⟨k1, k2, k3, k4, k5, by omega⟩]
    congr 1; omega

theorem lexL_y {off : Nat} {l : List UInt8} (k n : Nat) (t : Tk) (R : LexR) (hs : skS false l = k) (h : k < l.length) (ho : oneL (l.drop k) = .yes t n) (hR : lexL (off + k + n) (l.drop (k + n)) = R) :
    lexL off l = pre1 { t with place := ((off + k : Nat) : Int) } R := by
  subst hs; rw [lexL_yes h ho, hR]
theorem lexL_n {off : Nat} {l : List UInt8} (k : Nat) (e : Int) (hs : skS false l = k) (h : k < l.length) (ho : oneL (l.drop k) = .no e) : lexL off l = .no (off + k) e := by
  subst hs; rw [lexL_no h ho]
theorem txtZ_of {l : List UInt8} {z : Int} (h : rdZ l = some z) : txtZ z = l := (rdZ_some h).symm
def wrdT (s : List UInt8) (p : Int) : Tk := ⟨1, bsL s, bsL [], 0, p⟩
def numT (s : List UInt8) (p : Int) : Tk := ⟨3, bsL [], bsL s, 0, p⟩
def mrkT (s : List UInt8) (p : Int) : Tk := ⟨5, bsL s, bsL [], 0, p⟩
def quoT (s : List UInt8) (p : Int) : Tk := ⟨2, bsL s, bsL [], 0, p⟩
def dayT (d : Int) (p : Int) : Tk := ⟨4, bsL [], bsL [], d, p⟩
theorem ratOf_25 : ratOf false [49, 50] 46 [53, 48] = [50, 53, 47, 50] := by
  unfold ratOf
  show ratT (ratN (((1250 : Nat) : Int)) ((100 : Nat) : Int)) (ratD (((1250 : Nat) : Int)) ((100 : Nat) : Int)) = _
  rw [show ratN (((1250 : Nat) : Int)) ((100 : Nat) : Int) = 25 from by decide, show ratD (((1250 : Nat) : Int)) ((100 : Nat) : Int) = 2 from by decide]
  unfold ratT
  rw [if_neg (by decide), txtZ_of (l := [50, 53]) (by decide), txtZ_of (l := [50]) (by decide)]
  rfl

theorem ratOf_3 : ratOf false [51] 0 [] = [51] := by
  unfold ratOf
  show ratT (ratN (((3 : Nat) : Int)) ((1 : Nat) : Int)) (ratD (((3 : Nat) : Int)) ((1 : Nat) : Int)) = _
  rw [show ratN (((3 : Nat) : Int)) ((1 : Nat) : Int) = 3 from by decide, show ratD (((3 : Nat) : Int)) ((1 : Nat) : Int) = 1 from by decide]
  unfold ratT
  rw [if_pos rfl, txtZ_of (l := [51]) (by decide)]

theorem ratOf_0n : ratOf true [48] 0 [] = [48] := by
  unfold ratOf
  show ratT (ratN (-(((0 : Nat)) : Int)) ((1 : Nat) : Int)) (ratD (-(((0 : Nat)) : Int)) ((1 : Nat) : Int)) = _
  rw [show ratN (-(((0 : Nat)) : Int)) ((1 : Nat) : Int) = 0 from by decide, show ratD (-(((0 : Nat)) : Int)) ((1 : Nat) : Int) = 1 from by decide]
  unfold ratT
  rw [if_pos rfl, txtZ_of (l := [48]) (by decide)]

theorem ratOf_0 : ratOf false [48] 0 [] = [48] := by
  unfold ratOf
  show ratT (ratN (((0 : Nat) : Int)) ((1 : Nat) : Int)) (ratD (((0 : Nat) : Int)) ((1 : Nat) : Int)) = _
  rw [show ratN (((0 : Nat) : Int)) ((1 : Nat) : Int) = 0 from by decide, show ratD (((0 : Nat) : Int)) ((1 : Nat) : Int) = 1 from by decide]
  unfold ratT
  rw [if_pos rfl, txtZ_of (l := [48]) (by decide)]

theorem ratOf_32 : ratOf true [54] 47 [52] = [45, 51, 47, 50] := by
  unfold ratOf
  show ratT (ratN (-(((6 : Nat)) : Int)) ((4 : Nat) : Int)) (ratD (-(((6 : Nat)) : Int)) ((4 : Nat) : Int)) = _
  rw [show ratN (-(((6 : Nat)) : Int)) ((4 : Nat) : Int) = (-3) from by decide, show ratD (-(((6 : Nat)) : Int)) ((4 : Nat) : Int) = 2 from by decide]
  unfold ratT
  rw [if_neg (by decide), txtZ_of (l := [45, 51]) (by decide), txtZ_of (l := [50]) (by decide)]
  rfl

theorem ratOf_2n : ratOf true [50] 0 [] = [45, 50] := by
  unfold ratOf
  show ratT (ratN (-(((2 : Nat)) : Int)) ((1 : Nat) : Int)) (ratD (-(((2 : Nat)) : Int)) ((1 : Nat) : Int)) = _
  rw [show ratN (-(((2 : Nat)) : Int)) ((1 : Nat) : Int) = (-2) from by decide, show ratD (-(((2 : Nat)) : Int)) ((1 : Nat) : Int) = 1 from by decide]
  unfold ratT
  rw [if_pos rfl, txtZ_of (l := [45, 50]) (by decide)]

def al1 : List UInt8 := [112, 97, 121, 32, 49, 50, 46, 53, 48, 32, 69, 85, 82]
theorem lex_al1 : lexL 0 al1 = .yes [wrdT [112, 97, 121] 0, numT [50, 53, 47, 50] 4, wrdT [69, 85, 82] 10] := by
  refine lexL_y 0 3 (wrdT [112, 97, 121] 0) (.yes _) rfl (by decide) rfl ?_
  refine lexL_y 1 5 (numT [50, 53, 47, 50] 0) (.yes _) rfl (by decide) ?_ ?_
  · rw [← ratOf_25]; rfl
  refine lexL_y 1 3 (wrdT [69, 85, 82] 0) (.yes _) rfl (by decide) rfl ?_
  exact lexL_end rfl

def al2 : List UInt8 := [83, 80, 88, 64, 50, 48, 50, 54, 45, 49, 49, 45, 49, 54, 32, 45, 32, 51]
theorem lex_al2 : lexL 0 al2 = .yes [wrdT [83, 80, 88] 0, mrkT [64] 3, dayT 46340 4, mrkT [45] 15, numT [51] 17] := by
  refine lexL_y 0 3 (wrdT [83, 80, 88] 0) (.yes _) rfl (by decide) rfl ?_
  refine lexL_y 0 1 (mrkT [64] 0) (.yes _) rfl (by decide) rfl ?_
  refine lexL_y 0 10 (dayT 46340 0) (.yes _) rfl (by decide) rfl ?_
  refine lexL_y 1 1 (mrkT [45] 0) (.yes _) rfl (by decide) rfl ?_
  refine lexL_y 1 1 (numT [51] 0) (.yes _) rfl (by decide) ?_ ?_
  · rw [← ratOf_3]; rfl
  exact lexL_end rfl

def al3 : List UInt8 := [97, 32, 34, 98, 34, 32, 35, 32, 99]
theorem lex_al3 : lexL 0 al3 = .yes [wrdT [97] 0, quoT [98] 2] := by
  refine lexL_y 0 1 (wrdT [97] 0) (.yes _) rfl (by decide) rfl ?_
  refine lexL_y 1 3 (quoT [98] 0) (.yes _) rfl (by decide) rfl ?_
  exact lexL_end rfl

def al4 : List UInt8 := [50, 45, 51]
theorem lex_al4 : lexL 0 al4 = .no 0 12 := by
  exact lexL_n 0 12 rfl (by decide) rfl

def al5 : List UInt8 := [49, 47, 48, 50]
theorem lex_al5 : lexL 0 al5 = .no 0 12 := by
  exact lexL_n 0 12 rfl (by decide) rfl

def nm0 : List UInt8 := [49, 46]
theorem lex_nm0 : lexL 0 nm0 = .no 0 12 := by
  exact lexL_n 0 12 rfl (by decide) rfl

def nm1 : List UInt8 := [48, 49]
theorem lex_nm1 : lexL 0 nm1 = .no 0 12 := by
  exact lexL_n 0 12 rfl (by decide) rfl

def nm2 : List UInt8 := [97, 46]
theorem lex_nm2 : lexL 0 nm2 = .no 1 12 := by
  refine lexL_y 0 1 (wrdT [97] 0) (.no 1 12) rfl (by decide) rfl ?_
  exact lexL_n 0 12 rfl (by decide) rfl

def nm3 : List UInt8 := [40, 49, 97, 41]
theorem lex_nm3 : lexL 0 nm3 = .no 1 12 := by
  refine lexL_y 0 1 (mrkT [40] 0) (.no 1 12) rfl (by decide) rfl ?_
  exact lexL_n 0 12 rfl (by decide) rfl

def nm4 : List UInt8 := [34, 97]
theorem lex_nm4 : lexL 0 nm4 = .no 0 12 := by
  exact lexL_n 0 12 rfl (by decide) rfl

def nm5 : List UInt8 := [34, 34]
theorem lex_nm5 : lexL 0 nm5 = .no 0 12 := by
  exact lexL_n 0 12 rfl (by decide) rfl

def nm6 : List UInt8 := [32, 34, 49, 34]
theorem lex_nm6 : lexL 0 nm6 = .no 1 12 := by
  exact lexL_n 1 12 rfl (by decide) rfl

def nm7 : List UInt8 := [120, 32, 97, 98, 99, 100, 101, 102, 103, 104, 105, 106, 107, 108, 109, 110, 111, 112, 113, 114, 115, 116, 117, 118, 119, 120, 121, 122, 97, 98, 99, 100, 101, 102, 103, 104, 105, 106, 107, 108, 109, 110, 111]
theorem lex_nm7 : lexL 0 nm7 = .no 2 12 := by
  refine lexL_y 0 1 (wrdT [120] 0) (.no 2 12) rfl (by decide) rfl ?_
  exact lexL_n 1 12 rfl (by decide) rfl

def nm8 : List UInt8 := [49, 47, 48]
theorem lex_nm8 : lexL 0 nm8 = .no 0 12 := by
  exact lexL_n 0 12 rfl (by decide) rfl

def nm9 : List UInt8 := [51, 34, 120, 34]
theorem lex_nm9 : lexL 0 nm9 = .no 0 12 := by
  exact lexL_n 0 12 rfl (by decide) rfl

def nm10 : List UInt8 := [33]
theorem lex_nm10 : lexL 0 nm10 = .no 0 12 := by
  exact lexL_n 0 12 rfl (by decide) rfl

def nm11 : List UInt8 := [50, 48, 50, 54, 45, 48, 50, 45, 51, 48]
theorem lex_nm11 : lexL 0 nm11 = .no 0 40 := by
  exact lexL_n 0 40 rfl (by decide) rfl

def nm12 : List UInt8 := [50, 48, 50, 54, 45, 49, 49, 45, 49, 54, 120]
theorem lex_nm12 : lexL 0 nm12 = .no 0 12 := by
  exact lexL_n 0 12 rfl (by decide) rfl

def nm13 : List UInt8 := [50, 48, 50, 54, 45, 49, 49, 45, 49]
theorem lex_nm13 : lexL 0 nm13 = .no 0 12 := by
  exact lexL_n 0 12 rfl (by decide) rfl

def nm14 : List UInt8 := [49, 56, 57, 57, 45, 49, 50, 45, 51, 49]
theorem lex_nm14 : lexL 0 nm14 = .no 0 40 := by
  exact lexL_n 0 40 rfl (by decide) rfl

def nmb : List UInt8 := [45, 48, 32, 45, 54, 47, 52, 32, 48, 32, 97, 45, 50, 32, 45, 50]
theorem lex_nmb : lexL 0 nmb = .yes [numT [48] 0, numT [45, 51, 47, 50] 3, numT [48] 8, wrdT [97, 45, 50] 10, numT [45, 50] 14] := by
  refine lexL_y 0 2 (numT [48] 0) (.yes _) rfl (by decide) ?_ ?_
  · rw [← ratOf_0n]; rfl
  refine lexL_y 1 4 (numT [45, 51, 47, 50] 0) (.yes _) rfl (by decide) ?_ ?_
  · rw [← ratOf_32]; rfl
  refine lexL_y 1 1 (numT [48] 0) (.yes _) rfl (by decide) ?_ ?_
  · rw [← ratOf_0]; rfl
  refine lexL_y 1 3 (wrdT [97, 45, 50] 0) (.yes _) rfl (by decide) rfl ?_
  refine lexL_y 1 2 (numT [45, 50] 0) (.yes _) rfl (by decide) ?_ ?_
  · rw [← ratOf_2n]; rfl
  exact lexL_end rfl

def nma : List UInt8 := [45, 48, 32, 45, 54, 47, 52, 32, 48, 48, 45, 120, 32, 45, 50]
theorem lex_nma : lexL 0 nma = .no 8 12 := by
  refine lexL_y 0 2 (numT [48] 0) (.no 8 12) rfl (by decide) ?_ ?_
  · rw [← ratOf_0n]; rfl
  refine lexL_y 1 4 (numT [45, 51, 47, 50] 0) (.no 8 12) rfl (by decide) ?_ ?_
  · rw [← ratOf_32]; rfl
  exact lexL_n 1 12 rfl (by decide) rfl

theorem lo_dgQ {l : List UInt8} (h : ∀ c ∈ l, 49 ≤ c.toNat ∧ c.toNat ≤ 57) : ∀ c ∈ l, dgQ c = true := fun c hc => by
  have := h c hc; unfold dgQ; simp; omega
theorem lo_noday {l : List UInt8} (h : ∀ c ∈ l, dgQ c = true) (X : List UInt8) (h5 : 5 ≤ l.length) : ¬ dayQ (l ++ X) = true := by
  intro hd
  obtain ⟨c0, c1, c2, c3, c5, c6, c8, c9, t, e, _⟩ := dayQ_ten hd
  have : (l ++ X)[4]? = some 45 := by rw [e]; rfl
  rw [List.getElem?_append_left (by omega)] at this
  exact absurd (h 45 (List.mem_of_getElem? this)) (by decide)
theorem lo_big {l : List UInt8} (h : ∀ c ∈ l, 49 ≤ c.toNat ∧ c.toNat ≤ 57) (hl : 1000 < l.length) : oneL l = .no 14 := by
  have hd := lo_dgQ h
  have hy := lo_noday hd [] (by omega)
  rw [List.append_nil] at hy
  cases l with
  | nil => simp at hl
  | cons c r =>
    have hc := h c (List.mem_cons_self ..)
    have h45 : numS (c :: r) = 0 := by unfold numS; rw [if_neg]; simp; exact dgQ_45 (hd c (List.mem_cons_self ..))
    rw [oneL_num hy (.inl (hd c (List.mem_cons_self ..)))]
    unfold numK
    dsimp only
    rw [h45, List.drop_zero, spn_whole hd, Nat.zero_add, List.drop_length, if_neg (by decide), List.take_length]
    unfold numO
    rw [if_neg, if_pos (.inl hl)]
    rintro (⟨_, a⟩ | a | ⟨a, _⟩)
    · simp at a; rw [a] at hc; exact absurd hc.1 (by decide)
    · cases a
    · cases a
theorem lo_point {l : List UInt8} (h : ∀ c ∈ l, 49 ≤ c.toNat ∧ c.toNat ≤ 57) (hl : l.length = 1000) : oneL (48 :: 46 :: l) = .no 14 := by
  have hd := lo_dgQ h
  have hy : ¬ dayQ (48 :: 46 :: l) = true := by
    intro hd
    obtain ⟨c0, c1, c2, c3, c5, c6, c8, c9, t, e, _, h1, _⟩ := dayQ_ten hd
    injection e with _ e; injection e with e _
    subst e; exact absurd h1 (by decide)
  cases l with
  | nil => simp at hl
  | cons c r =>
    have hs : numS (48 :: 46 :: c :: r) = 0 := rfl
    have ha : spn dgQ (48 :: 46 :: c :: r) = 1 := rfl
    have hf : frcQ (46 :: c :: r) = true := by
      show (decide ((46 : UInt8).toNat = 46 ∨ (46 : UInt8).toNat = 47) && dgQ c) = true
      rw [hd c (List.mem_cons_self ..)]; rfl
    rw [oneL_num hy (.inl (by decide))]
    unfold numK
    dsimp only
    rw [hs, List.drop_zero, ha, Nat.zero_add, List.drop_one, List.tail_cons, if_pos hf, List.drop_one, List.tail_cons, spn_whole hd, List.take_length]
    have he : (46 :: c :: r : List UInt8).drop (1 + (c :: r).length) = [] := by
      rw [show 1 + (c :: r).length = (46 :: c :: r : List UInt8).length by simp; omega, List.drop_length]
    rw [he]
    unfold numO
    rw [if_neg, if_pos (.inr (.inl ⟨rfl, by rw [hl]; show 1000 < 1 + 1000; decide⟩))]
    rintro (⟨a, _⟩ | a | ⟨a, _⟩)
    · simp at a
    · cases a
    · cases a
theorem lo_slash {l : List UInt8} (h : ∀ c ∈ l, 49 ≤ c.toNat ∧ c.toNat ≤ 57) (hl : 1000 < l.length) : oneL (49 :: 47 :: l) = .no 14 := by
  have hd := lo_dgQ h
  have hy : ¬ dayQ (49 :: 47 :: l) = true := by
    intro hd
    obtain ⟨c0, c1, c2, c3, c5, c6, c8, c9, t, e, _, h1, _⟩ := dayQ_ten hd
    injection e with _ e; injection e with e _
    subst e; exact absurd h1 (by decide)
  cases l with
  | nil => simp at hl
  | cons c r =>
    have hc := h c (List.mem_cons_self ..)
    have hs : numS (49 :: 47 :: c :: r) = 0 := rfl
    have ha : spn dgQ (49 :: 47 :: c :: r) = 1 := rfl
    have hf : frcQ (47 :: c :: r) = true := by
      show (decide ((47 : UInt8).toNat = 46 ∨ (47 : UInt8).toNat = 47) && dgQ c) = true
      rw [hd c (List.mem_cons_self ..)]; rfl
    rw [oneL_num hy (.inl (by decide))]
    unfold numK
    dsimp only
    rw [hs, List.drop_zero, ha, Nat.zero_add, List.drop_one, List.tail_cons, if_pos hf, List.drop_one, List.tail_cons, spn_whole hd, List.take_length]
    have he : (47 :: c :: r : List UInt8).drop (1 + (c :: r).length) = [] := by
      rw [show 1 + (c :: r).length = (47 :: c :: r : List UInt8).length by simp; omega, List.drop_length]
    rw [he]
    unfold numO
    rw [if_neg, if_pos (.inr (.inr hl))]
    rintro (⟨a, _⟩ | a | ⟨_, a⟩)
    · simp at a
    · cases a
    · simp at a; rw [a] at hc; exact absurd hc.1 (by decide)
theorem lo_rat {l : List UInt8} (h : ∀ c ∈ l, 49 ≤ c.toNat ∧ c.toNat ≤ 57) (hl : l ≠ []) : ratOf false l 0 [] = l := by
  have hcan : CanN l := ⟨hl, fun c hc => by have := h c hc; omega, fun a => by
    cases l with
    | nil => exact absurd rfl hl
    | cons c r =>
      have hc := h c (List.mem_cons_self ..)
      simp at a; rw [a] at hc; exact absurd hc.1 (by decide)⟩
  have e := txtN_undig l hcan
  unfold ratOf
  dsimp only
  rw [if_neg (show ¬ (0 : Nat) = 46 by decide), if_neg (show ¬ (0 : Nat) = 46 by decide), if_neg (show ¬ (0 : Nat) = 47 by decide), if_neg (show ¬ false = true by decide), numV_undig]
  obtain ⟨N, hN⟩ : ∃ N, N = dval (undig l) := ⟨_, rfl⟩
  rw [← hN] at e ⊢
  have e1 : ratN (N : Int) ((1 : Nat) : Int) = (N : Int) := by unfold ratN; simp
  have e2 : ratD (N : Int) ((1 : Nat) : Int) = 1 := by unfold ratD; simp
  rw [e1, e2]
  unfold ratT
  rw [if_pos rfl]
  unfold txtZ
  rw [if_neg (by omega), Int.natAbs_natCast, e]
def nm40 : List UInt8 := [97, 98, 99, 100, 101, 102, 103, 104, 105, 106, 107, 108, 109, 110, 111, 112, 113, 114, 115, 116, 117, 118, 119, 120, 121, 122, 97, 98, 99, 100, 101, 102, 103, 104, 105, 106, 107, 108, 109, 110]
theorem lo_three {l : List UInt8} (h : ∀ c ∈ l, 49 ≤ c.toNat ∧ c.toNat ≤ 57) (hl : l.length = 1000) : lexL 0 (l ++ 59 :: nm40) = .yes [numT l 0, mrkT [59] 1000, wrdT nm40 1001] := by
  have hd := lo_dgQ h
  have hne : l ≠ [] := by rintro rfl; simp at hl
  have hy := lo_noday hd (59 :: nm40) (by omega)
  have hr := lo_rat h hne
  obtain ⟨c, r, e⟩ : ∃ c r, l = c :: r := by cases l with | nil => exact absurd rfl hne | cons c r => exact ⟨c, r, rfl⟩
  have hc := h c (by rw [e]; exact List.mem_cons_self ..)
  have hdc : dgQ c = true := hd c (by rw [e]; exact List.mem_cons_self ..)
  have hhd : l.head? ≠ some 48 := by
    rw [e]; intro a; simp at a; rw [a] at hc; exact absurd hc.1 (by decide)
  have h45 : numS (l ++ 59 :: nm40) = 0 := by unfold numS; rw [if_neg]; rw [e]; simp; exact dgQ_45 hdc
  have hone : oneL (l ++ 59 :: nm40) = .yes (numT l 0) l.length := by
    have hw : oneL (l ++ 59 :: nm40) = numK (l ++ 59 :: nm40) := by
      rw [e] at hy ⊢
      exact oneL_num hy (.inl hdc)
    rw [hw]
    unfold numK
    dsimp only
    rw [h45, List.drop_zero, spn_app _ _ (by decide), spn_whole hd, Nat.zero_add, List.drop_left, if_neg (by decide), List.take_left]
    unfold numO
    rw [if_neg, if_neg]
    · unfold numT; rw [show decide ((0 : Nat) = 1) = false from rfl, hr]
    · rintro (a | ⟨a, _⟩ | a)
      · omega
      · cases a
      · simp at a
    · rintro (⟨_, a⟩ | a | ⟨a, _⟩)
      · exact hhd a
      · exact absurd a (by decide)
      · cases a
  have hs : skS false (l ++ 59 :: nm40) = 0 := by
    rw [e]; refine skS_tok ?_ ?_
    · unfold blQ; simp; omega
    · omega
  refine lexL_y 0 l.length (numT l 0) (.yes [mrkT [59] 1000, wrdT nm40 1001]) hs (by rw [List.length_append]; omega) hone ?_
  rw [Nat.zero_add, List.drop_left, hl]
  refine lexL_y 0 1 (mrkT [59] 0) (.yes _) rfl (by decide) rfl ?_
  refine lexL_y 0 40 (wrdT nm40 0) (.yes _) rfl (by decide) rfl ?_
  exact lexL_end rfl
theorem lexL_bad {l : List UInt8} {e : Int} (h : oneL l = .no e) (hs : skS false l = 0) (hl : l ≠ []) : lexL 0 l = .no 0 e := by
  exact lexL_n 0 e hs (List.length_pos_iff.2 hl) h

end Go.Proofs.YtnmiiimbjojcmaaGreatDoor
