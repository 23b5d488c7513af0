/-
  The program's fraction of two integers: Make. No condition. Canonical rationals; the program's Parts, made, keep. No condition.
-/
import Derived.Test.YtnmiiimbjojcmaaGreatDoorVr
import Derived.Test.YtnmiiimbjojcmaaGreatDoorVn
namespace Go.Proofs.YtnmiiimbjojcmaaGreatDoor
open Go.RowKit Go.Shelf

def QrB (W : World) (q r : ByteArray) (e : Ending) (w' : World) : Prop := e = .returned (.tuple #[.string q, .string r, .int .i64 0]) ∧ Below W.heap.size W w'
def StE (W : World) (q : ByteArray) (n : Int) (e : Ending) (w' : World) : Prop := e = .returned (.tuple #[.string q, .int .i64 n]) ∧ Below W.heap.size W w'
set_option maxHeartbeats 1000000 in
set_option maxRecDepth 100000 in
theorem make_bad (s t : ByteArray) (w : World) (hs : s.size ≤ 100000) (ht : t.size ≤ 100000) (h : bothZ s.data.toList t.data.toList ≠ 0) :
    Calls Tryz.prog 47 #[.string s, .string t] w (SEPost w [] (bothZ s.data.toList t.data.toList)) := by
  have hp := gcd_bad s t w hs ht h
  obtain ⟨E, hE⟩ : ∃ E, E = bothZ s.data.toList t.data.toList := ⟨_, rfl⟩
  rw [← hE] at hp h ⊢
  have HP := Lib.hid hp
  have t1 : (E != 0) = true := by simpa using h
  clear hp hE h
  go_enter Tryz.func47, Tryz.ntmps47
  go_wp2_with fail
  refine HP.out.mono ?_
  rintro e w1 ⟨rfl, b1⟩
  have B1 := Lib.hid b1
  clear b1
  go_wp2_with fail
  go_ret2
  exact ⟨rfl, B1.out⟩
set_option maxHeartbeats 1000000 in
set_option maxRecDepth 100000 in
theorem make_zero (s t g : ByteArray) (w : World) (t0 : (t.toList == [48]) = true) (HG : Hid (∀ W, Calls Tryz.prog 66 #[.string s, .string t] W (GPost W g))) :
    Calls Tryz.prog 47 #[.string s, .string t] w (SEPost w [] 16) := by
  go_enter Tryz.func47, Tryz.ntmps47
  go_wp2_with fail
  refine (HG.out _).mono ?_
  rintro e w1 ⟨rfl, b1⟩
  have B1 := Lib.hid b1
  clear b1
  go_wp2_with fail
  go_ret2
  exact ⟨rfl, B1.out⟩
set_option maxHeartbeats 2000000 in
set_option maxRecDepth 100000 in
theorem make_go (s t g g' n d r1 r2 : ByteArray) (neg one : Bool) (w : World) (h0 : 0 < t.size) (t0 : (t.toList == [48]) = false) (t1 : ((t[0].toNat : Int) == 45) = neg) (hg' : g' = if neg = true then ⟨#[45]⟩ ++ g else g)
    (HG : Hid (∀ W, Calls Tryz.prog 66 #[.string s, .string t] W (GPost W g)))
    (HN : Hid (∀ W, Calls Tryz.prog 67 #[.string s, .string g'] W (QrB W n r1)))
    (HD : Hid (∀ W, Calls Tryz.prog 67 #[.string t, .string g'] W (QrB W d r2)))
    (t2 : (d.toList == [49]) = one) (hl : n.size + d.size ≤ 1000000) (hgl : g.size ≤ 100000) :
    Calls Tryz.prog 47 #[.string s, .string t] w (StE w (if one = true then n else n ++ ⟨#[47]⟩ ++ d) 0) := by
  cases neg <;> cases one <;> simp only [if_true, Bool.false_eq_true, if_false] at hg' ⊢ <;> subst hg'
  all_goals
    go_enter Tryz.func47, Tryz.ntmps47
    go_wp2_with fail
    refine (HG.out _).mono ?_
    rintro e w1 ⟨rfl, b1⟩
    have B1 := Lib.hid b1
    clear b1
    go_wp2_with fail
    refine (HN.out _).mono ?_
    rintro e w2 ⟨rfl, b2⟩
    have B2 := Lib.hid (B1.out.trans (b2.mono B1.out.size))
    clear b2
    go_wp2_with fail
    refine (HD.out _).mono ?_
    rintro e w3 ⟨rfl, b3⟩
    have B3 := Lib.hid (B2.out.trans (b3.mono B2.out.size))
    clear b3
    go_wp2_with fail
    go_ret2
    exact ⟨rfl, B3.out⟩

/-- The numerator and the denominator in lowest terms. -/
def ratN (x y : Int) : Int := (if y < 0 then -x else x) / (Nat.gcd x.natAbs y.natAbs : Int)
def ratD (x y : Int) : Int := (y.natAbs : Int) / (Nat.gcd x.natAbs y.natAbs : Int)
def ratT (n d : Int) : List UInt8 := if d = 1 then txtZ n else txtZ n ++ 47 :: txtZ d
theorem bytes_app (a b : ByteArray) : (a ++ b).data.toList = a.data.toList ++ b.data.toList := by simp
theorem make_ok (s t : ByteArray) (x y : Int) (w : World) (hs : s.size ≤ 100000) (ht : t.size ≤ 100000) (hx : s.data.toList = txtZ x) (hy : t.data.toList = txtZ y) (bx : bigZ x = false) (byy : bigZ y = false) (h0 : y ≠ 0) :
    Calls Tryz.prog 47 #[.string s, .string t] w (SEPost w (ratT (ratN x y) (ratD x y)) 0) := by
  have hgp : 0 < Nat.gcd x.natAbs y.natAbs := Nat.gcd_pos_of_pos_right _ (by omega)
  have hgb : bigZ (Nat.gcd x.natAbs y.natAbs : Int) = false := by
    refine bigZ_small (x := y) ?_ byy
    simp only [Int.natAbs_natCast]
    exact Nat.gcd_le_right _ (by omega)
  have HG : Hid (∀ W, Calls Tryz.prog 66 #[.string s, .string t] W (GPost W ⟨(txtZ (Nat.gcd x.natAbs y.natAbs : Int)).toArray⟩)) := fun W => gcd_good s t x y W hs ht hx hy bx byy
  obtain ⟨G, hG⟩ : ∃ G, G = Nat.gcd x.natAbs y.natAbs := ⟨_, rfl⟩
  have hts : 0 < t.size := by
    rw [← data_len, hy]
    unfold txtZ
    split
    · simp
    · exact List.length_pos_iff.2 (txtN_ne _)
  have ht0 : (t.toList == [48]) = false := by
    rw [toList_data, hy, list_beq]
    intro h
    have : txtZ y = txtZ 0 := h
    exact h0 (txtZ_inj this)
  have hhead := data_head t hts
  rw [hy] at hhead
  have hneg : ((t[0].toNat : Int) == 45) = decide (y < 0) := by
    have hh := txtZ_head y
    rw [hhead] at hh
    rw [Bool.eq_iff_iff, beq_iff_eq, decide_eq_true_eq, ← hh]
    constructor
    · intro h; rw [u8_eq (c := t[0]) (n := 45) h (by omega)]; rfl
    · intro h; injection h with h; rw [h]; rfl
  unfold ratN ratD
  rw [← hG] at HG hgp hgb ⊢
  obtain ⟨g, hg⟩ : ∃ g : ByteArray, g = ⟨(txtZ (G : Int)).toArray⟩ := ⟨_, rfl⟩
  rw [← hg] at HG
  -- the divisor, its sign
  have key : ∀ z : Int, z = (if y < 0 then -(G : Int) else (G : Int)) → ∀ g' : ByteArray, g' = (if decide (y < 0) = true then ⟨#[45]⟩ ++ g else g) → g'.data.toList = txtZ z ∧ bigZ z = false ∧ z ≠ 0 ∧ g'.size ≤ 100000 := by
    intro z hz g' hg'
    have e1 : g'.data.toList = txtZ z := by
      rw [hg', hz, hg]
      by_cases hyn : y < 0
      · rw [if_pos (by simpa using hyn), if_pos hyn, bytes_app, txtZ_neg hgp, txtZ_pos]; rfl
      · rw [if_neg (by simpa using hyn), if_neg hyn]
    have e2 : bigZ z = false := by
      refine bigZ_small (x := (G : Int)) ?_ hgb
      rw [hz]; split <;> simp
    refine ⟨e1, e2, by rw [hz]; split <;> omega, ?_⟩
    rw [← data_len, e1]
    have := bigZ_false e2
    unfold txtZ
    split <;> simp [txtN_len] <;> omega
  obtain ⟨z, hz⟩ : ∃ z : Int, z = (if y < 0 then -(G : Int) else (G : Int)) := ⟨_, rfl⟩
  obtain ⟨g', hg'⟩ : ∃ g' : ByteArray, g' = (if decide (y < 0) = true then ⟨#[45]⟩ ++ g else g) := ⟨_, rfl⟩
  obtain ⟨k1, k2, k3, k4⟩ := key z hz g' hg'
  have hn := fun W => dmod_ok s g' x z W hs k4 hx k1 bx k2 k3
  have hd := fun W => dmod_ok t g' y z W ht k4 hy k1 byy k2 k3
  have e1 : x / z = (if y < 0 then -x else x) / (G : Int) := by
    rw [hz]; split
    · rw [Int.ediv_neg]
      have : (G : Int) ∣ x := by rw [hG]; exact Int.ofNat_dvd_left.2 (Nat.gcd_dvd_left _ _)
      rw [Int.neg_ediv_of_dvd this]
    · rfl
  have e2 : y / z = (y.natAbs : Int) / (G : Int) := by
    have : (G : Int) ∣ y := by rw [hG]; exact Int.ofNat_dvd_left.2 (Nat.gcd_dvd_right _ _)
    rw [hz]; split
    · rename_i h
      rw [Int.ediv_neg, ← Int.neg_ediv_of_dvd this, show -y = (y.natAbs : Int) by omega]
    · rename_i h
      rw [show (y.natAbs : Int) = y by omega]
  rw [e1] at hn
  rw [e2] at hd
  obtain ⟨N, hN⟩ : ∃ N, N = (if y < 0 then -x else x) / (G : Int) := ⟨_, rfl⟩
  obtain ⟨D, hD⟩ : ∃ D, D = (y.natAbs : Int) / (G : Int) := ⟨_, rfl⟩
  have bN : bigZ N = false := by
    refine bigZ_small (x := x) ?_ bx
    rw [hN]; refine Nat.le_trans (Int.natAbs_ediv_le_natAbs _ _) ?_
    split <;> simp
  have bD : bigZ D = false := by
    refine bigZ_small (x := y) ?_ byy
    rw [hD]; refine Nat.le_trans (Int.natAbs_ediv_le_natAbs _ _) ?_
    simp
  rw [← hN] at hn ⊢
  rw [← hD] at hd ⊢
  have len : ∀ z : Int, bigZ z = false → (txtZ z).length ≤ 1001 := fun z h => by
    have := bigZ_false h
    unfold txtZ
    split <;> simp [txtN_len] <;> omega
  have l1 := len N bN
  have l2 := len D bD
  have hone : ((⟨(txtZ D).toArray⟩ : ByteArray).toList == [49]) = decide (D = 1) := by
    rw [toList_data, Bool.eq_iff_iff, beq_iff_eq, decide_eq_true_eq]
    constructor
    · intro h; exact txtZ_inj (h.trans txtZ_1.symm)
    · intro h; rw [h]; exact txtZ_1
  have := make_go s t g g' ⟨(txtZ N).toArray⟩ ⟨(txtZ D).toArray⟩ _ _ _ _ w hts ht0 hneg hg' HG (Lib.hid hn) (Lib.hid hd) hone (by
    rw [← data_len, ← data_len]; simp; omega) (by rw [hg, ← data_len]; have := len _ hgb; simp; omega)
  refine this.mono fun e w' ⟨h1, h2⟩ => ⟨?_, h2⟩
  rw [h1]
  have e3 : (if decide (D = 1) = true then (⟨(txtZ N).toArray⟩ : ByteArray) else ⟨(txtZ N).toArray⟩ ++ ⟨#[47]⟩ ++ ⟨(txtZ D).toArray⟩) = ⟨(ratT N D).toArray⟩ := by
    apply Go.WideShapes.bytes_inj
    unfold ratT
    by_cases hd1 : D = 1
    · simp [hd1]
    · simp [hd1]
  rw [e3]


end Go.Proofs.YtnmiiimbjojcmaaGreatDoor

namespace Go.Proofs.YtnmiiimbjojcmaaGreatDoor
open Go.RowKit Go.Shelf

/-- A rational in lowest terms, of a size that is allowed. -/
def RatOK (n d : Int) : Prop := 0 < d ∧ Nat.gcd n.natAbs d.natAbs = 1 ∧ bigZ n = false ∧ bigZ d = false
theorem no47_txtN (n : Nat) : (47 : UInt8) ∉ txtN n := fun h => by
  have := txtN_dig n 47 h
  revert this; decide
theorem no47_txtZ (z : Int) : (47 : UInt8) ∉ txtZ z := fun h => by
  unfold txtZ at h
  split at h
  · rcases List.mem_cons.1 h with h | h
    · revert h; decide
    · exact no47_txtN _ h
  · exact no47_txtN _ h
theorem slN_no {l : List UInt8} (h : (47 : UInt8) ∉ l) : slN l = l.length := slN_none fun _ _ hj => h (List.mem_of_getElem? hj)
theorem slN_app {a b : List UInt8} (h : (47 : UInt8) ∉ a) : slN (a ++ 47 :: b) = a.length := by
  refine slN_at (by simp) (fun j hj hc => ?_) (by simp)
  rw [List.getElem?_append_left hj] at hc
  exact h (List.mem_of_getElem? hc)
theorem bigZ_nine {z : Int} (h : bigZ z = false) : chkZ (txtZ z) = 0 := by rw [chkZ_txtZ, h]; rfl
theorem chkR_ratT {n d : Int} (h : RatOK n d) : chkR (ratT n d) = 0 := by
  obtain ⟨h1, h2, h3, h4⟩ := h
  unfold ratT
  by_cases hd : d = 1
  · rw [if_pos hd, chkR_int (slN_no (no47_txtZ n)), bigZ_nine h3]
  · rw [if_neg hd, chkR_frac (k := (txtZ n).length) (slN_app (no47_txtZ n)) (by simp)]
    rw [List.take_left, show (txtZ n ++ 47 :: txtZ d).drop ((txtZ n).length + 1) = txtZ d by rw [← List.drop_drop, List.drop_left]; rfl]
    rw [chkF_some n d (by omega) (fun h => ?_) (fun h => ?_), h3, h4, if_neg (by simp), if_pos h2]
    · have : txtZ d = txtZ 0 := h
      have := txtZ_inj this; omega
    · exact hd (txtZ_inj (h.trans txtZ_1.symm))
theorem chkR_zero {l : List UInt8} (h : chkR l = 0) : ∃ n d, l = ratT n d ∧ RatOK n d := by
  by_cases hs : slN l < l.length
  · rw [chkR_frac rfl hs] at h
    have hsp := slN_spec hs
    have hl : l = l.take (slN l) ++ 47 :: l.drop (slN l + 1) := by
      have e := (List.take_append_drop (slN l) l).symm
      rw [List.drop_eq_getElem_cons hs] at e
      have : l[slN l] = 47 := by
        have := List.getElem?_eq_getElem hs
        rw [hsp.1] at this
        exact (Option.some.inj this).symm
      rwa [this] at e
    obtain ⟨A, hA⟩ : ∃ A, A = l.take (slN l) := ⟨_, rfl⟩
    obtain ⟨B, hB⟩ : ∃ B, B = l.drop (slN l + 1) := ⟨_, rfl⟩
    rw [← hA, ← hB] at h hl
    have hne : ¬ (chkZ A = 12 ∨ chkZ B = 12 ∨ B.head? = some 45 ∨ B = [48] ∨ B = [49]) := fun hc => by
      rw [chkF_12 hc] at h; cases h
    rcases chkZ_cases A with ⟨hx, _⟩ | ⟨x, hx1, hx2, hx3⟩
    · exact absurd (.inl hx) hne
    rcases chkZ_cases B with ⟨hy, _⟩ | ⟨y, hy1, hy2, hy3⟩
    · exact absurd (.inr (.inl hy)) hne
    have hyn : ¬ y < 0 := fun hn => hne (.inr (.inr (.inl (by rw [hy2]; exact (txtZ_head y).2 hn))))
    have hy0 : txtZ y ≠ [48] := fun hc => hne (.inr (.inr (.inr (.inl (hy2.trans hc)))))
    have hy11 : txtZ y ≠ [49] := fun hc => hne (.inr (.inr (.inr (.inr (hy2.trans hc)))))
    rw [hx2, hy2, chkF_some x y (by omega) hy0 hy11] at h
    by_cases hb : bigZ x = true ∨ bigZ y = true
    · rw [if_pos hb] at h; cases h
    · rw [if_neg hb] at h
      have hg : Nat.gcd x.natAbs y.natAbs = 1 := by
        by_cases hg : Nat.gcd x.natAbs y.natAbs = 1
        · exact hg
        · rw [if_neg hg] at h; cases h
      have hy1' : y ≠ 1 := fun e => hy11 (by rw [e]; exact txtZ_1)
      have hy0' : y ≠ 0 := fun e => hy0 (by rw [e]; rfl)
      refine ⟨x, y, by unfold ratT; rw [if_neg hy1', hl, hx2, hy2], by omega, hg, ?_, ?_⟩
      · cases e : bigZ x
        · rfl
        · exact absurd (.inl e) hb
      · cases e : bigZ y
        · rfl
        · exact absurd (.inr e) hb
  · have hs : slN l = l.length := by have := slN_le l; omega
    rw [chkR_int hs] at h
    obtain ⟨z, h1, h2⟩ := chkZ_ok h
    refine ⟨z, 1, by unfold ratT; rw [if_pos rfl, h1], by decide, by simp, h2, bigZ_one⟩

/-- What Parts hands back. -/
def P3 (W : World) (n d : ByteArray) (f : Int) (e : Ending) (w' : World) : Prop := e = .returned (.tuple #[.string n, .string d, .int .i64 f]) ∧ Below W.heap.size W w'
end Go.Proofs.YtnmiiimbjojcmaaGreatDoor
