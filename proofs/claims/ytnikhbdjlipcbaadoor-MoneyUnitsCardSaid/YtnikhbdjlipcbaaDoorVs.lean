/-
  The program's fraction of two integers: Make. No condition. Canonical rationals; the program's Parts, made, keep. No condition. The program's pair of rationals: keep, made. No condition. The program's pair of rationals: both. No condition.
-/
import Derived.Test.YtnikhbdjlipcbaaDoorVr
import Derived.Test.YtnikhbdjlipcbaaDoorVn
import Derived.Deep.RegionHeld3
namespace Go.Proofs.YtnikhbdjlipcbaaDoor
open Go.RowKit Go.Shelf

def QrB (W : World) (q r : ByteArray) (e : Ending) (w' : World) : Prop := e = .returned (.tuple #[.string q, .string r, .int .i64 0]) ∧ Below W.heap.size W w'
def StE (W : World) (q : ByteArray) (n : Int) (e : Ending) (w' : World) : Prop := e = .returned (.tuple #[.string q, .int .i64 n]) ∧ Below W.heap.size W w'
set_option maxHeartbeats 1000000 in
set_option maxRecDepth 100000 in
theorem make_bad (s t : ByteArray) (w : World) (hs : s.size ≤ 100000) (ht : t.size ≤ 100000) (h : bothZ s.data.toList t.data.toList ≠ 0) :
    Calls Tryd.prog 71 #[.string s, .string t] w (SEPost w [] (bothZ s.data.toList t.data.toList)) := by
  have hp := gcd_bad s t w hs ht h
  obtain ⟨E, hE⟩ : ∃ E, E = bothZ s.data.toList t.data.toList := ⟨_, rfl⟩
  rw [← hE] at hp h ⊢
  have HP := Lib.hid hp
  have t1 : (E != 0) = true := by simpa using h
  clear hp hE h
  go_enter Tryd.func71, Tryd.ntmps71
  go_wp2_with fail
  refine HP.out.mono ?_
  rintro e w1 ⟨rfl, b1⟩
  have B1 := Lib.hid b1
  clear b1
  go_wp2_with fail
  go_ret2
  exact ⟨rfl, B1.out⟩
set_option maxHeartbeats 1000000 in
set_option maxRecDepth 100000 in
theorem make_zero (s t g : ByteArray) (w : World) (t0 : (t.toList == [48]) = true) (HG : Hid (∀ W, Calls Tryd.prog 46 #[.string s, .string t] W (GPost W g))) :
    Calls Tryd.prog 71 #[.string s, .string t] w (SEPost w [] 16) := by
  go_enter Tryd.func71, Tryd.ntmps71
  go_wp2_with fail
  refine (HG.out _).mono ?_
  rintro e w1 ⟨rfl, b1⟩
  have B1 := Lib.hid b1
  clear b1
  go_wp2_with fail
  go_ret2
  exact ⟨rfl, B1.out⟩
set_option maxHeartbeats 2000000 in
set_option maxRecDepth 100000 in
theorem make_go (s t g g' n d r1 r2 : ByteArray) (neg one : Bool) (w : World) (h0 : 0 < t.size) (t0 : (t.toList == [48]) = false) (t1 : ((t[0].toNat : Int) == 45) = neg) (hg' : g' = if neg = true then ⟨#[45]⟩ ++ g else g)
    (HG : Hid (∀ W, Calls Tryd.prog 46 #[.string s, .string t] W (GPost W g)))
    (HN : Hid (∀ W, Calls Tryd.prog 53 #[.string s, .string g'] W (QrB W n r1)))
    (HD : Hid (∀ W, Calls Tryd.prog 53 #[.string t, .string g'] W (QrB W d r2)))
    (t2 : (d.toList == [49]) = one) (hl : n.size + d.size ≤ 1000000) (hgl : g.size ≤ 100000) :
    Calls Tryd.prog 71 #[.string s, .string t] w (StE w (if one = true then n else n ++ ⟨#[47]⟩ ++ d) 0) := by
  cases neg <;> cases one <;> simp only [if_true, Bool.false_eq_true, if_false] at hg' ⊢ <;> subst hg'
  all_goals
    go_enter Tryd.func71, Tryd.ntmps71
    go_wp2_with fail
    refine (HG.out _).mono ?_
    rintro e w1 ⟨rfl, b1⟩
    have B1 := Lib.hid b1
    clear b1
    go_wp2_with fail
    refine (HN.out _).mono ?_
    rintro e w2 ⟨rfl, b2⟩
    have B2 := Lib.hid (B1.out.trans (b2.mono B1.out.size))
    clear b2
    go_wp2_with fail
    refine (HD.out _).mono ?_
    rintro e w3 ⟨rfl, b3⟩
    have B3 := Lib.hid (B2.out.trans (b3.mono B2.out.size))
    clear b3
    go_wp2_with fail
    go_ret2
    exact ⟨rfl, B3.out⟩

/-- The numerator and the denominator in lowest terms. -/
def ratN (x y : Int) : Int := (if y < 0 then -x else x) / (Nat.gcd x.natAbs y.natAbs : Int)
def ratD (x y : Int) : Int := (y.natAbs : Int) / (Nat.gcd x.natAbs y.natAbs : Int)
def ratT (n d : Int) : List UInt8 := if d = 1 then txtZ n else txtZ n ++ 47 :: txtZ d
theorem bytes_app (a b : ByteArray) : (a ++ b).data.toList = a.data.toList ++ b.data.toList := by simp
theorem make_ok (s t : ByteArray) (x y : Int) (w : World) (hs : s.size ≤ 100000) (ht : t.size ≤ 100000) (hx : s.data.toList = txtZ x) (hy : t.data.toList = txtZ y) (bx : bigZ x = false) (byy : bigZ y = false) (h0 : y ≠ 0) :
    Calls Tryd.prog 71 #[.string s, .string t] w (SEPost w (ratT (ratN x y) (ratD x y)) 0) := by
  have hgp : 0 < Nat.gcd x.natAbs y.natAbs := Nat.gcd_pos_of_pos_right _ (by omega)
  have hgb : bigZ (Nat.gcd x.natAbs y.natAbs : Int) = false := by
    refine bigZ_small (x := y) ?_ byy
    simp only [Int.natAbs_natCast]
    exact Nat.gcd_le_right _ (by omega)
  have HG : Hid (∀ W, Calls Tryd.prog 46 #[.string s, .string t] W (GPost W ⟨(txtZ (Nat.gcd x.natAbs y.natAbs : Int)).toArray⟩)) := fun W => gcd_good s t x y W hs ht hx hy bx byy
  obtain ⟨G, hG⟩ : ∃ G, G = Nat.gcd x.natAbs y.natAbs := ⟨_, rfl⟩
  have hts : 0 < t.size := by
    rw [← data_len, hy]
    unfold txtZ
    split
    · simp
    · exact List.length_pos_iff.2 (txtN_ne _)
  have ht0 : (t.toList == [48]) = false := by
    rw [toList_data, hy, list_beq]
    intro h
    have : txtZ y = txtZ 0 := h
    exact h0 (txtZ_inj this)
  have hhead := data_head t hts
  rw [hy] at hhead
  have hneg : ((t[0].toNat : Int) == 45) = decide (y < 0) := by
    have hh := txtZ_head y
    rw [hhead] at hh
    rw [Bool.eq_iff_iff, beq_iff_eq, decide_eq_true_eq, ← hh]
    constructor
    · intro h; rw [u8_eq (c := t[0]) (n := 45) h (by omega)]; rfl
    · intro h; injection h with h; rw [h]; rfl
  unfold ratN ratD
  rw [← hG] at HG hgp hgb ⊢
  obtain ⟨g, hg⟩ : ∃ g : ByteArray, g = ⟨(txtZ (G : Int)).toArray⟩ := ⟨_, rfl⟩
  rw [← hg] at HG
  -- the divisor, its sign
  have key : ∀ z : Int, z = (if y < 0 then -(G : Int) else (G : Int)) → ∀ g' : ByteArray, g' = (if decide (y < 0) = true then ⟨#[45]⟩ ++ g else g) → g'.data.toList = txtZ z ∧ bigZ z = false ∧ z ≠ 0 ∧ g'.size ≤ 100000 := by
    intro z hz g' hg'
    have e1 : g'.data.toList = txtZ z := by
      rw [hg', hz, hg]
      by_cases hyn : y < 0
      · rw [if_pos (by simpa using hyn), if_pos hyn, bytes_app, txtZ_neg hgp, txtZ_pos]; rfl
      · rw [if_neg (by simpa using hyn), if_neg hyn]
    have e2 : bigZ z = false := by
      refine bigZ_small (x := (G : Int)) ?_ hgb
      rw [hz]; split <;> simp
    refine ⟨e1, e2, by rw [hz]; split <;> omega, ?_⟩
    rw [← data_len, e1]
    have := bigZ_false e2
    unfold txtZ
    split <;> simp [txtN_len] <;> omega
  obtain ⟨z, hz⟩ : ∃ z : Int, z = (if y < 0 then -(G : Int) else (G : Int)) := ⟨_, rfl⟩
  obtain ⟨g', hg'⟩ : ∃ g' : ByteArray, g' = (if decide (y < 0) = true then ⟨#[45]⟩ ++ g else g) := ⟨_, rfl⟩
  obtain ⟨k1, k2, k3, k4⟩ := key z hz g' hg'
  have hn := fun W => dmod_ok s g' x z W hs k4 hx k1 bx k2 k3
  have hd := fun W => dmod_ok t g' y z W ht k4 hy k1 byy k2 k3
  have e1 : x / z = (if y < 0 then -x else x) / (G : Int) := by
    rw [hz]; split
    · rw [Int.ediv_neg]
      have : (G : Int) ∣ x := by rw [hG]; exact Int.ofNat_dvd_left.2 (Nat.gcd_dvd_left _ _)
      rw [Int.neg_ediv_of_dvd this]
    · rfl
  have e2 : y / z = (y.natAbs : Int) / (G : Int) := by
    have : (G : Int) ∣ y := by rw [hG]; exact Int.ofNat_dvd_left.2 (Nat.gcd_dvd_right _ _)
    rw [hz]; split
    · rename_i h
      rw [Int.ediv_neg, ← Int.neg_ediv_of_dvd this, show -y = (y.natAbs : Int) by omega]
    · rename_i h
      rw [show (y.natAbs : Int) = y by omega]
  rw [e1] at hn
  rw [e2] at hd
  obtain ⟨N, hN⟩ : ∃ N, N = (if y < 0 then -x else x) / (G : Int) := ⟨_, rfl⟩
  obtain ⟨D, hD⟩ : ∃ D, D = (y.natAbs : Int) / (G : Int) := ⟨_, rfl⟩
  have bN : bigZ N = false := by
    refine bigZ_small (x := x) ?_ bx
    rw [hN]; refine Nat.le_trans (Int.natAbs_ediv_le_natAbs _ _) ?_
    split <;> simp
  have bD : bigZ D = false := by
    refine bigZ_small (x := y) ?_ byy
    rw [hD]; refine Nat.le_trans (Int.natAbs_ediv_le_natAbs _ _) ?_
    simp
  rw [← hN] at hn ⊢
  rw [← hD] at hd ⊢
  have len : ∀ z : Int, bigZ z = false → (txtZ z).length ≤ 1001 := fun z h => by
    have := bigZ_false h
    unfold txtZ
    split <;> simp [txtN_len] <;> omega
  have l1 := len N bN
  have l2 := len D bD
  have hone : ((⟨(txtZ D).toArray⟩ : ByteArray).toList == [49]) = decide (D = 1) := by
    rw [toList_data, Bool.eq_iff_iff, beq_iff_eq, decide_eq_true_eq]
    constructor
    · intro h; exact txtZ_inj (h.trans txtZ_1.symm)
    · intro h; rw [h]; exact txtZ_1
  have := make_go s t g g' ⟨(txtZ N).toArray⟩ ⟨(txtZ D).toArray⟩ _ _ _ _ w hts ht0 hneg hg' HG (Lib.hid hn) (Lib.hid hd) hone (by
    rw [← data_len, ← data_len]; simp; omega) (by rw [hg, ← data_len]; have := len _ hgb; simp; omega)
  refine this.mono fun e w' ⟨h1, h2⟩ => ⟨?_, h2⟩
  rw [h1]
  have e3 : (if decide (D = 1) = true then (⟨(txtZ N).toArray⟩ : ByteArray) else ⟨(txtZ N).toArray⟩ ++ ⟨#[47]⟩ ++ ⟨(txtZ D).toArray⟩) = ⟨(ratT N D).toArray⟩ := by
    apply Go.WideShapes.bytes_inj
    unfold ratT
    by_cases hd1 : D = 1
    · simp [hd1]
    · simp [hd1]
  rw [e3]


end Go.Proofs.YtnikhbdjlipcbaaDoor

namespace Go.Proofs.YtnikhbdjlipcbaaDoor
open Go.RowKit Go.Shelf

/-- A rational in lowest terms, of a size that is allowed. -/
def RatOK (n d : Int) : Prop := 0 < d ∧ Nat.gcd n.natAbs d.natAbs = 1 ∧ bigZ n = false ∧ bigZ d = false
theorem no47_txtN (n : Nat) : (47 : UInt8) ∉ txtN n := fun h => by
  have := txtN_dig n 47 h
  revert this; decide
theorem no47_txtZ (z : Int) : (47 : UInt8) ∉ txtZ z := fun h => by
  unfold txtZ at h
  split at h
  · rcases List.mem_cons.1 h with h | h
    · revert h; decide
    · exact no47_txtN _ h
  · exact no47_txtN _ h
theorem slN_no {l : List UInt8} (h : (47 : UInt8) ∉ l) : slN l = l.length := slN_none fun _ _ hj => h (List.mem_of_getElem? hj)
theorem slN_app {a b : List UInt8} (h : (47 : UInt8) ∉ a) : slN (a ++ 47 :: b) = a.length := by
  refine slN_at (by simp) (fun j hj hc => ?_) (by simp)
  rw [List.getElem?_append_left hj] at hc
  exact h (List.mem_of_getElem? hc)
theorem bigZ_nine {z : Int} (h : bigZ z = false) : chkZ (txtZ z) = 0 := by rw [chkZ_txtZ, h]; rfl
theorem chkR_ratT {n d : Int} (h : RatOK n d) : chkR (ratT n d) = 0 := by
  obtain ⟨h1, h2, h3, h4⟩ := h
  unfold ratT
  by_cases hd : d = 1
  · rw [if_pos hd, chkR_int (slN_no (no47_txtZ n)), bigZ_nine h3]
  · rw [if_neg hd, chkR_frac (k := (txtZ n).length) (slN_app (no47_txtZ n)) (by simp)]
    rw [List.take_left, show (txtZ n ++ 47 :: txtZ d).drop ((txtZ n).length + 1) = txtZ d by rw [← List.drop_drop, List.drop_left]; rfl]
    rw [chkF_some n d (by omega) (fun h => ?_) (fun h => ?_), h3, h4, if_neg (by simp), if_pos h2]
    · have : txtZ d = txtZ 0 := h
      have := txtZ_inj this; omega
    · exact hd (txtZ_inj (h.trans txtZ_1.symm))
theorem chkR_zero {l : List UInt8} (h : chkR l = 0) : ∃ n d, l = ratT n d ∧ RatOK n d := by
  by_cases hs : slN l < l.length
  · rw [chkR_frac rfl hs] at h
    have hsp := slN_spec hs
    have hl : l = l.take (slN l) ++ 47 :: l.drop (slN l + 1) := by
      have e := (List.take_append_drop (slN l) l).symm
      rw [List.drop_eq_getElem_cons hs] at e
      have : l[slN l] = 47 := by
        have := List.getElem?_eq_getElem hs
        rw [hsp.1] at this
        exact (Option.some.inj this).symm
      rwa [this] at e
    obtain ⟨A, hA⟩ : ∃ A, A = l.take (slN l) := ⟨_, rfl⟩
    obtain ⟨B, hB⟩ : ∃ B, B = l.drop (slN l + 1) := ⟨_, rfl⟩
    rw [← hA, ← hB] at h hl
    have hne : ¬ (chkZ A = 12 ∨ chkZ B = 12 ∨ B.head? = some 45 ∨ B = [48] ∨ B = [49]) := fun hc => by
      rw [chkF_12 hc] at h; cases h
    rcases chkZ_cases A with ⟨hx, _⟩ | ⟨x, hx1, hx2, hx3⟩
    · exact absurd (.inl hx) hne
    rcases chkZ_cases B with ⟨hy, _⟩ | ⟨y, hy1, hy2, hy3⟩
    · exact absurd (.inr (.inl hy)) hne
    have hyn : ¬ y < 0 := fun hn => hne (.inr (.inr (.inl (by rw [hy2]; exact (txtZ_head y).2 hn))))
    have hy0 : txtZ y ≠ [48] := fun hc => hne (.inr (.inr (.inr (.inl (hy2.trans hc)))))
    have hy11 : txtZ y ≠ [49] := fun hc => hne (.inr (.inr (.inr (.inr (hy2.trans hc)))))
    rw [hx2, hy2, chkF_some x y (by omega) hy0 hy11] at h
    by_cases hb : bigZ x = true ∨ bigZ y = true
    · rw [if_pos hb] at h; cases h
    · rw [if_neg hb] at h
      have hg : Nat.gcd x.natAbs y.natAbs = 1 := by
        by_cases hg : Nat.gcd x.natAbs y.natAbs = 1
        · exact hg
        · rw [if_neg hg] at h; cases h
      have hy1' : y ≠ 1 := fun e => hy11 (by rw [e]; exact txtZ_1)
      have hy0' : y ≠ 0 := fun e => hy0 (by rw [e]; rfl)
      refine ⟨x, y, by unfold ratT; rw [if_neg hy1', hl, hx2, hy2], by omega, hg, ?_, ?_⟩
      · cases e : bigZ x
        · rfl
        · exact absurd (.inl e) hb
      · cases e : bigZ y
        · rfl
        · exact absurd (.inr e) hb
  · have hs : slN l = l.length := by have := slN_le l; omega
    rw [chkR_int hs] at h
    obtain ⟨z, h1, h2⟩ := chkZ_ok h
    refine ⟨z, 1, by unfold ratT; rw [if_pos rfl, h1], by decide, by simp, h2, bigZ_one⟩

/-- What Parts hands back. -/
def P3 (W : World) (n d : ByteArray) (f : Int) (e : Ending) (w' : World) : Prop := e = .returned (.tuple #[.string n, .string d, .int .i64 f]) ∧ Below W.heap.size W w'
set_option maxHeartbeats 1000000 in
set_option maxRecDepth 100000 in
theorem parts_bad (s : ByteArray) (w : World) (hs : s.size ≤ 100000) (h : chkR s.data.toList ≠ 0) :
    Calls Tryd.prog 52 #[.string s] w (P3 w ⟨#[]⟩ ⟨#[]⟩ (chkR s.data.toList)) := by
  have hp := qrat_any s w hs
  obtain ⟨E, hE⟩ : ∃ E, E = chkR s.data.toList := ⟨_, rfl⟩
  rw [← hE] at hp h ⊢
  have HP := Lib.hid hp
  have t1 : (E != 0) = true := by simpa using h
  clear hp hE h
  go_enter Tryd.func52, Tryd.ntmps52
  go_wp2_with fail
  refine HP.out.mono ?_
  rintro e w1 ⟨rfl, b1⟩
  have B1 := Lib.hid b1
  clear b1
  go_wp2_with fail
  go_ret3
  exact ⟨rfl, B1.out⟩
set_option maxHeartbeats 1000000 in
set_option maxRecDepth 100000 in
theorem parts_go (s n d : ByteArray) (b : Bool) (w : World) (HK : Hid (Calls Tryd.prog 18 #[.string s] w (ErrPost w 0)))
    (HS : Hid (∀ W, Calls Tryd.prog 43 #[.string s] W (CutPost W n d b))) :
    Calls Tryd.prog 52 #[.string s] w (P3 w n (if b = true then d else ⟨#[49]⟩) 0) := by
  cases b <;> simp only [if_true, Bool.false_eq_true, if_false]
  all_goals
    go_enter Tryd.func52, Tryd.ntmps52
    go_wp2_with fail
    refine HK.out.mono ?_
    rintro e w1 ⟨rfl, b1⟩
    have B1 := Lib.hid b1
    clear b1
    go_wp2_with fail
    refine (HS.out _).mono ?_
    rintro e w2 ⟨rfl, b2⟩
    have B2 := Lib.hid (B1.out.trans (b2.mono B1.out.size))
    clear b2
    go_wp2_with fail
    go_ret3
    exact ⟨rfl, B2.out⟩
theorem parts_ok (s : ByteArray) (n d : Int) (w : World) (hs : s.size ≤ 100000) (hl : s.data.toList = ratT n d) (h : RatOK n d) :
    Calls Tryd.prog 52 #[.string s] w (P3 w ⟨(txtZ n).toArray⟩ ⟨(txtZ d).toArray⟩ 0) := by
  have hc := qrat_any s w hs
  rw [hl, chkR_ratT h] at hc
  by_cases hd : d = 1
  · have e : s.data.toList = txtZ n := by rw [hl]; unfold ratT; rw [if_pos hd]
    have hsl : slN s.data.toList = s.data.toList.length := by rw [e]; exact slN_no (no47_txtZ n)
    have := parts_go s s ByteArray.empty false w (Lib.hid hc) (Lib.hid fun W => split_of _ _ _ _ _ (cut_of _ _ _ _ _ (scut_none s W hsl)))
    rw [show s = ⟨(txtZ n).toArray⟩ from Go.WideShapes.bytes_inj (by rw [e])] at this ⊢
    rw [hd, txtZ_1]
    exact this
  · have e : s.data.toList = txtZ n ++ 47 :: txtZ d := by rw [hl]; unfold ratT; rw [if_neg hd]
    have hsl : slN s.data.toList = (txtZ n).length := by rw [e]; exact slN_app (no47_txtZ n)
    have hk : (txtZ n).length < s.size := by rw [← data_len, e]; simp
    have := parts_go s _ _ true w (Lib.hid hc) (Lib.hid fun W => split_of _ _ _ _ _ (cut_of _ _ _ _ _ (scut_at s _ W (by omega) hsl hk)))
    have ext : ∀ a b : Nat, (s.extract a b).data.toList = (s.data.toList.drop a).take (b - a) := fun a b => by rw [ByteArray.data_extract, Array.toList_extract, List.extract_eq_take_drop]
    have e1 : s.extract 0 (txtZ n).length = ⟨(txtZ n).toArray⟩ := Go.WideShapes.bytes_inj (by rw [ext, e]; simp)
    have e2 : s.extract ((txtZ n).length + 1) s.size = ⟨(txtZ d).toArray⟩ := Go.WideShapes.bytes_inj (by
      rw [ext, e, ← List.drop_drop, List.drop_left, List.take_of_length_le (by rw [← data_len, e]; simp; omega)]; rfl)
    rw [if_pos rfl, e1, e2] at this
    exact this


end Go.Proofs.YtnikhbdjlipcbaaDoor

namespace Go.Proofs.YtnikhbdjlipcbaaDoor
open Go.RowKit Go.Shelf

/-- A pair in a block of its own. -/
def PairB (W : World) (g : Nat) (n0 n1 d0 d1 : ByteArray) (f : Int) : Prop :=
  W.heap[g]? = some (.cells #[.string n0, .string n1, .string d0, .string d1, .int .i64 f] 89 (0, 0))
def PtrB (W : World) (b g : Nat) : Prop := W.heap[b]? = some (.cells #[.pointer (some ⟨g, 0, none⟩)] 82 (0, 0))
def FunB (W : World) (b F : Nat) : Prop := W.heap[b]? = some (.cells #[.func (.func F) #[] #[]] 81 (0, 0))
theorem heap_cell {W : World} {g : Nat} {c : Array Value} {t : TypeId} (h : W.heap[g]? = some (.cells c t (0, 0))) (i : Nat) (v : Value) (hv : c[i]? = some v) : W.cell? ⟨g, i, none⟩ = some v := by
  simp [World.cell?, h, hv]
theorem heap_frozen {W : World} {g : Nat} {c : Array Value} {t : TypeId} (h : W.heap[g]? = some (.cells c t (0, 0))) (i : Nat) : W.frozen? ⟨g, i, none⟩ = false := by
  simp [World.frozen?, h]
theorem heap_lt {W : World} {g : Nat} {o : Obj} (h : W.heap[g]? = some o) : g < W.heap.size := (Array.getElem?_eq_some_iff.1 h).1
theorem heap_below {W W' : World} {g : Nat} {o : Obj} (h : W.heap[g]? = some o) (hb : Below W.heap.size W W') : W'.heap[g]? = some o := (hb.block _ (heap_lt h)).trans h
theorem heap_grown {W W' : World} {g : Nat} {o : Obj} {row : Option Nat} (h : W.heap[g]? = some o) (hb : W.grownBy W' row) (hne : some g ≠ row) : W'.heap[g]? = some o := (hb.block g (heap_lt h) hne).trans h
theorem heap_set {W : World} {g : Nat} {c : Array Value} {t : TypeId} (h : W.heap[g]? = some (.cells c t (0, 0))) (i : Nat) (v : Value) (_hi : i < c.size) : (W.setCell ⟨g, i, none⟩ v).heap[g]? = some (.cells (c.set! i v) t (0, 0)) := by
  show (W.heap.modify g _)[g]? = _
  rw [Array.getElem?_modify, if_pos rfl, h]
  rfl
theorem pair_set {W : World} {g : Nat} {n0 n1 d0 d1 : ByteArray} {f : Int} (h : PairB W g n0 n1 d0 d1 f) (f' : Int) : PairB (W.setCell ⟨g, 4, none⟩ (.int .i64 f')) g n0 n1 d0 d1 f' := heap_set h 4 _ (by simp)

set_option maxHeartbeats 1000000 in
set_option maxRecDepth 100000 in
theorem keep_any (g F : Nat) (w : World) :
    Calls Tryd.prog 48 #[.pointer (some ⟨g, 0, none⟩), .func (.func F) #[] #[]] w fun e w' => e = .returned (.func (.func 94) #[] #[.pointer (some ⟨w.heap.size, 0, none⟩), .pointer (some ⟨w.heap.size + 1, 0, none⟩)]) ∧
      PtrB w' w.heap.size g ∧ FunB w' (w.heap.size + 1) F ∧ Below w.heap.size w w' := by
  have hmf : ∀ (fn : Fn) (first cap : Array Value) (w : World), (Instr.makeFunc fn first cap).run Tryd.prog w = .ok (.func fn first cap) w := fun _ _ _ _ => rfl
  go_enter Tryd.func48, Tryd.ntmps48
  go_wp2_with fail
  go_ret
  refine ⟨rfl, ?_, ?_, own_two _ _ _⟩
  · have h := World.alloc_heap_new w (.cells #[.pointer (some ⟨g, 0, none⟩)] 82)
    exact heap_below h (((Below.refl _ _).alloc (Nat.le_refl _) _))
  · have h := World.alloc_heap_new (w.alloc (.cells #[.pointer (some ⟨g, 0, none⟩)] 82)) (.cells #[.func (.func F) #[] #[]] 81)
    rw [World.size_alloc] at h
    exact h

def KeepP (w : World) (g : Nat) (n0 n1 d0 d1 : ByteArray) (r : ByteArray) (f : Int) (e : Ending) (w' : World) : Prop :=
  e = .returned (.string r) ∧ PairB w' g n0 n1 d0 d1 f ∧ w.grownBy w' (some g)
set_option maxHeartbeats 1000000 in
set_option maxRecDepth 100000 in
theorem keep1_err (g bp bf : Nat) (n0 n1 d0 d1 s t : ByteArray) (f : Int) (w : World) (hf : f ≠ 0) (hp : PairB w g n0 n1 d0 d1 f) (hb : PtrB w bp g) :
    Calls Tryd.prog 94 #[.string s, .string t, .pointer (some ⟨bp, 0, none⟩), .pointer (some ⟨bf, 0, none⟩)] w (KeepP w g n0 n1 d0 d1 ⟨#[]⟩ f) := by
  have t1 : (f != 0) = true := by simpa using hf
  have c1 := heap_cell hp 4 _ rfl
  have c2 := heap_cell hb 0 _ rfl
  have HP := Lib.hid hp
  clear hp hb hf
  go_enter Tryd.func94, Tryd.ntmps94
  go_wp2_with fail
  go_ret
  exact ⟨rfl, HP.out, only_refl _ _⟩
set_option maxHeartbeats 2000000 in
set_option maxRecDepth 100000 in
theorem keep1_Mul (g bp bf : Nat) (n0 n1 d0 d1 s t r : ByteArray) (f : Int) (w : World) (hp : PairB w g n0 n1 d0 d1 0) (hb : PtrB w bp g) (hg : FunB w bf 49)
    (HF : Hid (∀ W, Calls Tryd.prog 49 #[.string s, .string t] W (StE W r f))) :
    Calls Tryd.prog 94 #[.string s, .string t, .pointer (some ⟨bp, 0, none⟩), .pointer (some ⟨bf, 0, none⟩)] w (KeepP w g n0 n1 d0 d1 r f) := by
  have c1 := heap_cell hp 4 _ rfl
  have c2 := heap_cell hb 0 _ rfl
  have c3 := heap_cell hg 0 _ rfl
  have HP := Lib.hid hp
  have HB := Lib.hid hb
  have HG := Lib.hid hg
  clear hp hb hg
  go_enter Tryd.func94, Tryd.ntmps94
  go_wp2_with fail
  have HST : Hid (Below w.heap.size w w.drew) := (Below.refl _ _).drew
  have HST2 : Hid (w.grownBy w.drew (some g)) := only_of_below HST.out _
  have HN1 : Hid (bp ≠ g) := fun h => by have h1 := HB.out; have h2 := HP.out; rw [h] at h1; unfold PtrB at h1; unfold PairB at h2; rw [h1] at h2; simp at h2
  have HN2 : Hid (bf ≠ g) := fun h => by have h1 := HG.out; have h2 := HP.out; rw [h] at h1; unfold FunB at h1; unfold PairB at h2; rw [h1] at h2; simp at h2
  have HAB : Hid (∀ W : World, w.grownBy W (some g) → W.cell? ⟨bp, 0, none⟩ = some (.pointer (some ⟨g, 0, none⟩)) ∧ W.cell? ⟨bf, 0, none⟩ = some (.func (.func 49) #[] #[]) ∧ w.grownBy W (some g)) := fun W h => ⟨heap_cell (heap_grown HB.out h (by simpa using HN1.out)) 0 _ rfl, heap_cell (heap_grown HG.out h (by simpa using HN2.out)) 0 _ rfl, h⟩
  go_region_held3 (fun W => W.cell? ⟨bp, 0, none⟩ = some (.pointer (some ⟨g, 0, none⟩)) ∧ W.cell? ⟨bf, 0, none⟩ = some (.func (.func 49) #[] #[]) ∧ w.grownBy W (some g))
    ((first | with_reducible exact HAB.out _ HST2.out | with_reducible exact HAB.out _ (only_refl _ _) | with_reducible exact HAB.out _ HG2.out | with_reducible exact HAB.out _ (only_setCell HG2.out (.inl rfl) _)))
    ((go_at_call 49; refine (HF.out _).mono ?_; rintro e wf ⟨rfl, hbf⟩; have HG1 : Hid (Below w.heap.size w wf) := HST.out.trans (hbf.mono HST.out.size); have HG2 : Hid (w.grownBy wf (some g)) := only_of_below HG1.out _; have hpf := heap_below HP.out HG1.out; have d1' := heap_cell hpf 4 _ rfl; have d2' := heap_frozen hpf 4; have HPF := Lib.hid hpf; clear hbf hpf))
  all_goals
    go_wp2_with fail
    go_ret
    exact ⟨rfl, pair_set (f := 0) HPF.out f, only_setCell (only_of_below HG1.out _) (.inl rfl) _⟩
set_option maxHeartbeats 2000000 in
set_option maxRecDepth 100000 in
theorem keep1_Sub (g bp bf : Nat) (n0 n1 d0 d1 s t r : ByteArray) (f : Int) (w : World) (hp : PairB w g n0 n1 d0 d1 0) (hb : PtrB w bp g) (hg : FunB w bf 54)
    (HF : Hid (∀ W, Calls Tryd.prog 54 #[.string s, .string t] W (StE W r f))) :
    Calls Tryd.prog 94 #[.string s, .string t, .pointer (some ⟨bp, 0, none⟩), .pointer (some ⟨bf, 0, none⟩)] w (KeepP w g n0 n1 d0 d1 r f) := by
  have c1 := heap_cell hp 4 _ rfl
  have c2 := heap_cell hb 0 _ rfl
  have c3 := heap_cell hg 0 _ rfl
  have HP := Lib.hid hp
  have HB := Lib.hid hb
  have HG := Lib.hid hg
  clear hp hb hg
  go_enter Tryd.func94, Tryd.ntmps94
  go_wp2_with fail
  have HST : Hid (Below w.heap.size w w.drew) := (Below.refl _ _).drew
  have HST2 : Hid (w.grownBy w.drew (some g)) := only_of_below HST.out _
  have HN1 : Hid (bp ≠ g) := fun h => by have h1 := HB.out; have h2 := HP.out; rw [h] at h1; unfold PtrB at h1; unfold PairB at h2; rw [h1] at h2; simp at h2
  have HN2 : Hid (bf ≠ g) := fun h => by have h1 := HG.out; have h2 := HP.out; rw [h] at h1; unfold FunB at h1; unfold PairB at h2; rw [h1] at h2; simp at h2
  have HAB : Hid (∀ W : World, w.grownBy W (some g) → W.cell? ⟨bp, 0, none⟩ = some (.pointer (some ⟨g, 0, none⟩)) ∧ W.cell? ⟨bf, 0, none⟩ = some (.func (.func 54) #[] #[]) ∧ w.grownBy W (some g)) := fun W h => ⟨heap_cell (heap_grown HB.out h (by simpa using HN1.out)) 0 _ rfl, heap_cell (heap_grown HG.out h (by simpa using HN2.out)) 0 _ rfl, h⟩
  go_region_held3 (fun W => W.cell? ⟨bp, 0, none⟩ = some (.pointer (some ⟨g, 0, none⟩)) ∧ W.cell? ⟨bf, 0, none⟩ = some (.func (.func 54) #[] #[]) ∧ w.grownBy W (some g))
    ((first | with_reducible exact HAB.out _ HST2.out | with_reducible exact HAB.out _ (only_refl _ _) | with_reducible exact HAB.out _ HG2.out | with_reducible exact HAB.out _ (only_setCell HG2.out (.inl rfl) _)))
    ((go_at_call 54; refine (HF.out _).mono ?_; rintro e wf ⟨rfl, hbf⟩; have HG1 : Hid (Below w.heap.size w wf) := HST.out.trans (hbf.mono HST.out.size); have HG2 : Hid (w.grownBy wf (some g)) := only_of_below HG1.out _; have hpf := heap_below HP.out HG1.out; have d1' := heap_cell hpf 4 _ rfl; have d2' := heap_frozen hpf 4; have HPF := Lib.hid hpf; clear hbf hpf))
  all_goals
    go_wp2_with fail
    go_ret
    exact ⟨rfl, pair_set (f := 0) HPF.out f, only_setCell (only_of_below HG1.out _) (.inl rfl) _⟩
set_option maxHeartbeats 1000000 in
set_option maxRecDepth 100000 in
theorem made_err (g : Nat) (n0 n1 d0 d1 s t : ByteArray) (f : Int) (w : World) (hf : f ≠ 0) (hp : PairB w g n0 n1 d0 d1 f) :
    Calls Tryd.prog 50 #[.pointer (some ⟨g, 0, none⟩), .string s, .string t] w (StE w ⟨#[]⟩ f) := by
  have t1 : (f != 0) = true := by simpa using hf
  have c1 := heap_cell hp 4 _ rfl
  clear hp hf
  go_enter Tryd.func50, Tryd.ntmps50
  go_wp2_with fail
  go_quiet (fail)
  go_wp2_with fail
  go_ret2
  exact ⟨rfl, below_drewN (Below.refl _ _) _⟩
set_option maxHeartbeats 1000000 in
set_option maxRecDepth 100000 in
theorem made_go (g : Nat) (n0 n1 d0 d1 s t r : ByteArray) (f : Int) (w : World) (hp : PairB w g n0 n1 d0 d1 0)
    (HM : Hid (∀ W, Calls Tryd.prog 71 #[.string s, .string t] W (StE W r f))) :
    Calls Tryd.prog 50 #[.pointer (some ⟨g, 0, none⟩), .string s, .string t] w (StE w r f) := by
  have c1 := heap_cell hp 4 _ rfl
  clear hp
  go_enter Tryd.func50, Tryd.ntmps50
  go_wp2_with fail
  refine (HM.out _).mono ?_
  rintro e w1 ⟨rfl, b1⟩
  have B1 := Lib.hid b1
  clear b1
  go_wp2_with fail
  go_ret2
  exact ⟨rfl, B1.out⟩


end Go.Proofs.YtnikhbdjlipcbaaDoor

namespace Go.Proofs.YtnikhbdjlipcbaaDoor
open Go.RowKit Go.Shelf

/-- The pair in the loop. -/
def BothR (w : World) (g : Nat) (n0 n1 d0 d1 : ByteArray) (f0 f : Int) (iv : Value) (wr : World) : Prop :=
  ∃ k : Nat, k ≤ 2 ∧ iv = .int .i64 (k : Int) ∧ Below w.heap.size w wr ∧ (k = 0 → PairB wr g ⟨#[]⟩ ⟨#[]⟩ ⟨#[]⟩ ⟨#[]⟩ 0) ∧ (k = 1 → PairB wr g n0 ⟨#[]⟩ d0 ⟨#[]⟩ f0) ∧ (k = 2 → PairB wr g n0 n1 d0 d1 f)
def BothP (w : World) (n0 n1 d0 d1 : ByteArray) (f : Int) (e : Ending) (w' : World) : Prop :=
  ∃ g, e = .returned (.pointer (some ⟨g, 0, none⟩)) ∧ w.heap.size ≤ g ∧ PairB w' g n0 n1 d0 d1 f ∧ Below w.heap.size w w'
theorem pair_cells {W : World} {g : Nat} {n0 n1 d0 d1 : ByteArray} {f : Int} (h : PairB W g n0 n1 d0 d1 f) :
    W.cell? ⟨g, 0, none⟩ = some (.string n0) ∧ W.cell? ⟨g, 1, none⟩ = some (.string n1) ∧ W.cell? ⟨g, 2, none⟩ = some (.string d0) ∧ W.cell? ⟨g, 3, none⟩ = some (.string d1) ∧ W.cell? ⟨g, 4, none⟩ = some (.int .i64 f) :=
  ⟨heap_cell h 0 _ rfl, heap_cell h 1 _ rfl, heap_cell h 2 _ rfl, heap_cell h 3 _ rfl, heap_cell h 4 _ rfl⟩
theorem pair_set0 {W : World} {g : Nat} {n0 n1 d0 d1 : ByteArray} {f : Int} (h : PairB W g n0 n1 d0 d1 f) (n d : ByteArray) (f' : Int) :
    PairB (((W.setCell ⟨g, 0, none⟩ (.string n)).setCell ⟨g, 2, none⟩ (.string d)).setCell ⟨g, 4, none⟩ (.int .i64 f')) g n n1 d d1 f' :=
  heap_set (heap_set (heap_set h 0 _ (by simp)) 2 _ (by simp)) 4 _ (by simp)
theorem pair_set1 {W : World} {g : Nat} {n0 n1 d0 d1 : ByteArray} {f : Int} (h : PairB W g n0 n1 d0 d1 f) (n d : ByteArray) (f' : Int) :
    PairB (((W.setCell ⟨g, 1, none⟩ (.string n)).setCell ⟨g, 3, none⟩ (.string d)).setCell ⟨g, 4, none⟩ (.int .i64 f')) g n0 n d0 d f' :=
  heap_set (heap_set (heap_set h 1 _ (by simp)) 3 _ (by simp)) 4 _ (by simp)

set_option maxHeartbeats 4000000 in
set_option maxRecDepth 100000 in
theorem both_any (a b n0 n1 d0 d1 : ByteArray) (f0 f : Int) (w : World)
    (HA : Hid (∀ W, Calls Tryd.prog 52 #[.string a] W (P3 W n0 d0 f0)))
    (HB : f0 = 0 → Hid (∀ W, Calls Tryd.prog 52 #[.string b] W (P3 W n1 d1 f)))
    (HE : f0 ≠ 0 → Hid (n1 = ⟨#[]⟩ ∧ d1 = ⟨#[]⟩ ∧ f = f0)) :
    Calls Tryd.prog 47 #[.string a, .string b] w (BothP w n0 n1 d0 d1 f) := by
  have HBB := Lib.hid HB
  have HEE := Lib.hid HE
  clear HB HE
  obtain ⟨W0, hW0⟩ : ∃ W0, W0 = w.alloc (.cells #[.string ⟨#[]⟩, .string ⟨#[]⟩, .string ⟨#[]⟩, .string ⟨#[]⟩, .int .i64 0] 89) := ⟨_, rfl⟩
  have hp0 : PairB W0 w.heap.size ⟨#[]⟩ ⟨#[]⟩ ⟨#[]⟩ ⟨#[]⟩ 0 := by rw [hW0]; exact World.alloc_heap_new w _
  have hb0 : Below w.heap.size w W0 := by rw [hW0]; exact (Below.refl _ _).alloc (Nat.le_refl _) _
  have HW0 := Lib.hid hW0
  have HST : Hid (BothR w w.heap.size n0 n1 d0 d1 f0 f (.int .i64 0) W0) := ⟨0, by omega, rfl, hb0, fun _ => hp0, (by simp), (by simp)⟩
  clear hW0 hp0 hb0
  have i0 : ∀ w, (Instr.index 141 (.agg #[.string a, .string b]) (.int .i64 0)).run Tryd.prog w = .ok (.string a) w := fun _ => by kernel_rfl
  have i1 : ∀ w, (Instr.index 141 (.agg #[.string a, .string b]) (.int .i64 1)).run Tryd.prog w = .ok (.string b) w := fun _ => by kernel_rfl
  obtain ⟨gx, hgx⟩ : ∃ gx, gx = w.heap.size := ⟨_, rfl⟩
  have HGX := Lib.hid hgx
  have HGL : Hid (w.heap.size ≤ gx) := by rw [hgx]; exact Nat.le_refl _
  go_enter Tryd.func47, Tryd.ntmps47
  go_wp2_with fail
  rw [← HW0.out]
  rw [← hgx] at HST ⊢
  clear hgx
  go_loopw [13] (BothR w gx n0 n1 d0 d1 f0 f) (fun i _ => 2 - (intOf i).toNat)
  case atStart => exact HST.out
  case round =>
    obtain ⟨w1, rfl⟩ : ∃ w1 : World, w1 = wr := ⟨_, rfl⟩
    obtain ⟨k, hk, rfl, hb, h0, h1, h2⟩ := hrel
    have BW := Lib.hid hb
    have h0' := Lib.hid h0
    have h1' := Lib.hid h1
    have h2' := Lib.hid h2
    clear h0 h1 h2 hb HST
    have hc : k = 0 ∨ k = 1 ∨ k = 2 := by omega
    rcases hc with rfl | rfl | rfl
    · have hp := h0'.out rfl
      have HP := Lib.hid hp
      have c4 := (pair_cells hp).2.2.2.2
      have HST2 : Hid (Below w1.heap.size w1 w1.drew) := (Below.refl _ _).drew
      clear hp h0' h1' h2'
      go_upto_region 6 with (fail)
      go_region_held3 (fun W => True)
        (trivial)
        ((go_at_call 52; refine (HA.out _).mono ?_; rintro e wp ⟨rfl, hbp⟩; have HG1 : Hid (Below w1.heap.size w1 wp) := HST2.out.trans (hbp.mono HST2.out.size); have hpp := heap_below HP.out HG1.out; obtain ⟨e0, e1, e2, e3, e4⟩ := pair_cells hpp; have u0 := heap_frozen hpp 0; have u2 := heap_frozen hpp 2; have u4 := heap_frozen hpp 4; have HPP := Lib.hid hpp; have HBL : Hid (Below w.heap.size w (((wp.setCell ⟨gx, 0, none⟩ (.string n0)).setCell ⟨gx, 2, none⟩ (.string d0)).setCell ⟨gx, 4, none⟩ (.int .i64 f0))) := (((BW.out.trans (HG1.out.mono BW.out.size)).setCell (p := ⟨gx, 0, none⟩) HGL.out _).setCell (p := ⟨gx, 2, none⟩) HGL.out _).setCell (p := ⟨gx, 4, none⟩) HGL.out _; clear hbp hpp))
      all_goals
        go_wp2_with fail
        go_roundw
        case rel => exact ⟨1, by omega, rfl, HBL.out, (by simp), (fun _ => pair_set0 HPP.out _ _ _), (by simp)⟩
        case measure => simp [intOf]
    · have hp := h1'.out rfl
      by_cases hf0 : f0 = 0
      · have HBX := HBB.out hf0
        subst hf0
        have HP := Lib.hid hp
        have c4 := (pair_cells hp).2.2.2.2
        have HST2 : Hid (Below w1.heap.size w1 w1.drew) := (Below.refl _ _).drew
        clear hp h0' h1' h2'
        go_upto_region 6 with (fail)
        go_region_held3 (fun W => True)
          (trivial)
          ((go_at_call 52; refine (HBX.out _).mono ?_; rintro e wp ⟨rfl, hbp⟩; have HG1 : Hid (Below w1.heap.size w1 wp) := HST2.out.trans (hbp.mono HST2.out.size); have hpp := heap_below HP.out HG1.out; obtain ⟨e0, e1, e2, e3, e4⟩ := pair_cells hpp; have u0 := heap_frozen hpp 1; have u2 := heap_frozen hpp 3; have u4 := heap_frozen hpp 4; have HPP := Lib.hid hpp; have HBL : Hid (Below w.heap.size w (((wp.setCell ⟨gx, 1, none⟩ (.string n1)).setCell ⟨gx, 3, none⟩ (.string d1)).setCell ⟨gx, 4, none⟩ (.int .i64 f))) := (((BW.out.trans (HG1.out.mono BW.out.size)).setCell (p := ⟨gx, 1, none⟩) HGL.out _).setCell (p := ⟨gx, 3, none⟩) HGL.out _).setCell (p := ⟨gx, 4, none⟩) HGL.out _; clear hbp hpp))
        all_goals
          go_wp2_with fail
          go_roundw
          case rel => exact ⟨2, by omega, rfl, HBL.out, (by simp), (by simp), (fun _ => pair_set1 HPP.out _ _ _)⟩
          case measure => simp [intOf]

      · obtain ⟨rfl, rfl, rfl⟩ := (HEE.out hf0).out
        have t1 : (f == 0) = false := by simpa using hf0
        have HP := Lib.hid hp
        have c4 := (pair_cells hp).2.2.2.2
        clear hp h0' h1' h2' hf0
        go_wp2_with fail
        go_roundw
        case rel => exact ⟨2, by omega, rfl, BW.out, (by simp), (by simp), (fun _ => HP.out)⟩
        case measure => simp [intOf]
    · have hp := h2'.out rfl
      have HP := Lib.hid hp
      clear hp h0' h1' h2'
      go_wp2_with fail
      go_ret
      exact ⟨gx, rfl, by rw [HGX.out]; exact Nat.le_refl _, HP.out, BW.out⟩


end Go.Proofs.YtnikhbdjlipcbaaDoor
