/-
  The reference's written, Four, Make, Mul of rationals, by value. No condition. The reference's Make of rationals, by value (a positive divisor). No condition. The reference's fraction, Mul of rationals, by value. No condition. The reference's Mul of rationals, by value. No condition.
-/
import Derived.Test.YtnikhbdjlipcbaaDoorWl
import Derived.Test.YtnikhbdjlipcbaaDoorVg
import Derived.Test.YtnikhbdjlipcbaaDoorVz
namespace Go.Proofs.YtnikhbdjlipcbaaDoor
open Go.RowKit Go.Shelf

theorem results_tmp5 {fn : Func} {t u v x y : Tmp} (h : fn.results = #[.tmp t, .tmp u, .tmp v, .tmp x, .tmp y]) (tmps : Array Value) (P : Program) (w : World) :
    (results fn tmps).run P w = .ok (.tuple #[tmps.getD t undef, tmps.getD u undef, tmps.getD v undef, tmps.getD x undef, tmps.getD y undef]) w := by
  simp [results, h]
theorem written_ok (s : ByteArray) (n d : Int) (w : World) (hs : s.size ≤ 100000) (hl : s.data.toList = ratT n d) :
    Calls Tryd.prog 57 #[.string s] w (WrPost w ⟨(txtZ n).toArray⟩ ⟨(txtZ d).toArray⟩) := by
  by_cases hd : d = 1
  · have e : s.data.toList = txtZ n := by rw [hl]; unfold ratT; rw [if_pos hd]
    have hsl : slN s.data.toList = s.data.toList.length := by rw [e]; exact slN_no (no47_txtZ n)
    have := written_int s w (by omega) hsl
    rw [show s = ⟨(txtZ n).toArray⟩ from Go.WideShapes.bytes_inj (by rw [e])] at this ⊢
    rw [hd, txtZ_1]
    exact this.mono fun e w' ⟨e1, e2⟩ => ⟨e1, by subst e2; exact Below.refl _ _⟩
  · have e : s.data.toList = txtZ n ++ 47 :: txtZ d := by rw [hl]; unfold ratT; rw [if_neg hd]
    have hsl : slN s.data.toList = (txtZ n).length := by rw [e]; exact slN_app (no47_txtZ n)
    have hk : (txtZ n).length < s.size := by rw [← data_len, e]; simp
    have := written_frac s _ w (by omega) hsl hk
    have ext : ∀ a b : Nat, (s.extract a b).data.toList = (s.data.toList.drop a).take (b - a) := fun a b => by rw [ByteArray.data_extract, Array.toList_extract, List.extract_eq_take_drop]
    have e1 : s.extract 0 (txtZ n).length = ⟨(txtZ n).toArray⟩ := Go.WideShapes.bytes_inj (by rw [ext, e]; simp)
    have e2 : s.extract ((txtZ n).length + 1) s.size = ⟨(txtZ d).toArray⟩ := Go.WideShapes.bytes_inj (by
      rw [ext, e, ← List.drop_drop, List.drop_left, List.take_of_length_le (by rw [← data_len, e]; simp; omega)]; rfl)
    rw [e1, e2] at this
    exact this.mono fun e w' ⟨e1, q, e2⟩ => ⟨e1, by subst e2; exact below_drewN (Below.refl _ _) q⟩
theorem rrat_ok (s : ByteArray) (n d : Int) (w : World) (hs : s.size ≤ 100000) (hl : s.data.toList = ratT n d) (h : RatOK n d) : Calls Tryd.prog 25 #[.string s] w (ErrPost w 0) := by
  have := rrat_any s w (by omega)
  rwa [hl, chkR_ratT h] at this
def FourP (w : World) (n d m c : Int) (e : Ending) (w' : World) : Prop := e = .returned (.tuple #[.string ⟨(txtZ n).toArray⟩, .string ⟨(txtZ d).toArray⟩, .string ⟨(txtZ m).toArray⟩, .string ⟨(txtZ c).toArray⟩, .int .i64 0]) ∧ Below w.heap.size w w'

set_option maxHeartbeats 2000000 in
set_option maxRecDepth 100000 in
theorem rfour_ok (a b : ByteArray) (n1 d1 n2 d2 : Int) (w : World) (ha : a.size ≤ 100000) (hb : b.size ≤ 100000) (la : a.data.toList = ratT n1 d1) (lb : b.data.toList = ratT n2 d2) (h1 : RatOK n1 d1) (h2 : RatOK n2 d2) :
    Calls Tryd.prog 61 #[.string a, .string b] w (FourP w n1 d1 n2 d2) := by
  have HCA := Lib.hid (fun W => rrat_ok a n1 d1 W ha la h1)
  have HCB := Lib.hid (fun W => rrat_ok b n2 d2 W hb lb h2)
  have HWA := Lib.hid (fun W => written_ok a n1 d1 W ha la)
  have HWB := Lib.hid (fun W => written_ok b n2 d2 W hb lb)
  clear ha hb la lb h1 h2
  go_enter Tryd.func61, Tryd.ntmps61
  go_wp2_with fail
  refine (HCA.out _).mono ?_
  rintro e w1 ⟨rfl, b1⟩
  have B1 := Lib.hid (b1)
  clear b1
  go_wp2_with fail
  refine (HCB.out _).mono ?_
  rintro e w2 ⟨rfl, b2⟩
  have B2 := Lib.hid (B1.out.trans (b2.mono B1.out.size))
  clear b2
  go_wp2_with fail
  refine (HWA.out _).mono ?_
  rintro e w3 ⟨rfl, b3⟩
  have B3 := Lib.hid (B2.out.trans (b3.mono B2.out.size))
  clear b3
  go_wp2_with fail
  refine (HWB.out _).mono ?_
  rintro e w4 ⟨rfl, b4⟩
  have B4 := Lib.hid (B3.out.trans (b4.mono B3.out.size))
  clear b4
  go_wp2_with fail
  refine bodyPost_ret (results_tmp5 rfl _ _ _) rfl ?_
  exact ⟨rfl, B4.out⟩


end Go.Proofs.YtnikhbdjlipcbaaDoor

namespace Go.Proofs.YtnikhbdjlipcbaaDoor
open Go.RowKit Go.Shelf

set_option maxHeartbeats 2000000 in
set_option maxRecDepth 100000 in
theorem rmake2_go (s t g n d r1 r2 : ByteArray) (one : Bool) (w : World) (h0 : 0 < t.size) (t0 : (t.toList == [48]) = false) (t1 : ((t[0].toNat : Int) == 45) = false)
    (HB : Hid (∀ W, Calls Tryd.prog 101 #[.string s, .string t] W (ErrPost W 0)))
    (HG : Hid (∀ W, Calls Tryd.prog 60 #[.string s, .string t] W (GPost W g)))
    (HN : Hid (∀ W, Calls Tryd.prog 65 #[.string s, .string g] W fun e w' => e = .returned (.tuple #[.string n, .string r1, .int .i64 0]) ∧ Below W.heap.size W w'))
    (HD : Hid (∀ W, Calls Tryd.prog 65 #[.string t, .string g] W fun e w' => e = .returned (.tuple #[.string d, .string r2, .int .i64 0]) ∧ Below W.heap.size W w'))
    (t2 : (d.toList == [49]) = one) (hl : n.size + d.size ≤ 1000000) :
    Calls Tryd.prog 64 #[.string s, .string t] w (StE w (if one = true then n else n ++ ⟨#[47]⟩ ++ d) 0) := by
  cases one <;> simp only [if_true, Bool.false_eq_true, if_false]
  all_goals
    go_enter Tryd.func64, Tryd.ntmps64
    go_wp2_with fail
    refine (HB.out _).mono ?_
    rintro e w1 ⟨rfl, b1⟩
    have B1 := Lib.hid (b1)
    clear b1
    go_wp2_with fail
    refine (HG.out _).mono ?_
    rintro e w2 ⟨rfl, b2⟩
    have B2 := Lib.hid (B1.out.trans (b2.mono B1.out.size))
    clear b2
    go_wp2_with fail
    refine (HN.out _).mono ?_
    rintro e w3 ⟨rfl, b3⟩
    have B3 := Lib.hid (B2.out.trans (b3.mono B2.out.size))
    clear b3
    go_wp2_with fail
    refine (HD.out _).mono ?_
    rintro e w4 ⟨rfl, b4⟩
    have B4 := Lib.hid (B3.out.trans (b4.mono B3.out.size))
    clear b4
    go_wp2_with fail
    go_ret2
    exact ⟨rfl, B4.out⟩

theorem bs_one (z : Int) : ((⟨(txtZ z).toArray⟩ : ByteArray).toList == [49]) = decide (z = 1) := by
  rw [toList_data, Bool.eq_iff_iff, beq_iff_eq, decide_eq_true_eq]
  constructor
  · intro h
    have : txtZ z = txtZ 1 := h.trans txtZ_1.symm
    exact txtZ_inj this
  · intro h; rw [h]; exact txtZ_1
theorem rmake2_ok (x y : Int) (w : World) (bx : bigZ x = false) (byy : bigZ y = false) (hy : 0 < y) :
    Calls Tryd.prog 64 #[.string ⟨(txtZ x).toArray⟩, .string ⟨(txtZ y).toArray⟩] w (StE w ⟨(ratT (ratN x y) (ratD x y)).toArray⟩ 0) := by
  have lx := bs_len x bx
  have ly := bs_len y byy
  have hgp : 0 < Nat.gcd x.natAbs y.natAbs := Nat.gcd_pos_of_pos_right _ (by omega)
  have bg : bigZ (Nat.gcd x.natAbs y.natAbs : Int) = false := bigZ_le (Nat.gcd_le_right _ (by omega)) (by rw [show ((y.natAbs : Nat) : Int) = y by omega]; exact byy)
  have lg := bs_len _ bg
  have hN : ratN x y = x / (Nat.gcd x.natAbs y.natAbs : Int) := by unfold ratN; rw [if_neg (by omega)]
  have hD : ratD x y = y / (Nat.gcd x.natAbs y.natAbs : Int) := by unfold ratD; rw [show (y.natAbs : Int) = y by omega]
  have hro := ratOK_make (x := x) (y := y) (by omega) bx byy
  have ln := bs_len _ hro.2.2.1
  have ld := bs_len _ hro.2.2.2
  have h := rmake2_go ⟨(txtZ x).toArray⟩ ⟨(txtZ y).toArray⟩ ⟨(txtZ (Nat.gcd x.natAbs y.natAbs : Int)).toArray⟩ ⟨(txtZ (ratN x y)).toArray⟩ ⟨(txtZ (ratD x y)).toArray⟩ _ _ (decide (ratD x y = 1)) w (bs_pos y) (by rw [bs_zero]; exact decide_eq_false (by omega)) (by rw [bs_minus]; exact decide_eq_false (by omega))
    (Lib.hid fun W => by have := rboth_any ⟨(txtZ x).toArray⟩ ⟨(txtZ y).toArray⟩ W (by omega) (by omega); rwa [show (⟨(txtZ x).toArray⟩ : ByteArray).data.toList = txtZ x from rfl, show (⟨(txtZ y).toArray⟩ : ByteArray).data.toList = txtZ y from rfl, bothZ_ok bx byy] at this)
    (Lib.hid fun W => rgcd_of _ _ x y W rfl rfl bx byy (by omega) (by omega))
    (Lib.hid fun W => by rw [hN]; exact ridm_ok _ _ x _ W (by omega) (by omega) rfl rfl bx bg (by omega))
    (Lib.hid fun W => by rw [hD]; exact ridm_ok _ _ y _ W (by omega) (by omega) rfl rfl byy bg (by omega))
    (bs_one _) (by omega)
  have e : (if decide (ratD x y = 1) = true then (⟨(txtZ (ratN x y)).toArray⟩ : ByteArray) else ⟨(txtZ (ratN x y)).toArray⟩ ++ ⟨#[47]⟩ ++ ⟨(txtZ (ratD x y)).toArray⟩) = ⟨(ratT (ratN x y) (ratD x y)).toArray⟩ := by
    unfold ratT
    by_cases h1 : ratD x y = 1
    · rw [if_pos (decide_eq_true h1), if_pos h1]
    · rw [if_neg (by simpa using h1), if_neg h1]
      refine Go.WideShapes.bytes_inj ?_
      rw [bytes_app, bytes_app]
      simp
  rwa [e] at h

end Go.Proofs.YtnikhbdjlipcbaaDoor

namespace Go.Proofs.YtnikhbdjlipcbaaDoor
open Go.RowKit Go.Shelf

set_option maxHeartbeats 2000000 in
set_option maxRecDepth 100000 in
theorem rfrac_bad (s t : ByteArray) (e f : Int) (w : World) (h : (e != 0) = true ∨ (e != 0) = false ∧ (f != 0) = true) :
    Calls Tryd.prog 63 #[.string s, .string t, .int .i64 e, .int .i64 f] w (StE w ⟨#[]⟩ 14) := by
  rcases h with t1 | ⟨t1, t2⟩
  all_goals
    go_enter Tryd.func63, Tryd.ntmps63
    go_wp2_with fail
    go_ret2
    exact ⟨rfl, Below.refl _ _⟩
set_option maxHeartbeats 2000000 in
set_option maxRecDepth 100000 in
theorem rfrac_ok (s t r : ByteArray) (f : Int) (w : World) (HM : Hid (∀ W, Calls Tryd.prog 64 #[.string s, .string t] W (StE W r f))) :
    Calls Tryd.prog 63 #[.string s, .string t, .int .i64 0, .int .i64 0] w (StE w r f) := by
  go_enter Tryd.func63, Tryd.ntmps63
  go_wp2_with fail
  refine (HM.out _).mono ?_
  rintro e w1 ⟨rfl, b1⟩
  have B1 := Lib.hid (b1)
  clear b1
  go_wp2_with fail
  go_ret2
  exact ⟨rfl, B1.out⟩
set_option maxHeartbeats 2000000 in
set_option maxRecDepth 100000 in
theorem rmul2_go (a b x y r : ByteArray) (n1 d1 n2 d2 e f g : Int) (w : World)
    (HF : Hid (∀ W, Calls Tryd.prog 61 #[.string a, .string b] W (FourP W n1 d1 n2 d2)))
    (H1 : Hid (∀ W, Calls Tryd.prog 62 #[.string ⟨(txtZ n1).toArray⟩, .string ⟨(txtZ n2).toArray⟩] W (StE W x e)))
    (H2 : Hid (∀ W, Calls Tryd.prog 62 #[.string ⟨(txtZ d1).toArray⟩, .string ⟨(txtZ d2).toArray⟩] W (StE W y f)))
    (H3 : Hid (∀ W, Calls Tryd.prog 63 #[.string x, .string y, .int .i64 e, .int .i64 f] W (StE W r g))) :
    Calls Tryd.prog 26 #[.string a, .string b] w (StE w r g) := by
  go_enter Tryd.func26, Tryd.ntmps26
  go_wp2_with fail
  refine (HF.out _).mono ?_
  rintro e w1 ⟨rfl, b1⟩
  have B1 := Lib.hid (b1)
  clear b1
  go_wp2_with fail
  refine (H1.out _).mono ?_
  rintro e w2 ⟨rfl, b2⟩
  have B2 := Lib.hid (B1.out.trans (b2.mono B1.out.size))
  clear b2
  go_wp2_with fail
  refine (H2.out _).mono ?_
  rintro e w3 ⟨rfl, b3⟩
  have B3 := Lib.hid (B2.out.trans (b3.mono B2.out.size))
  clear b3
  go_wp2_with fail
  refine (H3.out _).mono ?_
  rintro e w4 ⟨rfl, b4⟩
  have B4 := Lib.hid (B3.out.trans (b4.mono B3.out.size))
  clear b4
  go_wp2_with fail
  go_ret2
  exact ⟨rfl, B4.out⟩

end Go.Proofs.YtnikhbdjlipcbaaDoor

namespace Go.Proofs.YtnikhbdjlipcbaaDoor
open Go.RowKit Go.Shelf

theorem rimul_st (x y : Int) (bx : bigZ x = false) (byy : bigZ y = false) : Hid (∀ W, Calls Tryd.prog 62 #[.string ⟨(txtZ x).toArray⟩, .string ⟨(txtZ y).toArray⟩] W (StE W ⟨(resT (x * y)).toArray⟩ (resF (x * y)))) := fun W =>
  rimul_ok _ _ x y W (by have := bs_len x bx; omega) (by have := bs_len y byy; omega) rfl rfl bx byy
theorem resF_b {z : Int} (h : bigZ z = true) : resF z = 14 := by unfold resF; rw [if_pos h]
theorem resF_s {z : Int} (h : ¬ bigZ z = true) : resF z = 0 := by unfold resF; rw [if_neg h]
theorem resT_s {z : Int} (h : ¬ bigZ z = true) : resT z = txtZ z := by unfold resT; rw [if_neg h]
theorem rmul2_ok (a b : ByteArray) (n1 d1 n2 d2 : Int) (w : World) (ha : a.size ≤ 100000) (hb : b.size ≤ 100000) (la : a.data.toList = ratT n1 d1) (lb : b.data.toList = ratT n2 d2) (h1 : RatOK n1 d1) (h2 : RatOK n2 d2) :
    Calls Tryd.prog 26 #[.string a, .string b] w (StE w (mulS n1 d1 n2 d2) (mulF n1 d1 n2 d2)) := by
  have HF := Lib.hid (fun W => rfour_ok a b n1 d1 n2 d2 W ha hb la lb h1 h2)
  obtain ⟨p1, _, bn1, bd1⟩ := h1
  obtain ⟨p2, _, bn2, bd2⟩ := h2
  refine rmul2_go a b _ _ _ n1 d1 n2 d2 _ _ _ w HF (rimul_st n1 n2 bn1 bn2) (rimul_st d1 d2 bd1 bd2) (Lib.hid fun W => ?_)
  unfold mulS mulF
  by_cases hb1 : bigZ (n1 * n2) = true
  · rw [if_pos (.inl hb1), if_pos (.inl hb1)]
    exact rfrac_bad _ _ _ _ W (.inl (by rw [resF_b hb1]; decide))
  · by_cases hb2 : bigZ (d1 * d2) = true
    · rw [if_pos (.inr hb2), if_pos (.inr hb2)]
      exact rfrac_bad _ _ _ _ W (.inr ⟨by rw [resF_s hb1]; decide, by rw [resF_b hb2]; decide⟩)
    · rw [if_neg (by rintro (h | h); exact hb1 h; exact hb2 h), if_neg (by rintro (h | h); exact hb1 h; exact hb2 h), resF_s hb1, resF_s hb2, resT_s hb1, resT_s hb2]
      exact rfrac_ok _ _ _ 0 W (Lib.hid fun W => rmake2_ok _ _ W (by simpa using hb1) (by simpa using hb2) (Int.mul_pos p1 p2))

end Go.Proofs.YtnikhbdjlipcbaaDoor
