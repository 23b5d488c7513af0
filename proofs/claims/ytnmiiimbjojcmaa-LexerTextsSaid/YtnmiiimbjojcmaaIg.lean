/-
  The reference's Check, Both, Gcd. No condition.
-/
import Derived.Test.YtnmiiimbjojcmaaIf
namespace Go.Proofs.Ytnmiiimbjojcmaa
open Go.RowKit

theorem decN_mono {a b : Nat} (h : a ≤ b) : (decN a).length ≤ (decN b).length := by
  have h1 : 1 ≤ (decN b).length := List.length_pos_iff.2 (decN_ne b)
  exact (decN_len_le a _ h1).2 (Nat.lt_of_le_of_lt h ((decN_len_le b _ h1).1 (Nat.le_refl _)))

/-- An error is handed back. -/
def ErrPost (w : World) (n : Int) (e : Ending) (w' : World) : Prop := e = .returned (.int .i64 n) ∧ Below w.heap.size w w'

set_option maxHeartbeats 1000000 in
set_option maxRecDepth 100000 in
theorem rcheck_any (s : ByteArray) (w : World) (hs : s.size ≤ 1000000) :
    Calls Try.prog 67 #[.string s] w (ErrPost w (chkZ s.data.toList)) := by
  have hd := digits_any s w hs
  obtain ⟨l, hl⟩ : ∃ l, l = s.data.toList := ⟨_, rfl⟩
  rw [← hl] at hd ⊢
  obtain ⟨E, hE⟩ : ∃ E, E = chkZ l := ⟨_, rfl⟩
  rw [← hE]
  have HE := Lib.hid hE
  have HD := Lib.hid hd
  have HL := Lib.hid hl
  clear hd hE hl
  go_enter Try.func67, Try.ntmps67
  go_wp2_with fail
  refine HD.out.mono ?_
  rintro e w1 (⟨z, a, n, c, e1, rfl, e2, e3, e4, e5⟩ | ⟨e1, rfl, e2⟩)
  · have hE2 := HE.out
    rw [rdZ_some e1, chkZ_txtZ] at hE2
    unfold bigZ at hE2
    rw [e2] at hE2
    have HB := Lib.hid e5
    clear e1 e2 e3 e4 e5
    by_cases hb : 1000 < n
    · have e : E = 14 := by rw [hE2]; simp [hb]
      have HX := Lib.hid e
      clear e hE2
      go_wp2_with fail
      go_ret
      exact ⟨ret_int HX.out.symm, HB.out⟩
    · have e : E = 0 := by rw [hE2]; simp [hb]
      have HX := Lib.hid e
      clear e hE2
      go_wp2_with fail
      go_ret
      exact ⟨ret_int HX.out.symm, HB.out⟩
  · have e : E = 12 := by rw [HE.out]; exact chkZ_none e1
    have HX := Lib.hid e
    have HB := Lib.hid e2
    clear e e1 e2
    go_wp2_with fail
    go_ret
    exact ⟨ret_int HX.out.symm, HB.out⟩

/-- The error of two integers. -/
def bothZ (a b : List UInt8) : Int := if chkZ a = 0 then chkZ b else chkZ a

set_option maxHeartbeats 1000000 in
set_option maxRecDepth 100000 in
theorem rboth_any (s t : ByteArray) (w : World) (hs : s.size ≤ 1000000) (ht : t.size ≤ 1000000) :
    Calls Try.prog 48 #[.string s, .string t] w (ErrPost w (bothZ s.data.toList t.data.toList)) := by
  have hcs := fun W => rcheck_any s W hs
  have hct := fun W => rcheck_any t W ht
  obtain ⟨E, hE⟩ : ∃ E, E = bothZ s.data.toList t.data.toList := ⟨_, rfl⟩
  obtain ⟨a, ha⟩ : ∃ a, a = chkZ s.data.toList := ⟨_, rfl⟩
  obtain ⟨b, hb⟩ : ∃ b, b = chkZ t.data.toList := ⟨_, rfl⟩
  rw [← hE]
  unfold bothZ at hE
  rw [← ha, ← hb] at hE
  rw [← ha] at hcs
  rw [← hb] at hct
  have HCS := Lib.hid hcs
  have HCT := Lib.hid hct
  have HE := Lib.hid hE
  clear hcs hct hE ha hb
  by_cases h : a = 0
  · have t1 : (a != 0) = false := by simpa using h
    have hx : E = b := by rw [HE.out, if_pos h]
    have HX := Lib.hid hx
    clear hx h
    go_enter Try.func48, Try.ntmps48
    go_wp2_with fail
    refine (HCS.out _).mono ?_
    rintro e w1 ⟨rfl, b1⟩
    have B1 := Lib.hid b1
    clear b1
    go_wp2_with fail
    refine (HCT.out _).mono ?_
    rintro e w2 ⟨rfl, b2⟩
    have B2 := Lib.hid b2
    clear b2
    go_wp2_with fail
    go_ret
    exact ⟨ret_int HX.out.symm, B1.out.trans (B2.out.mono B1.out.size)⟩
  · have t1 : (a != 0) = true := by simpa using h
    have hx : E = a := by rw [HE.out, if_neg h]
    have HX := Lib.hid hx
    clear hx h
    go_enter Try.func48, Try.ntmps48
    go_wp2_with fail
    refine (HCS.out _).mono ?_
    rintro e w1 ⟨rfl, b1⟩
    have B1 := Lib.hid b1
    clear b1
    go_wp2_with fail
    refine (HCS.out _).mono ?_
    rintro e w2 ⟨rfl, b2⟩
    have B2 := Lib.hid b2
    clear b2
    go_wp2_with fail
    go_ret
    exact ⟨ret_int HX.out.symm, B1.out.trans (B2.out.mono B1.out.size)⟩

/-- A text and an error are handed back. -/
def SEPost (w : World) (l : List UInt8) (n : Int) (e : Ending) (w' : World) : Prop := e = .returned (.tuple #[.string ⟨l.toArray⟩, .int .i64 n]) ∧ Below w.heap.size w w'

set_option maxHeartbeats 1000000 in
set_option maxRecDepth 100000 in
theorem rgcd_bad (s t : ByteArray) (w : World) (hs : s.size ≤ 1000000) (ht : t.size ≤ 1000000) (h : bothZ s.data.toList t.data.toList ≠ 0) :
    Calls Try.prog 37 #[.string s, .string t] w (SEPost w [] (bothZ s.data.toList t.data.toList)) := by
  have hb := rboth_any s t w hs ht
  obtain ⟨E, hE⟩ : ∃ E, E = bothZ s.data.toList t.data.toList := ⟨_, rfl⟩
  rw [← hE] at hb h ⊢
  have HB := Lib.hid hb
  have t1 : (E != 0) = true := by simpa using h
  clear hb hE h
  go_enter Try.func37, Try.ntmps37
  go_wp2_with fail
  refine HB.out.mono ?_
  rintro e w1 ⟨rfl, b1⟩
  have B1 := Lib.hid b1
  clear b1
  go_wp2_with fail
  go_ret2
  exact ⟨rfl, B1.out⟩

/-- Euclid's loop. -/
def GcR (w : World) (G : Nat) (gk : Nat) (xv yv : Value) (wr : World) : Prop :=
  ∃ (a b : Option Addr) (n m c d : Nat) (X Y : List Nat), gk = dval Y ∧ xv = .slice a n c ∧ yv = .slice b m d ∧ X.length = n ∧ Y.length = m ∧ n ≤ 5000 ∧ m ≤ 5000 ∧ n ≤ c ∧ m ≤ d ∧
    (∀ x ∈ X, x < 10) ∧ (∀ x ∈ Y, x < 10) ∧ Nums .i64 wr a X ∧ Nums .i64 wr b Y ∧ Nat.gcd (dval X) (dval Y) = G ∧ (decN (dval Y)).length ≤ 1000 ∧ Below w.heap.size w wr

set_option maxHeartbeats 1000000 in
set_option maxRecDepth 100000 in
theorem rgcd_good (s t : ByteArray) (x y : Int) (w : World) (hx : s.data.toList = txtZ x) (hy : t.data.toList = txtZ y) (bx : bigZ x = false) (byy : bigZ y = false) (hs : s.size ≤ 1000000) (ht : t.size ≤ 1000000) :
    Calls Try.prog 37 #[.string s, .string t] w (SEPost w (txtZ (Nat.gcd x.natAbs y.natAbs : Int)) 0) := by
  have hb := rboth_any s t w hs ht
  have hz : bothZ s.data.toList t.data.toList = 0 := by
    unfold bothZ; rw [hx, hy, chkZ_txtZ, chkZ_txtZ, bx, byy]; rfl
  rw [hz] at hb
  have hcs := fun W => digits_any s W hs
  have hct := fun W => digits_any t W ht
  rw [hx] at hcs
  rw [hy] at hct
  have lx : (decN x.natAbs).length ≤ 1000 := by unfold bigZ at bx; simpa using bx
  have ly : (decN y.natAbs).length ≤ 1000 := by unfold bigZ at byy; simpa using byy
  obtain ⟨G, hG⟩ : ∃ G, G = Nat.gcd x.natAbs y.natAbs := ⟨_, rfl⟩
  rw [← hG]
  have HG := Lib.hid hG
  have HB := Lib.hid hb
  have HCS := Lib.hid hcs
  have HCT := Lib.hid hct
  clear hb hcs hct hx hy hz bx byy hG
  go_enter Try.func37, Try.ntmps37
  go_wp2_with fail
  refine HB.out.mono ?_
  rintro e w1 ⟨rfl, b1⟩
  have B1 := Lib.hid b1
  clear b1
  go_wp2_with fail
  refine (HCS.out _).mono ?_
  rintro e w2 (⟨z, a, n, c, e1, rfl, e2, e3, e4, e5⟩ | ⟨e1, _⟩)
  case inr => rw [rdZ_txtZ] at e1; cases e1
  rw [rdZ_txtZ] at e1
  injection e1 with e1
  subst e1
  have B2 := Lib.hid e5
  have N2 := Lib.hid e4
  have L2 := Lib.hid e2
  clear e2 e4 e5
  go_wp2_with fail
  refine (HCT.out _).mono ?_
  rintro e w3 (⟨z, b, m, d, e1, rfl, e2, e4, e5, e6⟩ | ⟨e1, _⟩)
  case inr => rw [rdZ_txtZ] at e1; cases e1
  rw [rdZ_txtZ] at e1
  injection e1 with e1
  subst e1
  have st : GcR w G y.natAbs (.slice a n c) (.slice b m d) w3 :=
    ⟨a, b, n, m, c, d, decN x.natAbs, decN y.natAbs, (dval_decN _).symm, rfl, rfl, L2.out, e2, by rw [← L2.out]; omega, by omega, e3, e4, decN_lt _, decN_lt _, N2.out.below e6, e5, by rw [dval_decN, dval_decN]; exact HG.out.symm, by rw [dval_decN]; exact ly,
      (B1.out.trans (B2.out.mono B1.out.size)).trans (e6.mono (by have := B1.out.size; have := B2.out.size; omega))⟩
  have ST := Lib.hid st
  clear st e2 e5 e6 N2 L2 B1 B2 e3 e4 HB HCS HCT
  go_wp2_with fail
  go_loopg [7, 10] y.natAbs (fun k xv yv wr => GcR w G k xv yv wr)
  case atStart => exact ST.out
  case round =>
    obtain ⟨w4, rfl⟩ : ∃ w4 : World, w4 = wr := ⟨_, rfl⟩
    obtain ⟨a, b, n, m, c, d, X, Y, rfl, rfl, rfl, h1, h2, h3, h4, h5, h6, h7, h8, h9, h10, h11, h12, h13⟩ := hrel
    have hz := zero_any b m d Y w4 h2 (by omega) h8 h10
    have N1 := Lib.hid h9
    have N2 := Lib.hid h10
    have D1 := Lib.hid h7
    have D2 := Lib.hid h8
    have L1 := Lib.hid h1
    have L2 := Lib.hid h2
    have GG := Lib.hid h11
    have BB := Lib.hid h13
    by_cases hy0 : dval Y = 0
    · have e : decide (dval Y = 0) = true := by simpa using hy0
      rw [e] at hz
      have HZ := Lib.hid hz
      have hG2 : dval X = G := by rw [← h11, hy0, Nat.gcd_zero_right]
      have htx := text_any a n c X false w4 h1 (by omega) h7 h9
      have e2 : (if false = true then -(dval X : Int) else (dval X : Int)) = (G : Int) := by simp [hG2]
      rw [e2] at htx
      have HT := Lib.hid htx
      clear h1 h2 h7 h8 h9 h10 h11 h13 hz e hy0 hG2 htx e2
      go_wp2_with fail
      refine HZ.out.mono ?_
      rintro e w' ⟨rfl, rfl⟩
      go_wp2_with fail
      refine HT.out.mono ?_
      rintro e w5 ⟨rfl, b5⟩
      have B5 := Lib.hid b5
      clear b5
      go_wp2_with fail
      go_ret2
      exact ⟨rfl, BB.out.trans (B5.out.mono BB.out.size)⟩
    · have e : decide (dval Y = 0) = false := by simpa using hy0
      rw [e] at hz
      have HZ := Lib.hid hz
      have hdv := ddivide_any a b n m c d X Y w4 h1 h2 (by omega) (by omega) h6 h7 h8 (by omega) h9 h10
      have HDV := Lib.hid hdv
      have hyp : 0 < dval Y := by omega
      have HYP := Lib.hid hyp
      clear h1 h2 h7 h8 h9 h10 h11 h13 hz e hy0 hdv hyp
      go_wp2_with fail
      refine HZ.out.mono ?_
      rintro e w' ⟨rfl, rfl⟩
      go_wp2_with fail
      refine HDV.out.mono ?_
      rintro e w5 ⟨a1, c1, q, a2, c2, r, rfl, q1, q2, q3, q4, q5, q6, q7, q8, q9, q10, q11⟩
      have hst : GcR w G (dval r) (.slice b m d) (.slice a2 r.length c2) w5 := by
        have hlt : dval r < dval Y := by rw [q9]; exact Nat.mod_lt _ HYP.out
        refine ⟨b, a2, m, r.length, d, c2, Y, r, rfl, rfl, rfl, L2.out, rfl, h4, by omega, h6, q2, D2.out, q7, N2.out.below q11, q5, ?_, ?_, BB.out.trans (q11.mono BB.out.size)⟩
        · rw [q9, Nat.gcd_comm, ← Nat.gcd_rec, Nat.gcd_comm]; exact GG.out
        · have := decN_mono (Nat.le_of_lt hlt); omega
      have hms : dval r < dval Y := by rw [q9]; exact Nat.mod_lt _ HYP.out
      have HST := Lib.hid hst
      have HMS := Lib.hid hms
      clear q1 q2 q3 q4 q5 q6 q7 q8 q9 q10 q11 hst hms
      go_wp2_with fail
      go_roundg (dval r)
      case measure => exact HMS.out
      case rel => exact HST.out

end Go.Proofs.Ytnmiiimbjojcmaa
