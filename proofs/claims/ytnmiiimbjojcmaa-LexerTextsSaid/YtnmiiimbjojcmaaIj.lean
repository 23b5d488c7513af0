/-
  The reference's Check of rationals, joined. No condition.
-/
import Derived.Test.YtnmiiimbjojcmaaIi
namespace Go.Proofs.Ytnmiiimbjojcmaa
open Go.RowKit

theorem list_beq {l m : List UInt8} : (l == m) = false ↔ l ≠ m := by simp
theorem SEPost.g {w : World} {l : List UInt8} : SEPost w l 0 = GPost w ⟨l.toArray⟩ := rfl
theorem decN_1 : (decN (1 : Int).natAbs).length = 1 := by
  have : decN 1 = [1] := by unfold decN; rw [if_neg (by decide), decL_pos (by decide)]; show _ :: decL 0 = _; rw [decL_zero]
  show (decN 1).length = 1
  rw [this]; rfl
theorem bigZ_false {z : Int} (h : bigZ z = false) : (decN z.natAbs).length ≤ 1000 := by unfold bigZ at h; simpa using h
theorem bigZ_true {z : Int} (h : bigZ z = true) : 1000 < (decN z.natAbs).length := by unfold bigZ at h; simpa using h

/-- What the reference's Gcd comes to. -/
theorem rgcd_of (n d : ByteArray) (x y : Int) (W : World) (hn : n.data.toList = txtZ x) (hd : d.data.toList = txtZ y) (bx : bigZ x = false) (byy : bigZ y = false) (h1 : n.size ≤ 1000000) (h2 : d.size ≤ 1000000) :
    Calls Try.prog 37 #[.string n, .string d] W (GPost W ⟨(txtZ (Nat.gcd x.natAbs y.natAbs : Int)).toArray⟩) := rgcd_good n d x y W hn hd bx byy h1 h2

/-- An integer. -/
theorem rrat_int (s : ByteArray) (w : World) (hs : s.size ≤ 1000000) (h : slN s.data.toList = s.data.toList.length) :
    Calls Try.prog 19 #[.string s] w (ErrPost w (chkR s.data.toList)) := by
  have HW : Hid (Calls Try.prog 34 #[.string s] w (WrPost w s ⟨#[49]⟩)) := (written_int s w hs h).mono fun e w' ⟨e1, e2⟩ => ⟨e1, by subst e2; exact Below.refl _ _⟩
  have hd1 : rdZ (⟨#[49]⟩ : ByteArray).data.toList = some 1 := by show rdZ [49] = _; rw [← txtZ_1, rdZ_txtZ]
  have HD : Hid (∀ W, Calls Try.prog 35 #[.string ⟨#[49]⟩] W (DigYes W 1)) := fun W => digits_yes _ 1 W (by show (1 : Nat) ≤ _; omega) hd1
  have HS : Hid (∀ W, Calls Try.prog 36 #[.string s] W fun e w' => e = .returned (.int .i64 (-1)) ∧ W = w') := fun W => by
    have := slash_any s W hs
    rwa [slI_none h] at this
  rw [chkR_int h]
  rcases chkZ_cases s.data.toList with ⟨e1, e2⟩ | ⟨x, e1, e2, e3⟩
  · rw [e1]
    exact rc_ny s s _ 1 (fun W => digits_no s W hs e2) HD false rfl w HW
  · have HN : Hid (∀ W, Calls Try.prog 35 #[.string s] W (DigYes W x)) := fun W => digits_yes s x W hs e1
    cases hb : bigZ x with
    | true =>
      rw [e3, hb, if_pos rfl]
      exact rc_bigi s s _ x 1 HN HD _ rfl rfl (by rw [toList_data]; rfl) (-1) HS rfl (.inl (bigZ_true hb)) w HW
    | false =>
      rw [e3, hb, if_neg (by simp)]
      exact rc_gi s s _ x 1 HN HD _ rfl rfl (by rw [toList_data]; rfl) (-1) HS rfl _ (fun W => rgcd_of s ⟨#[49]⟩ x 1 W e2 txtZ_1.symm hb bigZ_one hs (by show (1 : Nat) ≤ _; omega)) ⟨bigZ_false hb, by rw [decN_1]; omega⟩ w HW

/-- A fraction. -/
theorem rrat_frac (s : ByteArray) (k : Nat) (w : World) (hs : s.size ≤ 1000000) (h : slN s.data.toList = k) (hk : k < s.size) :
    Calls Try.prog 19 #[.string s] w (ErrPost w (chkR s.data.toList)) := by
  rw [chkR_frac h (by rw [data_len]; exact hk)]
  have HW0 := written_frac s k w hs h hk
  have HSI : ∀ W, Calls Try.prog 36 #[.string s] W fun e w' => e = .returned (.int .i64 (k : Int)) ∧ W = w' := fun W => by
    have := slash_any s W hs
    rwa [slI_at h (by rw [data_len]; exact hk)] at this
  obtain ⟨n, hn⟩ : ∃ n, n = s.extract 0 k := ⟨_, rfl⟩
  obtain ⟨d, hd⟩ : ∃ d, d = s.extract (k + 1) s.size := ⟨_, rfl⟩
  rw [← hn, ← hd] at HW0
  have en : s.data.toList.take k = n.data.toList := by rw [hn, Lib.extract_data]; simp
  have ed : s.data.toList.drop (k + 1) = d.data.toList := by rw [hd, Lib.extract_to_end]
  rw [en, ed]
  have sn : n.size ≤ 1000000 := by rw [hn]; simp; omega
  have sd : d.size ≤ 1000000 := by rw [hd]; simp; omega
  have HW : Hid (Calls Try.prog 34 #[.string s] w (WrPost w n d)) := HW0.mono fun e w' ⟨e1, q, e2⟩ => ⟨e1, by subst e2; exact below_drewN (Below.refl _ _) q⟩
  have HS := Lib.hid HSI
  have hi : decide ((0 : Int) ≤ (k : Int)) = true := by simp
  clear HW0 HSI hn hd en ed h hk
  rcases chkZ_cases n.data.toList with ⟨n1, n2⟩ | ⟨x, n1, n2, n3⟩
  · rw [chkF_12 (.inl n1)]
    rcases chkZ_cases d.data.toList with ⟨d1, d2⟩ | ⟨y, d1, d2, d3⟩
    · exact rc_nn s n d (fun W => digits_no n W sn n2) (fun W => digits_no d W sd d2) w HW
    · exact rc_ny s n d y (fun W => digits_no n W sn n2) (fun W => digits_yes d y W sd d1) _ rfl w HW
  · have HN : Hid (∀ W, Calls Try.prog 35 #[.string n] W (DigYes W x)) := fun W => digits_yes n x W sn n1
    rcases chkZ_cases d.data.toList with ⟨d1, d2⟩ | ⟨y, d1, d2, d3⟩
    · rw [chkF_12 (.inr (.inl d1))]
      exact rc_yn s n d x HN (fun W => digits_no d W sd d2) _ rfl w HW
    · have HD : Hid (∀ W, Calls Try.prog 35 #[.string d] W (DigYes W y)) := fun W => digits_yes d y W sd d1
      by_cases hy : y < 0
      · rw [chkF_12 (.inr (.inr (.inl (by rw [d2, txtZ_head]; exact hy))))]
        exact rc_neg s n d x y HN HD _ rfl (by show decide _ = true; simpa using hy) w HW
      · have hy' : decide (y < 0) = false := by simpa using hy
        by_cases h0 : d.data.toList = [48]
        · rw [chkF_12 (.inr (.inr (.inr (.inl h0))))]
          exact rc_zero s n d x y HN HD _ rfl hy' (by rw [toList_data, h0]; rfl) w HW
        · have h0' : (d.toList == [48]) = false := by rw [toList_data]; exact list_beq.2 h0
          by_cases h1 : d.data.toList = [49]
          · rw [chkF_12 (.inr (.inr (.inr (.inr h1))))]
            exact rc_one s n d x y HN HD _ rfl hy' h0' (by rw [toList_data, h1]; rfl) _ HS hi w HW
          · have h1' : (d.toList == [49]) = false := by rw [toList_data]; exact list_beq.2 h1
            have ef : chkF n.data.toList d.data.toList = if bigZ x = true ∨ bigZ y = true then 14 else if Nat.gcd x.natAbs y.natAbs = 1 then 0 else 12 := by
              rw [n2, d2]; exact chkF_some x y (by omega) (by rw [← d2]; exact h0) (by rw [← d2]; exact h1)
            rw [ef]
            by_cases hb : bigZ x = true ∨ bigZ y = true
            · rw [if_pos hb]
              exact rc_big s n d x y HN HD _ rfl hy' h0' h1' _ HS hi (by
                rcases hb with hb | hb
                · exact .inl (bigZ_true hb)
                · exact .inr (bigZ_true hb)) w HW
            · rw [if_neg hb]
              have bx : bigZ x = false := by cases h : bigZ x with | false => rfl | true => exact absurd (.inl h) hb
              have by2 : bigZ y = false := by cases h : bigZ y with | false => rfl | true => exact absurd (.inr h) hb
              have HG : Hid (∀ W, Calls Try.prog 37 #[.string n, .string d] W (GPost W ⟨(txtZ (Nat.gcd x.natAbs y.natAbs : Int)).toArray⟩)) := fun W => rgcd_of n d x y W n2 d2 bx by2 sn sd
              by_cases hg : Nat.gcd x.natAbs y.natAbs = 1
              · rw [if_pos hg]
                exact rc_gyes s n d x y HN HD _ rfl hy' h0' h1' _ HS hi _ HG ⟨bigZ_false bx, bigZ_false by2⟩ (by rw [toList_data, hg]; show ((txtZ ((1 : Nat) : Int)) == [49]) = true; rw [(txtZ_one 1).2 rfl]; rfl) w HW
              · rw [if_neg hg]
                exact rc_gno s n d x y HN HD _ rfl hy' h0' h1' _ HS hi _ HG ⟨bigZ_false bx, bigZ_false by2⟩ (by rw [toList_data]; exact list_beq.2 (fun h => hg ((txtZ_one _).1 h))) w HW

theorem rrat_any (s : ByteArray) (w : World) (hs : s.size ≤ 1000000) :
    Calls Try.prog 19 #[.string s] w (ErrPost w (chkR s.data.toList)) := by
  by_cases h : slN s.data.toList < s.size
  · exact rrat_frac s _ w hs rfl h
  · exact rrat_int s w hs (by have := slN_le s.data.toList; rw [data_len] at this ⊢; omega)

end Go.Proofs.Ytnmiiimbjojcmaa
