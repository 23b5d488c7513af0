/-
  The law LexerTexts walked. No condition.
-/
import Derived.Test.YtnmiiimbjojcmaaLf
namespace Go.Proofs.Ytnmiiimbjojcmaa
open Go.RowKit

def zeroTk : Value := .agg #[.int .u8 0, .string ByteArray.empty, .string ByteArray.empty, .int .i64 0, .int .i64 0]
theorem infoTk : (Try.prog.info? 29).map (fun i => (i.zero, i.size, i.bytes)) = some (some zeroTk, 5, 56) := by kernel_rfl
theorem info_partsN {P : Program} {e : TypeId} {z : Value} {s b : Nat} (h : (P.info? e).map (fun i => (i.zero, i.size, i.bytes)) = some (some z, s, b)) : ∃ i, P.info? e = some i ∧ i.zero = some z ∧ i.size = s ∧ i.bytes = b := by
  obtain ⟨i, hi, he⟩ := Option.map_eq_some_iff.1 h
  simp only [Prod.mk.injEq] at he
  exact ⟨i, hi, he.1, he.2.1, he.2.2⟩
theorem rowAtN_of_owns {w : World} {base size : Nat} {e : TypeId} {v : Value} {n : Nat} {xs : List Value} (h : w.ownsRow base e size v n xs) :
    (v = .slice none 0 0 ∧ n = 0 ∧ xs = []) ∨ ∃ g cap, v = .slice (some ⟨g, 0, none⟩) n cap ∧ base ≤ g ∧ n ≤ cap ∧ cap ≤ maxLen ∧ xs.length = n * size ∧ RowAt w g e xs := by
  obtain ⟨h1, h2⟩ := h
  rcases h2 with ⟨rfl, rfl⟩ | ⟨g, cap, cur, rfl, hb, hg, hn, hm, hs, ht⟩
  · exact .inl ⟨rfl, rfl, List.eq_nil_of_length_eq_zero (by simpa using h1)⟩
  · have hle : n * size ≤ cap * size := Nat.mul_le_mul_right _ hn
    refine .inr ⟨g, cap, rfl, hb, hn, hm, h1, cur, hg, by omega, fun i hi => ?_⟩
    rw [← ht, List.getElem?_take_of_lt (by omega)]
    simp

/-- The loop of the law. -/
def LtR (n : Nat) (w : World) (v : Value) (wr : World) : Prop := ∃ k : Nat, k ≤ n ∧ v = .int .i64 (k : Int) ∧ Below w.heap.size w wr
/-- What a token's text and error are. -/
noncomputable def tkS (x : Tk) : ByteArray := if tkB x = true then txT x else ⟨#[]⟩
def tkE (x : Tk) : Int := if tkB x = true then 0 else 8
theorem tkE_eq (x : Tk) : (tkE x == 0) = tkB x := by unfold tkE; cases tkB x <;> rfl
theorem tp_tk {W : World} {x : Tk} {e : Ending} {w' : World} (h : (if tkB x = true then TPost W (txT x) 0 else TPost W ⟨#[]⟩ 8) e w') : TPost W (tkS x) (tkE x) e w' := by
  unfold tkS tkE; cases hb : tkB x <;> rw [hb] at h <;> exact h

set_option maxHeartbeats 4000000 in
set_option maxRecDepth 100000 in
theorem law_some (g o n c : Nat) (l : List Tk) (w : World) (hl : l.length = n) (hn : n ≤ 300) (hn1 : 1 ≤ n) (hg : g < w.heap.size) (h : Tks w g o l) :
    Calls Try.prog 3 #[.slice (some ⟨g, o, none⟩) n c] w (BelB w true) := by
  obtain ⟨i0, hi, hz0, hz1, hz2⟩ := info_partsN infoTk
  have HL := Lib.hid hl
  have HH := Lib.hid h
  have HG := Lib.hid (fun W hW => great_any g o n c l W hl hn hW)
  have hlit : (w.alloc (.cells #[] 29)).ownsRow w.heap.size 29 5 (.slice (some ⟨w.heap.size, 0, none⟩) 0 0) 0 [] := World.ownsRow_lit w #[] 0 (Nat.le_refl _) (by unfold maxLen; omega) (by simp)
  clear hl h
  go_enter Try.func3, Try.ntmps3
  go_wp2_with fail
  refine (HG.out _ HH.out).mono ?_
  rintro e w' ⟨rfl, rfl | ⟨rfl, hs⟩⟩
  · go_wp2_with fail
    go_ret
    exact ⟨rfl, Below.refl _ _⟩
  have HS := Lib.hid hs
  clear hs HG
  go_wp2_with (at_builtin; refine wpList_append_own _ rfl (.tmp 15) (.tmp 16) 22 rfl w.heap.size 29 i0 zeroTk 5 56 Try.underlying22 hi hz0 hz1 hz2 rfl (by decide) _ _ _ rfl hlit ⟨g, o, none⟩ n c (tks l) rfl ?c0 ?c1 ?c2 ?c3 ?c4 ?c5 ?_)
  case c0 => rw [tks_length, HL.out]
  case c1 =>
    intro j u hj
    rw [show (⟨g, o, none⟩ : Addr).add j = ⟨g, o + j, none⟩ by simp [Addr.add], World.cell?_alloc_past _ _ _ (by show g < _; omega)]
    exact tks_cell HH.out j u hj
  case c2 => exact tks_one l
  case c3 => unfold maxLen; omega
  case c4 => omega
  case c5 => simp
  intro v7 w2 ho hgr _
  have n1 : Hid (Below w.heap.size w w2) := ((Below.refl _ _).alloc (Nat.le_refl _) _).grown hgr (by simp) (fun k hk => by simp [Value.ownBlock] at hk; omega)
  have h7 : ∃ g7 c7, v7 = .slice (some ⟨g7, 0, none⟩) n c7 ∧ RowAt w2 g7 29 (tks l) := by
    rcases rowAtN_of_owns ho with ⟨_, h, _⟩ | ⟨g, cap, h, h1, h2, h3, h4, h5⟩
    · omega
    · exact ⟨g, cap, h, by simpa using h5⟩
  obtain ⟨g7, c7, rfl, r7⟩ := h7
  have hg7 := r7.lt
  have H7 := Lib.hid (tks_of_row r7)
  have H2 := Lib.hid (tks_below HH.out n1.out hg)
  have hg2 : g < w2.heap.size := Nat.lt_of_lt_of_le hg n1.out.size
  clear ho hgr hlit hi hz0 hz1 hz2 r7 HH hg
  go_wp2_with fail
  go_loopw [4] (LtR n w2) (fun v _ => n - (intOf v).toNat)
  case atStart => exact ⟨0, Nat.zero_le _, rfl, Below.refl _ _⟩
  case round =>
    obtain ⟨w3, rfl⟩ : ∃ w3 : World, w3 = wr := ⟨_, rfl⟩
    obtain ⟨k, hk, rfl, hbel⟩ := hrel
    have HB := Lib.hid hbel
    have hg3 : g < w3.heap.size := Nat.lt_of_lt_of_le hg2 hbel.size
    have H3 := Lib.hid (tks_below H2.out hbel hg2)
    by_cases hlt : k < n ∧ k < 40
    · obtain ⟨hlt, h40⟩ := hlt
      have t1 : decide ((k : Int) < (n : Int)) = true := by simp; omega
      have t2 : decide ((k : Int) < 40) = true := by simp; omega
      obtain ⟨x, hx⟩ : ∃ x, x = l[k]?.getD default := ⟨_, rfl⟩
      have hbig := HS.out k hlt
      rw [← hx] at hbig
      unfold bigTk at hbig
      have hA : ∀ W, Tks W g o l → TkAt W g (o + k * 5) x := fun W hW => by rw [hx]; exact hW k (by have := HL.out; omega)
      have HP : Hid (∀ W, Calls Try.prog 5 #[.agg #[.int .u8 x.kind, .string x.text, .string x.rat, .int .i64 x.date, .int .i64 x.place]] W (TPost W (tkS x) (tkE x))) := fun W => (ptext_tk x W (by omega) (by omega)).mono fun _ _ h => tp_tk h
      have HR : Hid (∀ W, Calls Try.prog 6 #[.agg #[.int .u8 x.kind, .string x.text, .string x.rat, .int .i64 x.date, .int .i64 x.place]] W (TPost W (tkS x) (tkE x))) := fun W => (rtext_tk x W (by omega) (by omega)).mono fun _ _ h => tp_tk h
      have HC : Hid (∀ W, Calls Try.prog 7 #[.agg #[.int .u8 x.kind, .string x.text, .string x.rat, .int .i64 x.date, .int .i64 x.place]] W fun e w' => e = .returned (.int .i64 (tkE x)) ∧ Below W.heap.size W w') := fun W => check_tk x W (by omega)
      have HV : Hid (∀ W, Calls Try.prog 8 #[.agg #[.int .u8 x.kind, .string x.text, .string x.rat, .int .i64 x.date, .int .i64 x.place]] W fun e w' => e = .returned (.bool (tkB x)) ∧ Below W.heap.size W w') := fun W => valid_tk x W (by omega)
      have hE := tkE_eq x
      obtain ⟨S, hS⟩ : ∃ S, S = tkS x := ⟨_, rfl⟩
      obtain ⟨E, hE'⟩ : ∃ E, E = tkE x := ⟨_, rfl⟩
      obtain ⟨b, hb⟩ : ∃ b, b = tkB x := ⟨_, rfl⟩
      rw [← hS, ← hE'] at HP HR
      rw [← hE'] at HC hE
      rw [← hb] at HV hE
      have HA := Lib.hid hA
      obtain ⟨a0, a1, a2, a3, a4⟩ := hA w3 H3.out
      clear hx hbig hA hS hE' hb hbel
      go_wp2_with fail
      refine (HP.out _).mono ?_
      rintro e w4 ⟨rfl, b4⟩
      have B4 := Lib.hid (HB.out.trans (b4.mono HB.out.size))
      have H4 := Lib.hid (tks_below H3.out b4 hg3)
      have hg4 : g < w4.heap.size := Nat.lt_of_lt_of_le hg3 b4.size
      clear b4 a0 a1 a2 a3 a4
      obtain ⟨a0, a1, a2, a3, a4⟩ := HA.out w4 H4.out
      go_wp2_with fail
      refine (HR.out _).mono ?_
      rintro e w5 ⟨rfl, b5⟩
      have B5 := Lib.hid (B4.out.trans (b5.mono B4.out.size))
      have H5 := Lib.hid (tks_below H4.out b5 hg4)
      clear b5 a0 a1 a2 a3 a4
      have ha := HA.out w5 H5.out
      have p0 : ∀ p : BelOf w5, p.u.cell? ⟨g, o + k * 5, none⟩ = some (.int .u8 x.kind) := fun p => (ha.bel p).1
      have p1 : ∀ p : BelOf w5, p.u.cell? ⟨g, o + k * 5 + 1, none⟩ = some (.string x.text) := fun p => (ha.bel p).2.1
      have p2 : ∀ p : BelOf w5, p.u.cell? ⟨g, o + k * 5 + 2, none⟩ = some (.string x.rat) := fun p => (ha.bel p).2.2.1
      have p3 : ∀ p : BelOf w5, p.u.cell? ⟨g, o + k * 5 + 3, none⟩ = some (.int .i64 x.date) := fun p => (ha.bel p).2.2.2.1
      have p4 : ∀ p : BelOf w5, p.u.cell? ⟨g, o + k * 5 + 4, none⟩ = some (.int .i64 x.place) := fun p => (ha.bel p).2.2.2.2
      clear ha
      go_upto_region 9 with (fail)
      refine region_bel (by kernel_rfl) (by kernel_rfl) ?_
      repeat (quiet_step (first
        | (go_at_call 7; exact bel_of (HC.out _))
        | (go_at_call 8; exact bel_of (HV.out _))))
      refine wpQuiet_nil ?_
      intro w6' hw6
      obtain ⟨⟨w6, hb6⟩, hw7⟩ := hw6
      subst hw7
      have B6 := Lib.hid (B5.out.trans (hb6.mono B5.out.size))
      clear hb6 p0 p1 p2 p3 p4
      go_wp2_with fail
      go_roundw
      case rel => exact ⟨k + 1, by omega, by go_num, B6.out⟩
      case measure => simp [intOf]; omega
    · have HJ1 := Lib.hid (fun W hW hgW => join_any g o n c l W HL.out hn hgW hW HS.out)
      have HJ2 := Lib.hid (fun W hW hgW => rjoin_any g o n c l W HL.out hn hgW hW HS.out)
      have HSM := Lib.hid (fun W hg1 hg2 h1 h2 => same_tk g o g7 0 c c7 n l W HL.out (by omega) hg1 hg2 h1 h2)
      obtain ⟨J, hJ⟩ : ∃ J, J = (jR l n).1 := ⟨_, rfl⟩
      obtain ⟨M, hM⟩ : ∃ M, M = (jR l n).2 := ⟨_, rfl⟩
      rw [← hJ, ← hM] at HJ1 HJ2
      clear hJ hM hbel
      have hend : k = n ∨ (k < n ∧ 40 ≤ k) := by omega
      clear hlt
      rcases hend with rfl | ⟨e1, e2⟩
      all_goals
        go_wp2_with fail
        refine (HJ1.out _ H3.out hg3).mono ?_
        rintro e w4 ⟨rfl, b4⟩
        have B4 := Lib.hid (HB.out.trans (b4.mono HB.out.size))
        have H4 := Lib.hid (tks_below H3.out b4 hg3)
        have hg4 : g < w4.heap.size := Nat.lt_of_lt_of_le hg3 b4.size
        clear b4
        go_wp2_with fail
        refine (HJ2.out _ H4.out hg4).mono ?_
        rintro e w5 ⟨rfl, b5⟩
        have B5 := Lib.hid (B4.out.trans (b5.mono B4.out.size))
        have H5 := Lib.hid (tks_below H4.out b5 hg4)
        have H75 := Lib.hid (tks_below H7.out B5.out hg7)
        have hg5 : g < w5.heap.size := Nat.lt_of_lt_of_le hg4 b5.size
        have hg75 : g7 < w5.heap.size := Nat.lt_of_lt_of_le hg7 B5.out.size
        clear b5
        go_wp2_with fail
        refine (HSM.out _ hg5 hg75 H5.out H75.out).mono ?_
        rintro e w6 ⟨rfl, b6⟩
        have B6 := Lib.hid (n1.out.trans ((B5.out.trans (b6.mono B5.out.size)).mono n1.out.size))
        clear b6
        go_wp2_with fail
        go_ret
        exact ⟨rfl, B6.out⟩

end Go.Proofs.Ytnmiiimbjojcmaa
