/-
  The lexer's laws: what they all call (Lex at texts that are known; word, number, mark; wrong; alive). No condition.
-/
import Derived.Test.YtnmiiimbjojcmaaDoorXg
import Derived.Test.YtnmiiimbjojcmaaDoorXb
import Derived.Test.YtnmiiimbjojcmaaDoorVa
namespace Go.Proofs.YtnmiiimbjojcmaaDoor
open Go.RowKit Go.Shelf

/-- Lex where there is a token. -/
def LexY (w : World) (len : Nat) (ts : List Tk) (n : Nat) (e : Ending) (w' : World) : Prop :=
  ∃ g c, e = .returned (.tuple #[.slice (some ⟨g, 0, none⟩) n c, .int .i64 (len : Int), .int .i64 0]) ∧ Tks w' g 0 ts ∧ w.heap.size ≤ g ∧ g < w'.heap.size ∧ Below w.heap.size w w'
theorem lex_some (s : ByteArray) (ts : List Tk) (n : Nat) (w : World) (hs : s.size ≤ 20000) (h : lexL 0 s.data.toList = .yes ts) (hn : ts.length = n) (h0 : n ≠ 0) : Calls Tryd.prog 12 #[.string s] w (LexY w s.size ts n) := by
  refine (lex_any s w hs).mono ?_
  rintro e w' (⟨i, er, hR, _⟩ | ⟨ts2, v, hR, rfl, ho, hb⟩)
  · rw [h] at hR; cases hR
  · rw [h] at hR; injection hR with hR; subst hR
    rcases ho.2 with ⟨rfl, hz⟩ | ⟨g, cap, cur, rfl, hg, hc, hle, hm, hcs, ht⟩
    · omega
    · rw [hn] at *
      have hr : RowAt w' g 33 (tks ts) := by
        have h1 := ho.1
        have hle2 : n * 5 ≤ cap * 5 := Nat.mul_le_mul_right _ hle
        refine ⟨cur, hc, by omega, fun i hi => ?_⟩
        rw [← ht, List.getElem?_take_of_lt (by omega)]
        simp
      exact ⟨g, cap, rfl, tks_of_row hr, hg, hr.lt, hb⟩
/-- Lex where there is none. -/
def LexN (w : World) (i e : Int) (en : Ending) (w' : World) : Prop :=
  ∃ a c, en = .returned (.tuple #[.slice a 0 c, .int .i64 i, .int .i64 e]) ∧ Below w.heap.size w w'
theorem lex_none (s : ByteArray) (i : Nat) (er : Int) (w : World) (hs : s.size ≤ 20000) (h : lexL 0 s.data.toList = .no i er) : Calls Tryd.prog 12 #[.string s] w (LexN w i er) := by
  refine (lex_any s w hs).mono ?_
  rintro e w' (⟨i2, er2, hR, rfl, hb⟩ | ⟨ts2, v, hR, rfl, ho, hb⟩)
  · rw [h] at hR; injection hR with h1 h2; subst h1; subst h2
    exact ⟨_, _, rfl, hb⟩
  · rw [h] at hR; cases hR
theorem lex_zero (s : ByteArray) (w : World) (hs : s.size ≤ 20000) (h : lexL 0 s.data.toList = .yes []) : Calls Tryd.prog 12 #[.string s] w (LexN w s.size 0) := by
  refine (lex_any s w hs).mono ?_
  rintro e w' (⟨i2, er2, hR, rfl, hb⟩ | ⟨ts2, v, hR, rfl, ho, hb⟩)
  · rw [h] at hR; cases hR
  · rw [h] at hR; injection hR with hR; subst hR
    rcases ho.2 with ⟨rfl, hz⟩ | ⟨g, cap, cur, rfl, hg, hc, hle, hm, hcs, ht⟩
    · exact ⟨_, _, rfl, hb⟩
    · exact ⟨_, _, rfl, hb⟩
/-- word, number, mark. -/
def TkPost (w : World) (k : Int) (t q : ByteArray) (p : Int) (e : Ending) (w' : World) : Prop :=
  e = .returned (.agg #[.int .u8 k, .string t, .string q, .int .i64 0, .int .i64 p]) ∧ Below w.heap.size w w'
set_option maxRecDepth 100000 in
theorem tkWord_any (t : ByteArray) (p : Int) (w : World) : Calls Tryd.prog 22 #[.string t, .int .i64 p] w (TkPost w 1 t ⟨#[]⟩ p) := by
  go_enter Tryd.func22, Tryd.ntmps22
  go_wp2_with fail
  refine bodyPost_ret (results_cell_row rfl _ _ w.heap.size 33 _ (0, 0) _ rfl (World.alloc_heap_new w _) Tryd.underlying33 rfl rfl) rfl ?_
  exact ⟨rfl, own_below _ _⟩
set_option maxRecDepth 100000 in
theorem number_tk (t : ByteArray) (p : Int) (w : World) : Calls Tryd.prog 21 #[.string t, .int .i64 p] w (TkPost w 3 ⟨#[]⟩ t p) := by
  go_enter Tryd.func21, Tryd.ntmps21
  go_wp2_with fail
  refine bodyPost_ret (results_cell_row rfl _ _ w.heap.size 33 _ (0, 0) _ rfl (World.alloc_heap_new w _) Tryd.underlying33 rfl rfl) rfl ?_
  exact ⟨rfl, own_below _ _⟩
set_option maxRecDepth 100000 in
theorem tkMark_any (t : ByteArray) (p : Int) (w : World) : Calls Tryd.prog 23 #[.string t, .int .i64 p] w (TkPost w 5 t ⟨#[]⟩ p) := by
  go_enter Tryd.func23, Tryd.ntmps23
  go_wp2_with fail
  refine bodyPost_ret (results_cell_row rfl _ _ w.heap.size 33 _ (0, 0) _ rfl (World.alloc_heap_new w _) Tryd.underlying33 rfl rfl) rfl ?_
  exact ⟨rfl, own_below _ _⟩
theorem wrong_ok (s : ByteArray) (i : Nat) (er : Int) (w : World) (hs : s.size ≤ 20000) (h : lexL 0 s.data.toList = .no i er) : Calls Tryd.prog 20 #[.string s, .int .i64 (i : Int), .int .i64 er] w (BelB w true) := by
  have HX : Hid (∀ W, Calls Tryd.prog 12 #[.string s] W (LexN W i er)) := fun W => lex_none s i er W hs h
  go_enter Tryd.func20, Tryd.ntmps20
  go_wp2_with fail
  refine (HX.out _).mono ?_
  rintro e w' ⟨a, c, rfl, hb⟩
  have HB := Lib.hid hb
  clear hb
  go_wp2_with fail
  go_ret
  exact ⟨rfl, HB.out⟩
/-- Same, of what is read and a literal. -/
theorem same_lit (g1 : Nat) (l : List Tk) (n c1 c2 : Nat) (cs : Array Value) (W : World) (hl : l.length = n) (hn : n ≤ 1000000) (hg : g1 < W.heap.size) (h1 : Tks W g1 0 l) (hcs : cs.toList = tks l) :
    Calls Tryd.prog 13 #[.slice (some ⟨g1, 0, none⟩) n c1, .slice (some ⟨W.heap.size, 0, none⟩) n c2, .bool true] (W.alloc (.cells cs 33)) (BelB (W.alloc (.cells cs 33)) true) :=
  same_tk g1 0 W.heap.size 0 c1 c2 n l _ hl hn (by rw [World.size_alloc]; omega) (by rw [World.size_alloc]; omega) (tks_below h1 (own_below _ _) hg) (tks_of_row (rowAt_alloc rfl hcs))
def alE1 : List Tk := [wrdT [112, 97, 121] 0, numT [50, 53, 47, 50] 4, wrdT [69, 85, 82] 10]
def alE2 : List Tk := [wrdT [83, 80, 88] 0, mrkT [64] 3, dayT 46340 4, mrkT [45] 15, numT [51] 17]
def alE3 : List Tk := [wrdT [97] 0, quoT [98] 2]

set_option maxHeartbeats 4000000 in
set_option maxRecDepth 100000 in
theorem alive_any (w : World) : Calls Tryd.prog 10 #[] w (BelB w true) := by
  have H1 : Hid (∀ W, Calls Tryd.prog 12 #[.string (bsL al1)] W (LexY W 13 alE1 3)) := fun W => lex_some (bsL al1) alE1 3 W (by decide) lex_al1 rfl (by decide)
  have H2 : Hid (∀ W, Calls Tryd.prog 12 #[.string (bsL al2)] W (LexY W 18 alE2 5)) := fun W => lex_some (bsL al2) alE2 5 W (by decide) lex_al2 rfl (by decide)
  have H3 : Hid (∀ W, Calls Tryd.prog 12 #[.string (bsL al3)] W (LexY W 9 alE3 2)) := fun W => lex_some (bsL al3) alE3 2 W (by decide) lex_al3 rfl (by decide)
  have H4 : Hid (∀ W, Calls Tryd.prog 20 #[.string (bsL al4), .int .i64 0, .int .i64 12] W (BelB W true)) := fun W => wrong_ok (bsL al4) 0 12 W (by decide) lex_al4
  have H5 : Hid (∀ W, Calls Tryd.prog 20 #[.string (bsL al5), .int .i64 0, .int .i64 12] W (BelB W true)) := fun W => wrong_ok (bsL al5) 0 12 W (by decide) lex_al5
  go_enter Tryd.func10, Tryd.ntmps10
  go_wp2_with fail
  refine (H1.out _).mono ?_
  rintro e w1 ⟨g1, c1, rfl, t1, k1, m1, b1⟩
  have T1 := Lib.hid t1
  have B1 := Lib.hid b1
  clear t1 b1
  go_wp2_with fail
  refine (H2.out _).mono ?_
  rintro e w2 ⟨g2, c2, rfl, t2, k2, m2, b2⟩
  have T1 := Lib.hid (tks_below T1.out b2 m1)
  have m1 : g1 < w2.heap.size := Nat.lt_of_lt_of_le m1 b2.size
  have T2 := Lib.hid t2
  have B2 := Lib.hid (B1.out.trans (b2.mono B1.out.size))
  clear t2 b2
  go_wp2_with fail
  refine (H3.out _).mono ?_
  rintro e w3 ⟨g3, c3, rfl, t3, k3, m3, b3⟩
  have T1 := Lib.hid (tks_below T1.out b3 m1)
  have m1 : g1 < w3.heap.size := Nat.lt_of_lt_of_le m1 b3.size
  have T2 := Lib.hid (tks_below T2.out b3 m2)
  have m2 : g2 < w3.heap.size := Nat.lt_of_lt_of_le m2 b3.size
  have T3 := Lib.hid t3
  have B3 := Lib.hid (B2.out.trans (b3.mono B2.out.size))
  clear t3 b3
  go_wp2_with fail
  refine (tkWord_any _ _ _).mono ?_
  rintro e w4 ⟨rfl, b4⟩
  have B4 := Lib.hid b4
  clear b4
  go_wp2_with fail
  refine (number_tk _ _ _).mono ?_
  rintro e w5 ⟨rfl, b5⟩
  have B5 := Lib.hid (B4.out.trans (b5.mono B4.out.size))
  clear b5
  go_wp2_with fail
  refine (tkWord_any _ _ _).mono ?_
  rintro e w6 ⟨rfl, b6⟩
  have B6 := Lib.hid (B5.out.trans (b6.mono B5.out.size))
  clear b6
  go_wp2_with fail
  refine (same_lit g1 alE1 3 c1 _ _ w6 rfl (by omega) (Nat.lt_of_lt_of_le m1 B6.out.size) (tks_below T1.out B6.out m1) rfl).mono ?_
  rintro e w7 ⟨rfl, b7⟩
  have B7 := Lib.hid ((B6.out.trans ((own_below w6 _).mono B6.out.size)).trans (b7.mono (Nat.le_trans B6.out.size (own_below w6 _).size)))
  clear b7
  have T2 := Lib.hid (tks_below T2.out B7.out m2)
  have T3 := Lib.hid (tks_below T3.out B7.out m3)
  have m2 : g2 < w7.heap.size := Nat.lt_of_lt_of_le m2 B7.out.size
  have m3 : g3 < w7.heap.size := Nat.lt_of_lt_of_le m3 B7.out.size
  have B7 := Lib.hid (B3.out.trans (B7.out.mono B3.out.size))
  clear B6 B5 B4 m1 T1 k1 k2 k3 H1 H2 H3
  go_wp2_with fail
  obtain ⟨a0, a1, a2, a3, a4⟩ := T2.out 0 (by decide)
  obtain ⟨d0, d1, d2, d3, d4⟩ := T2.out 1 (by decide)
  obtain ⟨f0, f1, f2, f3, f4⟩ := T2.out 2 (by decide)
  obtain ⟨h0, h1, h2, h3, h4⟩ := T2.out 3 (by decide)
  obtain ⟨i0, i1, i2, i3, i4⟩ := T2.out 4 (by decide)
  obtain ⟨S, hS⟩ : ∃ S : World → Prop, S = fun W =>
      (W.cell? ⟨g2, 0, none⟩ = some (.int .u8 1) ∧ W.cell? ⟨g2, 1, none⟩ = some (.string ⟨#[83, 80, 88]⟩) ∧ W.cell? ⟨g2, 2, none⟩ = some (.string ⟨#[]⟩) ∧ W.cell? ⟨g2, 3, none⟩ = some (.int .i64 0) ∧ W.cell? ⟨g2, 4, none⟩ = some (.int .i64 0)) ∧
      (W.cell? ⟨g2, 5, none⟩ = some (.int .u8 5) ∧ W.cell? ⟨g2, 6, none⟩ = some (.string ⟨#[64]⟩) ∧ W.cell? ⟨g2, 7, none⟩ = some (.string ⟨#[]⟩) ∧ W.cell? ⟨g2, 8, none⟩ = some (.int .i64 0) ∧ W.cell? ⟨g2, 9, none⟩ = some (.int .i64 3)) ∧
      (W.cell? ⟨g2, 10, none⟩ = some (.int .u8 4) ∧ W.cell? ⟨g2, 14, none⟩ = some (.int .i64 4)) ∧
      (W.cell? ⟨g2, 15, none⟩ = some (.int .u8 5) ∧ W.cell? ⟨g2, 16, none⟩ = some (.string ⟨#[45]⟩) ∧ W.cell? ⟨g2, 17, none⟩ = some (.string ⟨#[]⟩) ∧ W.cell? ⟨g2, 18, none⟩ = some (.int .i64 0) ∧ W.cell? ⟨g2, 19, none⟩ = some (.int .i64 15)) ∧
      (W.cell? ⟨g2, 20, none⟩ = some (.int .u8 3) ∧ W.cell? ⟨g2, 21, none⟩ = some (.string ⟨#[]⟩) ∧ W.cell? ⟨g2, 22, none⟩ = some (.string ⟨#[51]⟩) ∧ W.cell? ⟨g2, 23, none⟩ = some (.int .i64 0) ∧ W.cell? ⟨g2, 24, none⟩ = some (.int .i64 17)) := ⟨_, rfl⟩
  have S0 : S w7 := by rw [hS]; exact ⟨⟨a0, a1, a2, a3, a4⟩, ⟨d0, d1, d2, d3, d4⟩, ⟨f0, f4⟩, ⟨h0, h1, h2, h3, h4⟩, ⟨i0, i1, i2, i3, i4⟩⟩
  have SB : ∀ W, Below w7.heap.size w7 W → S W := fun W h => by
    rw [hS] at S0 ⊢
    obtain ⟨⟨a0, a1, a2, a3, a4⟩, ⟨d0, d1, d2, d3, d4⟩, ⟨f0, f4⟩, ⟨h0, h1, h2, h3, h4⟩, ⟨i0, i1, i2, i3, i4⟩⟩ := S0
    have e : ∀ o, W.cell? ⟨g2, o, none⟩ = w7.cell? ⟨g2, o, none⟩ := fun o => (bcell h).1 _ _ m2
    refine ⟨⟨?_, ?_, ?_, ?_, ?_⟩, ⟨?_, ?_, ?_, ?_, ?_⟩, ⟨?_, ?_⟩, ⟨?_, ?_, ?_, ?_, ?_⟩, ⟨?_, ?_, ?_, ?_, ?_⟩⟩ <;> rw [e] <;> assumption
  clear a0 a1 a2 a3 a4 d0 d1 d2 d3 d4 f0 f1 f2 f3 f4 h0 h1 h2 h3 h4 i0 i1 i2 i3 i4
  subst hS
  have HALL := Lib.hid SB
  have HST := Lib.hid (Below.refl w7.heap.size w7)
  have HD0 : Hid (Below w7.heap.size w7 w7.drew) := (Below.refl _ w7).drew
  have HTP := Lib.hid T3.out
  clear SB S0 T1 T2
  go_region_held3 (fun W =>
      (W.cell? ⟨g2, 0, none⟩ = some (.int .u8 1) ∧ W.cell? ⟨g2, 1, none⟩ = some (.string ⟨#[83, 80, 88]⟩) ∧ W.cell? ⟨g2, 2, none⟩ = some (.string ⟨#[]⟩) ∧ W.cell? ⟨g2, 3, none⟩ = some (.int .i64 0) ∧ W.cell? ⟨g2, 4, none⟩ = some (.int .i64 0)) ∧
      (W.cell? ⟨g2, 5, none⟩ = some (.int .u8 5) ∧ W.cell? ⟨g2, 6, none⟩ = some (.string ⟨#[64]⟩) ∧ W.cell? ⟨g2, 7, none⟩ = some (.string ⟨#[]⟩) ∧ W.cell? ⟨g2, 8, none⟩ = some (.int .i64 0) ∧ W.cell? ⟨g2, 9, none⟩ = some (.int .i64 3)) ∧
      (W.cell? ⟨g2, 10, none⟩ = some (.int .u8 4) ∧ W.cell? ⟨g2, 14, none⟩ = some (.int .i64 4)) ∧
      (W.cell? ⟨g2, 15, none⟩ = some (.int .u8 5) ∧ W.cell? ⟨g2, 16, none⟩ = some (.string ⟨#[45]⟩) ∧ W.cell? ⟨g2, 17, none⟩ = some (.string ⟨#[]⟩) ∧ W.cell? ⟨g2, 18, none⟩ = some (.int .i64 0) ∧ W.cell? ⟨g2, 19, none⟩ = some (.int .i64 15)) ∧
      (W.cell? ⟨g2, 20, none⟩ = some (.int .u8 3) ∧ W.cell? ⟨g2, 21, none⟩ = some (.string ⟨#[]⟩) ∧ W.cell? ⟨g2, 22, none⟩ = some (.string ⟨#[51]⟩) ∧ W.cell? ⟨g2, 23, none⟩ = some (.int .i64 0) ∧ W.cell? ⟨g2, 24, none⟩ = some (.int .i64 17)))
    ((first | with_reducible exact HALL.out _ HST.out | with_reducible exact HALL.out _ HD0.out | with_reducible exact HALL.out _ R4.out | with_reducible exact HALL.out _ R3.out | with_reducible exact HALL.out _ R2.out | with_reducible exact HALL.out _ R1.out))
    ((first
      | (go_at_call 22; refine (tkWord_any _ _ _).mono ?_; rintro e x1 ⟨rfl, y1⟩; have R1 : Hid (Below w7.heap.size w7 x1) := HD0.out.trans y1; clear y1)
      | (go_at_call 23; refine (tkMark_any _ _ _).mono ?_; rintro e x2 ⟨rfl, y2⟩; first | (have R3 : Hid (Below w7.heap.size w7 x2) := R2.out.trans (y2.mono R2.out.size)) | (have R2 : Hid (Below w7.heap.size w7 x2) := R1.out.trans (y2.mono R1.out.size)); clear y2)
      | (go_at_call 21; refine (number_tk _ _ _).mono ?_; rintro e x4 ⟨rfl, y4⟩; have R4 : Hid (Below w7.heap.size w7 x4) := R3.out.trans (y4.mono R3.out.size); clear y4)))
  have T3 := Lib.hid (tks_below HTP.out R4.out m3)
  have m3 : g3 < x4.heap.size := Nat.lt_of_lt_of_le m3 R4.out.size
  have B8 := Lib.hid (B7.out.trans (R4.out.mono B7.out.size))
  clear HALL HST HD0 HTP R1 R2 R3 R4 B7
  go_wp2_with fail
  refine (tkWord_any _ _ _).mono ?_
  rintro e z1 ⟨rfl, y5⟩
  have T3 := Lib.hid (tks_below T3.out y5 m3)
  have m3 : g3 < z1.heap.size := Nat.lt_of_lt_of_le m3 y5.size
  have B9 := Lib.hid (B8.out.trans (y5.mono B8.out.size))
  clear y5
  go_wp2_with fail
  refine (same_lit g3 alE3 2 c3 _ _ z1 rfl (by omega) m3 T3.out rfl).mono ?_
  rintro e z2 ⟨rfl, y6⟩
  have BA := Lib.hid ((B9.out.trans ((own_below z1 _).mono B9.out.size)).trans (y6.mono (Nat.le_trans B9.out.size (own_below z1 _).size)))
  clear y6
  go_wp2_with fail
  refine (H4.out _).mono ?_
  rintro e z3 ⟨rfl, y7⟩
  have BB := Lib.hid (BA.out.trans (y7.mono BA.out.size))
  clear y7
  go_wp2_with fail
  refine (H5.out _).mono ?_
  rintro e z4 ⟨rfl, y8⟩
  have BC := Lib.hid (BB.out.trans (y8.mono BB.out.size))
  clear y8
  go_wp2_with fail
  go_ret
  exact ⟨rfl, BC.out⟩

end Go.Proofs.YtnmiiimbjojcmaaDoor
