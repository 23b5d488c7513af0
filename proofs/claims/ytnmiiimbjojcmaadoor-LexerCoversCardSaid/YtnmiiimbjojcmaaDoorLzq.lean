/-
  The law LexerCovers where there are tokens; at every text. No condition.
-/
import Derived.Test.YtnmiiimbjojcmaaDoorLzl
namespace Go.Proofs.YtnmiiimbjojcmaaDoor
open Go.RowKit Go.Shelf

set_option maxHeartbeats 8000000 in
set_option maxRecDepth 100000 in
theorem covers_some (s : ByteArray) (ts : List Tk) (n : Nat) (w : World) (h1 : s.size ≤ 3000) (h : lexL 0 s.data.toList = .yes ts) (hn : ts.length = n + 1) (hn3 : n ≤ 3000) : Calls Tryd.prog 7 #[.string s] w (BelB w true) := by
  have HA : Hid (∀ W, Calls Tryd.prog 10 #[] W (BelB W true)) := fun W => alive_any W
  have HT : Hid (∀ W, Calls Tryd.prog 11 #[.string s] W (RetB W true)) := fun W => by have := tame_any s W; rwa [decide_eq_true h1] at this
  have HX := Lib.hid (fun W => lex_cells s ts (n + 1) W (by omega) h hn (by omega))
  have HL := Lib.hid hn
  have HH := Lib.hid h
  clear h hn
  go_enter Tryd.func7, Tryd.ntmps7
  go_wp2_with fail
  refine (HA.out _).mono ?_
  rintro e w1 ⟨rfl, hb⟩
  have HB := Lib.hid hb
  clear hb
  go_wp2_with fail
  refine (HT.out _).mono ?_
  rintro e w' ⟨rfl, rfl⟩
  go_wp2_with fail
  refine (HX.out _).mono ?_
  rintro e w2 ⟨g, c, hnc, rfl, hrow, k1, hg2, hb⟩
  have HB2 := Lib.hid (HB.out.trans (hb.mono HB.out.size))
  have HROW := Lib.hid hrow
  clear hb hrow k1
  go_wp2_with fail
  go_loopw [7, 8] (fun lv iv wr => CvR ts s.size (n + 1) lv iv ∧ Below w2.heap.size w2 wr) (fun _ iv _ => (intOf iv + 1).toNat)
  case atStart => exact ⟨.inr ⟨n, s.size, by omega, rfl, by go_num, Lib.hid (.inr ⟨HL.out, rfl⟩)⟩, Below.refl _ _⟩
  case round =>
    obtain ⟨w3, rfl⟩ : ∃ w3 : World, w3 = wr := ⟨_, rfl⟩
    obtain ⟨hrel, hb3⟩ := hrel
    have HB3 := Lib.hid hb3
    clear hb3
    rcases hrel with ⟨L, t, rfl, rfl, HT0⟩ | ⟨j, L, hj, rfl, rfl, HLA⟩
    · have hL : L < s.size ∧ skS false (s.data.toList.take L) = L := by
        obtain ⟨q1, q2⟩ := HT0.out
        rcases lexL_first HH.out with ⟨e, _⟩ | ⟨t', p, e1, e2, e3, e4⟩
        · rw [e] at q1; cases q1
        · rw [q1] at e1; injection e1 with e1; subst e1
          rw [q2] at e2
          obtain rfl : L = p := by omega
          rw [data_len] at e3
          exact ⟨e3, e4⟩
      have HS : Hid (∀ W, Calls Tryd.prog 17 #[.string (s.extract 0 L), .int .i64 0] W (RetI W (L : Int))) := fun W => by
        have := skip_any (s.extract 0 L) 0 W (by simp; omega) (Nat.zero_le _)
        rw [ext_list, List.drop_zero, List.drop_zero, Nat.sub_zero, hL.2, Nat.zero_add] at this
        exact this
      have hLs := hL.1
      have HB4 := Lib.hid (HB2.out.trans (HB3.out.mono HB2.out.size))
      clear HT0 hL
      go_wp2_with fail
      refine (HS.out _).mono ?_
      rintro e w' ⟨rfl, rfl⟩
      go_wp2_with fail
      go_ret
      exact ⟨rfl, HB4.out⟩
    · obtain ⟨x, hx⟩ : ∃ x, ts[j]? = some x := ⟨_, List.getElem?_eq_getElem (by rw [HL.out]; exact hj)⟩
      obtain ⟨p, hp, hpL, hLs, hv, hone⟩ := lexL_cover HH.out (by rw [HL.out]; exact hj) hx HLA.out
      rw [data_len] at hLs
      obtain ⟨K, T, R, D, Z⟩ := x
      dsimp only at hp hone
      subst hp
      have HATF : Hid (∀ W, Below w2.heap.size w2 W → TkAt W g (j * 5) ⟨K, T, R, D, (p : Int)⟩) := fun W hW => by
        have := tks_below (tks_of_row HROW.out) hW hg2 j (by rw [HL.out]; exact hj)
        rw [hx, Nat.zero_add] at this
        exact this
      have HC : Hid (∀ W, Calls Tryd.prog 16 #[.agg #[.int .u8 K, .string T, .string R, .int .i64 D, .int .i64 (p : Int)]] W fun e w' => e = .returned (.int .i64 0) ∧ Below W.heap.size W w') := fun W => by
        have := check_tk ⟨K, T, R, D, (p : Int)⟩ W (vtk_rat hv)
        rw [vtk_ok hv (show (0 : Int) ≤ (p : Int) by omega) (show (p : Int) ≤ 20000 by omega)] at this
        exact this.mono fun e w' ⟨he, hb⟩ => ⟨he, hb⟩
      have HO : Hid (∀ W, Calls Tryd.prog 12 #[.string (s.extract p L)] W (LexC W (L - p) [⟨K, T, R, D, 0⟩] 1)) := fun W => by
        have := lex_cells (s.extract p L) [⟨K, T, R, D, 0⟩] 1 W (by simp; omega) (by rw [ext_list, ← List.drop_take]; exact hone) rfl (by omega)
        rwa [show (s.extract p L).size = L - p by simp; omega] at this
      have HXJ := Lib.hid hx
      clear HLA hx hone hv
      obtain ⟨a0, a1, a2, a3, a4⟩ := HATF.out _ HB3.out
      dsimp only at a0 a1 a2 a3 a4
      go_wp2_with fail
      refine (HC.out _).mono ?_
      rintro e w4 ⟨rfl, hb⟩
      have HB4 := Lib.hid (HB3.out.trans (hb.mono HB3.out.size))
      clear hb a0 a1 a2 a3 a4
      obtain ⟨a0, a1, a2, a3, a4⟩ := HATF.out _ HB4.out
      dsimp only at a0 a1 a2 a3 a4
      go_wp2_with fail
      refine (HO.out _).mono ?_
      rintro e w5 ⟨g1, c1, hc1, rfl, hrow1, k5, hg5, hb⟩
      have HB5 := Lib.hid (HB4.out.trans (hb.mono HB4.out.size))
      clear hb a0 a1 a2 a3 a4
      go_wp2_with fail
      obtain ⟨S, hS⟩ : ∃ S : World → Prop, S = fun W =>
        W.cell? ⟨g, j * 5, none⟩ = some (.int .u8 K) ∧ W.cell? ⟨g, j * 5 + 1, none⟩ = some (.string T) ∧ W.cell? ⟨g, j * 5 + 2, none⟩ = some (.string R) ∧ W.cell? ⟨g, j * 5 + 3, none⟩ = some (.int .i64 D) := ⟨_, rfl⟩
      have HALL : Hid (∀ W, Below w2.heap.size w2 W → S W) := fun W hW => by
        obtain ⟨a0, a1, a2, a3, a4⟩ := HATF.out W hW
        rw [hS]; exact ⟨a0, a1, a2, a3⟩
      subst hS
      have HD0 := Lib.hid HB5.out.drew
      have HD1 := Lib.hid ((HB5.out.alloc HB5.out.size (.cells #[.int .u8 K, .string T, .string R, .int .i64 D, .int .i64 0] 33)).drew)
      have HSM : Hid (Calls Tryd.prog 13 #[.slice (some ⟨g1, 0, none⟩) 1 c1, .slice (some ⟨w5.heap.size, 0, none⟩) 1 1, .bool true] ((w5.alloc (.cells #[.int .u8 K, .string T, .string R, .int .i64 D, .int .i64 0] 33)).drew) (BelB ((w5.alloc (.cells #[.int .u8 K, .string T, .string R, .int .i64 D, .int .i64 0] 33)).drew) true)) := Lib.hid (same_lit g1 [⟨K, T, R, D, 0⟩] 1 c1 1 #[.int .u8 K, .string T, .string R, .int .i64 D, .int .i64 0] w5.drew rfl (by omega) hg5 (tks_of_row hrow1) rfl)
      clear hrow1
      have ij0 : (0 : Int) ≤ (j : Int) := by omega
      have ij1 : (j : Int) < (n : Int) + 1 := by omega
      have ij2 : (j : Int) < ((n + 1 : Nat) : Int) := by omega
      go_region_held3 (fun W =>
        W.cell? ⟨g, j * 5, none⟩ = some (.int .u8 K) ∧ W.cell? ⟨g, j * 5 + 1, none⟩ = some (.string T) ∧ W.cell? ⟨g, j * 5 + 2, none⟩ = some (.string R) ∧ W.cell? ⟨g, j * 5 + 3, none⟩ = some (.int .i64 D))
        ((first | with_reducible exact HALL.out _ HB5.out | with_reducible exact HALL.out _ HD0.out | with_reducible exact HALL.out _ HD1.out | exact HALL.out _ HB6.out))
        ((go_at_call 13; refine HSM.out.mono ?_; rintro e w6 ⟨rfl, hb6⟩; have HB6 := Lib.hid (HD1.out.trans (hb6.mono HD1.out.size))))
      clear hb6
      obtain ⟨a0, a1, a2, a3, a4⟩ := HATF.out _ HB6.out
      dsimp only at a0 a1 a2 a3 a4
      go_wp2_with fail
      go_roundw
      case rel =>
        refine ⟨?_, HB6.out⟩
        cases j with
        | zero => exact .inl ⟨p, _, rfl, by go_num, Lib.hid ⟨HXJ.out, rfl⟩⟩
        | succ j => exact .inr ⟨j, p, by omega, rfl, by go_num, Lib.hid (.inl ⟨_, HXJ.out, rfl⟩)⟩
      case measure => simp [intOf] <;> omega

theorem covers_all (s : ByteArray) (w : World) : Calls Tryd.prog 7 #[.string s] w (BelB w true) := by
  by_cases hs : s.size ≤ 3000
  · cases h : lexL 0 s.data.toList with
    | no i er => exact covers_no s i er w hs h
    | yes ts =>
      have c1 := lex_count _ 0 _ (Nat.le_refl _) h
      rw [data_len] at c1
      cases ts with
      | nil => exact covers_none s w hs h
      | cons t ts => exact covers_some s (t :: ts) ts.length w hs h rfl (by simp at c1; omega)
  · exact covers_wild s w hs

end Go.Proofs.YtnmiiimbjojcmaaDoor
