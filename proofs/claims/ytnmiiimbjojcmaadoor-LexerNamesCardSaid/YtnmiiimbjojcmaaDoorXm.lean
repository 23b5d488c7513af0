/-
  The law LexerConcat walked. No condition. The law LexerConcat, where both texts are read; at every input. No condition. The law LexerConcat at every input. No condition.
-/
import Derived.Test.YtnmiiimbjojcmaaDoorXl
namespace Go.Proofs.YtnmiiimbjojcmaaDoor
open Go.RowKit Go.Shelf

/-- Lex, whatever comes. -/
theorem lex_all (s : ByteArray) (w : World) (hs : s.size ≤ 20000) : Calls Tryd.prog 12 #[.string s] w fun e w' =>
    ∃ a n c i er, e = .returned (.tuple #[.slice a n c, .int .i64 i, .int .i64 er]) ∧ Below w.heap.size w w' := by
  refine (lex_any s w hs).mono ?_
  rintro e w' (⟨i, er, hR, rfl, hb⟩ | ⟨ts2, v, hR, rfl, ho, hb⟩)
  · exact ⟨_, _, _, _, _, rfl, hb⟩
  · rcases ho.2 with ⟨rfl, _⟩ | ⟨g, cap, cur, rfl, _⟩
    · exact ⟨_, _, _, _, _, rfl, hb⟩
    · exact ⟨_, _, _, _, _, rfl, hb⟩

set_option maxHeartbeats 2000000 in
set_option maxRecDepth 100000 in
theorem concat_wild (s t : ByteArray) (w : World) (hs : ¬ (s.size ≤ 3000 ∧ t.size ≤ 3000)) : Calls Tryd.prog 3 #[.string s, .string t] w (BelB w true) := by
  have HA : Hid (∀ W, Calls Tryd.prog 10 #[] W (BelB W true)) := fun W => alive_any W
  by_cases h1 : s.size ≤ 3000
  · have h2 : ¬ t.size ≤ 3000 := fun h => hs ⟨h1, h⟩
    have HT : Hid (∀ W, Calls Tryd.prog 11 #[.string s] W (RetB W true)) := fun W => by have := tame_any s W; rwa [decide_eq_true h1] at this
    have HU : Hid (∀ W, Calls Tryd.prog 11 #[.string t] W (RetB W false)) := fun W => by have := tame_any t W; rwa [decide_eq_false h2] at this
    go_enter Tryd.func3, Tryd.ntmps3
    go_wp2_with fail
    refine (HA.out _).mono ?_
    rintro e w1 ⟨rfl, hb⟩
    have HB := Lib.hid hb
    clear hb
    go_wp2_with fail
    refine (HT.out _).mono ?_
    rintro e w' ⟨rfl, rfl⟩
    go_wp2_with fail
    refine (HU.out _).mono ?_
    rintro e w' ⟨rfl, rfl⟩
    go_wp2_with fail
    go_ret
    exact ⟨rfl, HB.out⟩
  · have HT : Hid (∀ W, Calls Tryd.prog 11 #[.string s] W (RetB W false)) := fun W => by have := tame_any s W; rwa [decide_eq_false h1] at this
    go_enter Tryd.func3, Tryd.ntmps3
    go_wp2_with fail
    refine (HA.out _).mono ?_
    rintro e w1 ⟨rfl, hb⟩
    have HB := Lib.hid hb
    clear hb
    go_wp2_with fail
    refine (HT.out _).mono ?_
    rintro e w' ⟨rfl, rfl⟩
    go_wp2_with fail
    go_ret
    exact ⟨rfl, HB.out⟩
set_option maxHeartbeats 2000000 in
set_option maxRecDepth 100000 in
theorem concat_no (s t : ByteArray) (i : Nat) (er : Int) (w : World) (h1 : s.size ≤ 3000) (h2 : t.size ≤ 3000) (h : lexL 0 s.data.toList = .no i er) : Calls Tryd.prog 3 #[.string s, .string t] w (BelB w true) := by
  have HA : Hid (∀ W, Calls Tryd.prog 10 #[] W (BelB W true)) := fun W => alive_any W
  have HT : Hid (∀ W, Calls Tryd.prog 11 #[.string s] W (RetB W true)) := fun W => by have := tame_any s W; rwa [decide_eq_true h1] at this
  have HU : Hid (∀ W, Calls Tryd.prog 11 #[.string t] W (RetB W true)) := fun W => by have := tame_any t W; rwa [decide_eq_true h2] at this
  have HX : Hid (∀ W, Calls Tryd.prog 12 #[.string s] W (LexN W i er)) := fun W => lex_none s i er W (by omega) h
  have HY := Lib.hid (fun W => lex_all t W (by omega))
  have HZ : Hid (∀ W, Calls Tryd.prog 12 #[.string (s ++ ⟨#[10]⟩ ++ t)] W (LexN W i er)) := fun W => lex_none _ i er W (by rw [nl_size]; omega) (by
    rw [nl_list, lexL_concat' (by rfl), h])
  have hsz : (s ++ ⟨#[10]⟩ ++ t).size ≤ 1000000 := by rw [nl_size]; omega
  have he1 : (er != 0) = true := by simpa using lexL_err h
  clear h
  go_enter Tryd.func3, Tryd.ntmps3
  go_wp2_with fail
  refine (HA.out _).mono ?_
  rintro e w1 ⟨rfl, hb⟩
  have HB := Lib.hid hb
  clear hb
  go_wp2_with fail
  refine (HT.out _).mono ?_
  rintro e w' ⟨rfl, rfl⟩
  go_wp2_with fail
  refine (HU.out _).mono ?_
  rintro e w' ⟨rfl, rfl⟩
  go_wp2_with fail
  refine (HX.out _).mono ?_
  rintro e w2 ⟨a1, c1, rfl, hb⟩
  have HB2 := Lib.hid (HB.out.trans (hb.mono HB.out.size))
  clear hb
  go_wp2_with fail
  refine (HY.out _).mono ?_
  rintro e w3 ⟨a2, n2, c2, i2, er2, rfl, hb⟩
  have HB3 := Lib.hid (HB2.out.trans (hb.mono HB2.out.size))
  clear hb
  go_wp2_with fail
  refine (HZ.out _).mono ?_
  rintro e w4 ⟨a3, c3, rfl, hb⟩
  have HB4 := Lib.hid (HB3.out.trans (hb.mono HB3.out.size))
  clear hb
  go_wp2_with fail
  go_ret
  exact ⟨rfl, HB4.out⟩
set_option maxHeartbeats 2000000 in
set_option maxRecDepth 100000 in
theorem concat_yn (s t : ByteArray) (ts : List Tk) (i : Nat) (er : Int) (w : World) (h1 : s.size ≤ 3000) (h2 : t.size ≤ 3000) (h : lexL 0 s.data.toList = .yes ts) (h' : lexL 0 t.data.toList = .no i er) : Calls Tryd.prog 3 #[.string s, .string t] w (BelB w true) := by
  have HA : Hid (∀ W, Calls Tryd.prog 10 #[] W (BelB W true)) := fun W => alive_any W
  have HT : Hid (∀ W, Calls Tryd.prog 11 #[.string s] W (RetB W true)) := fun W => by have := tame_any s W; rwa [decide_eq_true h1] at this
  have HU : Hid (∀ W, Calls Tryd.prog 11 #[.string t] W (RetB W true)) := fun W => by have := tame_any t W; rwa [decide_eq_true h2] at this
  have HX : Hid (∀ W, Calls Tryd.prog 12 #[.string s] W (LexG W s.size)) := fun W => lex_good s ts W (by omega) h
  have HY : Hid (∀ W, Calls Tryd.prog 12 #[.string t] W (LexN W i er)) := fun W => lex_none t i er W (by omega) h'
  have HZ : Hid (∀ W, Calls Tryd.prog 12 #[.string (s ++ ⟨#[10]⟩ ++ t)] W (LexN W ((s.size : Int) + 1 + (i : Int)) er)) := fun W => by
    have := lex_none (s ++ ⟨#[10]⟩ ++ t) (i + (s.size + 1)) er W (by rw [nl_size]; omega) (by
      rw [nl_list, lexL_concat' (by rfl), h, h']
      show LexR.no (i + (s.data.toList.length + 1)) er = _
      rw [data_len])
    rwa [show ((i + (s.size + 1) : Nat) : Int) = (s.size : Int) + 1 + (i : Int) by omega] at this
  have hib := (lexL_before h').1
  rw [data_len] at hib
  have hsz : (s ++ ⟨#[10]⟩ ++ t).size ≤ 1000000 := by rw [nl_size]; omega
  have he1 : (er != 0) = true := by simpa using lexL_err h'
  clear h h'
  go_enter Tryd.func3, Tryd.ntmps3
  go_wp2_with fail
  refine (HA.out _).mono ?_
  rintro e w1 ⟨rfl, hb⟩
  have HB := Lib.hid hb
  clear hb
  go_wp2_with fail
  refine (HT.out _).mono ?_
  rintro e w' ⟨rfl, rfl⟩
  go_wp2_with fail
  refine (HU.out _).mono ?_
  rintro e w' ⟨rfl, rfl⟩
  go_wp2_with fail
  refine (HX.out _).mono ?_
  rintro e w2 ⟨a1, n1, c1, rfl, hb⟩
  have HB2 := Lib.hid (HB.out.trans (hb.mono HB.out.size))
  clear hb
  go_wp2_with fail
  refine (HY.out _).mono ?_
  rintro e w3 ⟨a2, c2, rfl, hb⟩
  have HB3 := Lib.hid (HB2.out.trans (hb.mono HB2.out.size))
  clear hb
  go_wp2_with fail
  refine (HZ.out _).mono ?_
  rintro e w4 ⟨a3, c3, rfl, hb⟩
  have HB4 := Lib.hid (HB3.out.trans (hb.mono HB3.out.size))
  clear hb
  go_wp2_with fail
  go_ret
  exact ⟨rfl, HB4.out⟩

end Go.Proofs.YtnmiiimbjojcmaaDoor

namespace Go.Proofs.YtnmiiimbjojcmaaDoor
open Go.RowKit Go.Shelf

set_option maxHeartbeats 4000000 in
set_option maxRecDepth 100000 in
theorem concat_yy (s t : ByteArray) (ts us : List Tk) (w : World) (h1 : s.size ≤ 3000) (h2 : t.size ≤ 3000) (h : lexL 0 s.data.toList = .yes ts) (h' : lexL 0 t.data.toList = .yes us) (hts : ts.length ≤ 3000) (hus : us.length ≤ 3000) : Calls Tryd.prog 3 #[.string s, .string t] w (BelB w true) := by
  obtain ⟨i0, hi, hz0, hz1, hz2⟩ := info_partsN infoTk
  have HA : Hid (∀ W, Calls Tryd.prog 10 #[] W (BelB W true)) := fun W => alive_any W
  have HT : Hid (∀ W, Calls Tryd.prog 11 #[.string s] W (RetB W true)) := fun W => by have := tame_any s W; rwa [decide_eq_true h1] at this
  have HU : Hid (∀ W, Calls Tryd.prog 11 #[.string t] W (RetB W true)) := fun W => by have := tame_any t W; rwa [decide_eq_true h2] at this
  have HX := Lib.hid (fun W => lex_owns s ts W (by omega) h)
  have HY := Lib.hid (fun W => lex_owns t us W (by omega) h')
  have HZ := Lib.hid (fun W => lex_owns (s ++ ⟨#[10]⟩ ++ t) (ts ++ us.map (mvT ((s.size + 1 : Nat) : Int))) W (by rw [nl_size]; omega) (by
    rw [nl_list, lexL_concat' (by rfl), h, h']
    show LexR.yes (ts ++ us.map (mvT ((s.data.toList.length + 1 : Nat) : Int))) = _
    rw [data_len]))
  have HPL := Lib.hid (lex_places h')
  have hsz : (s ++ ⟨#[10]⟩ ++ t).size ≤ 1000000 := by rw [nl_size]; omega
  have hk1 : ((s.size : Int) + 1) = ((s.size + 1 : Nat) : Int) := by omega
  have HK1 := Lib.hid hk1
  clear h h' hk1
  go_enter Tryd.func3, Tryd.ntmps3
  go_wp2_with fail
  refine (HA.out _).mono ?_
  rintro e w1 ⟨rfl, hb⟩
  have HB := Lib.hid hb
  clear hb
  go_wp2_with fail
  refine (HT.out _).mono ?_
  rintro e w' ⟨rfl, rfl⟩
  go_wp2_with fail
  refine (HU.out _).mono ?_
  rintro e w' ⟨rfl, rfl⟩
  go_wp2_with fail
  refine (HX.out _).mono ?_
  rintro e w2 ⟨v1, rfl, ho1, hb⟩
  have HB2 := Lib.hid (HB.out.trans (hb.mono HB.out.size))
  have HO1 := Lib.hid ho1
  clear hb ho1
  go_wp2_with fail
  refine (HY.out _).mono ?_
  rintro e w3 ⟨v2, rfl, ho2, hb⟩
  have HB3 := Lib.hid (HB2.out.trans (hb.mono HB2.out.size))
  have HO1 := Lib.hid (HO1.out.kept (grown_of_below hb) (Classical.em _))
  have HO2 := Lib.hid ho2
  clear hb ho2
  go_wp2_with fail
  refine (HZ.out _).mono ?_
  rintro e w4 ⟨v3, rfl, ho3, hb⟩
  have HB4 := Lib.hid (HB3.out.trans (hb.mono HB3.out.size))
  have HO1 := Lib.hid (HO1.out.kept (grown_of_below hb) (Classical.em _))
  have HO2 := Lib.hid (HO2.out.kept (grown_of_below hb) (Classical.em _))
  have HO3 := Lib.hid ho3
  clear hb ho3
  have HLIT : Hid ((w4.alloc (.cells #[] 33)).ownsRow w4.heap.size 33 5 (.slice (some ⟨w4.heap.size, 0, none⟩) 0 0) 0 []) := World.ownsRow_lit w4 #[] 0 (Nat.le_refl _) (by unfold maxLen; omega) (by simp)
  have HL2 : Hid (∀ k, v2.ownBlock = some k → k < w4.heap.size) := fun k hk => (HO2.out.lt k hk).2
  have HL3 : Hid (∀ k, v3.ownBlock = some k → k < w4.heap.size) := fun k hk => (HO3.out.lt k hk).2
  have HO1 := Lib.hid (HO1.out.alloc (.cells #[] 33))
  have HO2 := Lib.hid (HO2.out.alloc (.cells #[] 33))
  have HO3 := Lib.hid (HO3.out.alloc (.cells #[] 33))
  have HB5 : Hid (Below w4.heap.size w4 (w4.alloc (.cells #[] 33))) := (Below.refl _ _).alloc (Nat.le_refl _) _
  go_wp2_with (at_builtin; refine append_ownsG rfl (.tmp 87) (.tmp 88) 24 rfl w4.heap.size 33 i0 zeroTk 5 56 Tryd.underlying24 hi hz0 hz1 hz2 rfl (by decide) _ _ _ rfl HLIT.out _ ts.length v1 (tks ts) rfl HO1.out (tks_one ts) ?c3 ?c4 ?c5 ?_)
  case c3 => unfold maxLen; omega
  case c4 => omega
  case c5 => simp
  intro v5 w5 ho5 hg5
  have hr5 : (Value.slice (some ⟨w4.heap.size, 0, none⟩) 0 0).ownBlock = some w4.heap.size := rfl
  have HB6 := Lib.hid (HB5.out.grown hg5 HB5.out.size (fun k hk => by rw [hr5] at hk; injection hk with hk; omega))
  have HO5 := Lib.hid ho5
  have HO2 := Lib.hid (HO2.out.kept hg5 (.inr (fun e => by have := HL2.out _ (e.trans hr5); omega)))
  have HO3 := Lib.hid (HO3.out.kept hg5 (.inr (fun e => by have := HL3.out _ (e.trans hr5); omega)))
  clear ho5 hg5 hr5
  have HMV := Lib.hid (moved_owns (s.size + 1) (by omega) (by omega) HO2.out (fun x hx => by
    obtain ⟨p1, p2⟩ := HPL.out x hx
    rw [data_len] at p2
    exact ⟨p1, by omega⟩))
  go_wp2_with fail
  rw [HK1.out]
  refine HMV.out.mono ?_
  rintro e w6 ⟨v6, rfl, ho6, hb6⟩
  have HO5 := Lib.hid (HO5.out.kept (grown_of_below hb6) (Classical.em _))
  have HO3 := Lib.hid (HO3.out.kept (grown_of_below hb6) (Classical.em _))
  have HB7 := Lib.hid (HB6.out.grown (grown_of_below hb6) HB6.out.size (fun k hk => by cases hk))
  have HO6 := Lib.hid ho6
  clear ho6 hb6
  go_wp2_with (at_builtin; refine append_ownsG rfl (.tmp 89) (.tmp 94) 24 rfl w4.heap.size 33 i0 zeroTk 5 56 Tryd.underlying24 hi hz0 hz1 hz2 rfl (by decide) _ _ _ rfl HO5.out _ us.length v6 _ rfl HO6.out (tks_one _) ?c3 ?c4 ?c5 ?_)
  case c3 => unfold maxLen; omega
  case c4 => omega
  case c5 => exact HB7.out.size
  intro v7 w7 ho7 hg7
  have HB8 := Lib.hid (HB7.out.grown hg7 HB7.out.size (fun k hk => (HO5.out.lt k hk).1))
  have HO3 := Lib.hid (HO3.out.kept hg7 (by
    cases hv : v3.ownBlock with
    | none => exact .inl rfl
    | some k => exact .inr (fun e => by have h1 := HL3.out k hv; have h2 := (HO5.out.lt k e.symm).1; omega)))
  have HO7 := Lib.hid ho7
  clear ho7 hg7
  have HSM : Hid (Calls Tryd.prog 13 #[v3, v7, .bool true] w7 (BelB w7 true)) := by
    have e1 := HO3.out
    have e2 := HO7.out
    have hc : ((s.size + 1 : Nat) : Int) = (s.size : Int) + 1 := by omega
    rw [← (show tks (ts ++ us.map (mvT ((s.size : Int) + 1))) = tks ts ++ tks (us.map (mvT ((s.size : Int) + 1))) from by simp [tks])] at e2
    rw [hc, List.length_append, List.length_map] at e1
    exact same_owns (by omega) e1 e2
  go_wp2_with fail
  refine HSM.out.mono ?_
  rintro e w8 ⟨rfl, hb8⟩
  have HB9 := Lib.hid (HB4.out.trans (HB8.out.mono HB4.out.size))
  have HBA := Lib.hid (HB9.out.trans (hb8.mono HB9.out.size))
  clear hb8
  go_wp2_with fail
  go_ret
  exact ⟨rfl, HBA.out⟩

end Go.Proofs.YtnmiiimbjojcmaaDoor

namespace Go.Proofs.YtnmiiimbjojcmaaDoor
open Go.RowKit Go.Shelf

theorem preL_yesG {ts : List Tk} {R : LexR} {us : List Tk} (h : preL ts R = .yes us) : ∃ vs, R = .yes vs ∧ us = ts ++ vs := by
  cases R with
  | no i e => cases h
  | yes vs => injection h with h; exact ⟨vs, rfl, h.symm⟩
theorem lex_count : ∀ (n off : Nat) (l : List UInt8), l.length ≤ n → ∀ {ts : List Tk}, lexL off l = .yes ts → ts.length ≤ l.length := by
  intro n
  induction n with
  | zero =>
    intro off l hl ts h
    obtain rfl : l = [] := List.length_eq_zero_iff.1 (by omega)
    rw [lexL_end (l := []) rfl] at h; injection h with h; rw [← h]; exact Nat.le_refl _
  | succ n ih =>
    intro off l hl ts h
    rcases Nat.lt_or_ge (skS false l) l.length with hlt | hge
    · cases ho : oneL (l.drop (skS false l)) with
      | no e => rw [lexL_no hlt ho] at h; cases h
      | yes t m =>
        rw [lexL_yes hlt ho, pre1_eq] at h
        obtain ⟨vs, hv, rfl⟩ := preL_yesG h
        have hm := oneL_pos ho
        have hm2 := oneL_le ho
        rw [List.length_drop] at hm2
        have := ih _ (l.drop (skS false l + m)) (by rw [List.length_drop]; omega) hv
        rw [List.length_drop] at this
        rw [List.length_append, List.length_singleton]
        omega
    · have hf : skS false l = l.length := by have := skS_le false l; omega
      rw [lexL_end hf] at h; injection h with h; rw [← h]; exact Nat.zero_le _
theorem concat_all (s t : ByteArray) (w : World) : Calls Tryd.prog 3 #[.string s, .string t] w (BelB w true) := by
  by_cases hs : s.size ≤ 3000 ∧ t.size ≤ 3000
  · cases h : lexL 0 s.data.toList with
    | no i er => exact concat_no s t i er w hs.1 hs.2 h
    | yes ts =>
      cases h' : lexL 0 t.data.toList with
      | no i er => exact concat_yn s t ts i er w hs.1 hs.2 h h'
      | yes us =>
        have c1 := lex_count _ 0 _ (Nat.le_refl _) h
        have c2 := lex_count _ 0 _ (Nat.le_refl _) h'
        rw [data_len] at c1 c2
        exact concat_yy s t ts us w hs.1 hs.2 h h' (by omega) (by omega)
  · exact concat_wild s t w hs

end Go.Proofs.YtnmiiimbjojcmaaDoor
