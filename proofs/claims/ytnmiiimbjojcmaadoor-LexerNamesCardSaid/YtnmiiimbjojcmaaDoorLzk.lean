/-
  The law LexerBlanks at a token that is there. No condition.
-/
import Derived.Test.YtnmiiimbjojcmaaDoorLzj
import Derived.Test.YtnmiiimbjojcmaaDoorXm
import Derived.IntWalk
namespace Go.Proofs.YtnmiiimbjojcmaaDoor
open Go.RowKit Go.Shelf

theorem tks_take (l : List Tk) (j : Nat) : tks (l.take j) = (tks l).take (j * 5) := by
  induction l generalizing j with
  | nil => simp [tks]
  | cons x l ih =>
    cases j with
    | zero => simp [tks]
    | succ j =>
      have e : tks (x :: l) = encTk x ++ tks l := by simp [tks]
      rw [List.take_succ_cons, e, show tks (x :: l.take j) = encTk x ++ tks (l.take j) from by simp [tks], ih, List.take_append, encTk_length, List.take_of_length_le (l := encTk x) (by rw [encTk_length]; omega)]
      congr 2; omega
theorem tks_drop {w : World} {g o : Nat} {l : List Tk} (h : Tks w g o l) (j : Nat) : Tks w g (o + j * 5) (l.drop j) := by
  intro i hi
  rw [List.length_drop] at hi
  have := h (j + i) (by omega)
  rw [show o + (j + i) * 5 = o + j * 5 + i * 5 by omega] at this
  rwa [List.getElem?_drop]
theorem row_news {w : World} {g j n : Nat} {l : List Tk} (h : RowAt w g 33 (tks l)) (hl : l.length = n) (hj : j ≤ n) : ∀ k u, (tks (l.take j))[k]? = some u → w.cell? ((⟨g, 0, none⟩ : Addr).add k) = some u := by
  intro k u hk
  have hlt := (List.getElem?_eq_some_iff.1 hk).1
  rw [tks_length, List.length_take] at hlt
  rw [tks_take, List.getElem?_take_of_lt (by omega)] at hk
  rw [show (⟨g, 0, none⟩ : Addr).add k = ⟨g, k, none⟩ by simp [Addr.add] <;> omega, h.cell (by rw [tks_length]; omega)]
  exact hk

set_option maxHeartbeats 4000000 in
set_option maxRecDepth 100000 in
theorem blanks_in (s r : ByteArray) (j : Nat) (ts : List Tk) (w : World) (h1 : s.size ≤ 3000) (h2 : r.size ≤ 3000) (hr : ∀ k, (h : k < r.size) → ¬ r[k].toNat = 10) (h : lexL 0 s.data.toList = .yes ts) (n : Nat) (hn : ts.length = n) (hn3 : n ≤ 3000) (hj : j < n) : Calls Tryd.prog 4 #[.string s, .int .i64 (j : Int), .string r] w (BelB w true) := by
  obtain ⟨i0, hi, hz0, hz1, hz2⟩ := info_partsN infoTk
  have HA : Hid (∀ W, Calls Tryd.prog 10 #[] W (BelB W true)) := fun W => alive_any W
  have HT : Hid (∀ W, Calls Tryd.prog 11 #[.string s] W (RetB W true)) := fun W => by have := tame_any s W; rwa [decide_eq_true h1] at this
  have HU : Hid (∀ W, Calls Tryd.prog 11 #[.string r] W (RetB W true)) := fun W => by have := tame_any r W; rwa [decide_eq_true h2] at this
  have hrl : ∀ c ∈ r.data.toList, c.toNat ≠ 10 := fun c hc => by
    obtain ⟨k, hk, rfl⟩ := List.getElem_of_mem hc
    exact hr k (by rwa [data_len] at hk)
  obtain ⟨t, ht⟩ : ∃ t, ts[j]? = some t := ⟨_, List.getElem?_eq_getElem (by omega)⟩
  obtain ⟨p, hp, hps, hbig⟩ := lexL_blanks h (by omega) hrl ht
  rw [data_len] at hps hbig
  have hls : (s.extract 0 p ++ ⟨#[32, 9, 35]⟩ ++ r ++ ⟨#[10]⟩ ++ s.extract p s.size).data.toList = s.data.toList.take p ++ 32 :: 9 :: 35 :: (r.data.toList ++ 10 :: s.data.toList.drop p) := by
    have e1 := ext_list s 0 p
    have e2 := ext_list s p s.size
    rw [List.drop_zero, Nat.sub_zero] at e1
    rw [List.take_of_length_le (by rw [List.length_drop, data_len]; omega)] at e2
    simp only [ByteArray.data_append, Array.toList_append, e1, e2]
    simp
  have hsz : (s.extract 0 p ++ ⟨#[32, 9, 35]⟩ ++ r ++ ⟨#[10]⟩ ++ s.extract p s.size).size = s.size + r.size + 4 := by
    rw [← data_len, hls]
    simp only [List.length_append, List.length_cons, List.length_take, List.length_drop, data_len]
    omega
  have HZ : Hid (∀ W, Calls Tryd.prog 12 #[.string (s.extract 0 p ++ ⟨#[32, 9, 35]⟩ ++ r ++ ⟨#[10]⟩ ++ s.extract p s.size)] W fun e w' =>
      ∃ v, e = .returned (.tuple #[v, .int .i64 ((s.size + r.size + 4 : Nat) : Int), .int .i64 0]) ∧ w'.ownsRow W.heap.size 33 5 v n (tks (ts.take j ++ (ts.drop j).map (mvT ((r.size + 4 : Nat) : Int)))) ∧ Below W.heap.size W w') := fun W => by
    have := lex_owns (s.extract 0 p ++ ⟨#[32, 9, 35]⟩ ++ r ++ ⟨#[10]⟩ ++ s.extract p s.size) (ts.take j ++ (ts.drop j).map (mvT ((r.size + 4 : Nat) : Int))) W (by rw [hsz]; omega) (by rw [hls, hbig])
    rw [hsz] at this
    rwa [show (ts.take j ++ (ts.drop j).map (mvT ((r.size + 4 : Nat) : Int))).length = n by rw [List.length_append, List.length_map, List.length_take, List.length_drop]; omega] at this
  have hsz2 : (s.extract 0 p ++ ⟨#[32, 9, 35]⟩ ++ r ++ ⟨#[10]⟩ ++ s.extract p s.size).size ≤ 1000000 := by rw [hsz]; omega
  have HX := Lib.hid (fun W => lex_cells s ts n W (by omega) h hn (by omega))
  have HPL := Lib.hid (lex_places h)
  have HL := Lib.hid hn
  have HT4 : Hid (ts[j]? = some t ∧ t.place = (p : Int)) := ⟨ht, hp⟩
  have HN := Lib.hid hr
  clear hr h hrl hbig hls hsz hn ht hp
  go_enter Tryd.func4, Tryd.ntmps4
  go_wp2_with fail
  refine (HA.out _).mono ?_
  rintro e w1 ⟨rfl, hb⟩
  have HB := Lib.hid hb
  clear hb
  go_wp2_with fail
  refine (HT.out _).mono ?_
  rintro e w' ⟨rfl, rfl⟩
  go_wp2_with fail
  refine (HU.out _).mono ?_
  rintro e w' ⟨rfl, rfl⟩
  go_wp2_with fail
  go_loop [8] (fun v => NlR r v) (fun v => r.size - (intOf v).toNat)
  case atStart => exact ⟨0, Nat.zero_le _, rfl⟩
  case round =>
    obtain ⟨k, hk, rfl⟩ := hrel
    by_cases hlt : k < r.size
    · obtain ⟨t1, t2⟩ := eq10_no (HN.out k hlt)
      go_wp2_with fail
      go_round
      case rel => exact ⟨k + 1, by omega, by go_num⟩
      case measure => simp [intOf] <;> omega
    · obtain rfl : k = r.size := by omega
      go_wp2_with fail
      refine (HX.out _).mono ?_
      rintro e w2 ⟨g, c, hnc, rfl, hrow, k1, hg2, hb⟩
      have HB2 := Lib.hid (HB.out.trans (hb.mono HB.out.size))
      have hc4 : w2.cell? ⟨g, j * 5 + 4, none⟩ = some (.int .i64 (p : Int)) := by
        have := tks_of_row hrow j (by rw [HL.out]; exact hj)
        have h4 := this.2.2.2.2
        rw [HT4.out.1, Nat.zero_add] at h4
        rw [h4]
        show some (Value.int .i64 t.place) = _
        rw [HT4.out.2]
      have HROW := Lib.hid hrow
      have HK1 := Lib.hid k1
      clear hb hrow k1
      go_wp2_with fail
      have hp0 : (0 : Int) ≤ (p : Int) := by omega
      have hp1 : (p : Int) ≤ (s.size : Int) := by omega
      have hj0 : (0 : Int) ≤ (j : Int) := by omega
      have hj1 : (j : Int) ≤ (n : Int) := by omega
      have hj2 : (j : Int) ≤ (c : Int) := by omega
      have hj3 : (n : Int) ≤ (c : Int) := by omega
      have q1 : ¬ 9223372036854775807 < min p s.size + 3 := by omega
      have q2 : ¬ 9223372036854775807 < min p s.size + 3 + r.size := by omega
      have q3 : ¬ 9223372036854775807 < min p s.size + 3 + r.size + 1 := by omega
      have q4 : ¬ 9223372036854775807 < min p s.size + 3 + r.size + 1 + (s.size - p) := by omega
      go_region_held3 (fun _ => True) (trivial) ((go_at_call 12; refine (HZ.out _).mono ?_; rintro e w3 ⟨v3, rfl, ho3, hb3⟩))
      have HB3 := Lib.hid hb3
      have HO3 := Lib.hid ho3
      have HROW := Lib.hid ((HROW.out.drew).below hb3 hg2)
      have hg3 : g < w3.heap.size := HROW.out.lt
      clear hb3 ho3 hc4 q1 q2 q3 q4 hp0 hp1
      go_wp2_with fail
      have HLIT : Hid ((w3.drew.alloc (.cells #[] 33)).ownsRow w3.heap.size 33 5 (.slice (some ⟨w3.heap.size, 0, none⟩) 0 0) 0 []) := World.ownsRow_lit w3.drew #[] 0 (Nat.le_refl _) (by unfold maxLen; omega) (by simp)
      have HB5 : Hid (Below w3.heap.size w3 (w3.drew.alloc (.cells #[] 33))) := ((Below.refl _ _).drew).alloc (Nat.le_refl _) _
      have HL3 : Hid (∀ k, v3.ownBlock = some k → k < w3.heap.size) := fun k hk => (HO3.out.lt k hk).2
      have HO3 := Lib.hid ((HO3.out.drew).alloc (.cells #[] 33))
      have HROW := Lib.hid ((HROW.out.drew).alloc (.cells #[] 33))
      have A1 := Lib.hid (show (tks (ts.take j)).length = j * 5 by rw [tks_length, List.length_take]; have := HL.out; omega)
      have A2 := Lib.hid (row_news HROW.out HL.out (Nat.le_of_lt hj))
      have A3 := Lib.hid (show 0 + j ≤ maxLen by unfold maxLen; omega)
      have A4 := Lib.hid (show (0 + j) * 56 ≤ 140737488355328 by omega)
      have A5 := Lib.hid (show w3.heap.size ≤ (w3.drew.alloc (.cells #[] 33)).heap.size by rw [World.size_alloc]; show _ ≤ w3.heap.size + 1; omega)
      have hcj : ¬ c = j := by omega
      have hk1 : IntKind.i64.wrap ((r.size : Int) + 4) = (r.size : Int) + 4 := IntWalk.i64_in _ (by omega)
      go_region_held3 (fun _ => True) (trivial) ((first
        | (refine step_append_view (by rfl) (.tmp 96) (.tmp 99) 24 (by rfl) w3.heap.size 33 i0 zeroTk 5 56 Tryd.underlying24 hi hz0 hz1 hz2 rfl (by decide) _ _ _ (by rfl) HLIT.out ⟨g, 0, none⟩ j c (tks (ts.take j)) (by rfl) A1.out A2.out (tks_one _) A3.out A4.out A5.out ?_
           intro v5 w5 ho5 hg5
           have hr5 : (Value.slice (some ⟨w3.heap.size, 0, none⟩) 0 0).ownBlock = some w3.heap.size := rfl
           have HB6 := Lib.hid (HB5.out.grown hg5 HB5.out.size (fun k hk => by rw [hr5] at hk; injection hk with hk; omega))
           have HO5 := Lib.hid ho5
           have HO3 := Lib.hid (HO3.out.kept hg5 (.inr (fun e => by have := HL3.out _ (e.trans hr5); omega)))
           have HROW := Lib.hid (HROW.out.kept hg5 (fun e => by rw [hr5] at e; injection e with e; omega))
           have HMV : Hid (Calls Tryd.prog 14 #[.slice (some ⟨g, j * 5, none⟩) (n - j) (c - j), .int .i64 ((r.size : Int) + 4)] w5 fun e w' => ∃ v, e = .returned v ∧ w'.ownsRow w5.heap.size 33 5 v (n - j) (tks ((ts.drop j).map (mvT ((r.size + 4 : Nat) : Int)))) ∧ Below w5.heap.size w5 w') := by
             have := moved_any g (j * 5) (n - j) (c - j) (r.size + 4) (ts.drop j) w5 (by rw [List.length_drop]; have := HL.out; omega) (by omega) (by omega) HROW.out.lt (by have := tks_drop (tks_of_row HROW.out) j; rwa [Nat.zero_add] at this) (fun x hx => by
               obtain ⟨p1, p2⟩ := HPL.out x (List.mem_of_mem_drop hx)
               rw [data_len] at p2
               exact ⟨p1, by omega⟩)
             rw [show ((r.size + 4 : Nat) : Int) = (r.size : Int) + 4 by omega] at this
             rw [show ((r.size + 4 : Nat) : Int) = (r.size : Int) + 4 by omega]
             exact this
           clear ho5 hg5 hr5)
        | (go_at_call 14
           refine HMV.out.mono ?_
           rintro e w6 ⟨v6, rfl, ho6, hb6⟩
           have HO5 := Lib.hid (HO5.out.kept (grown_of_below hb6) (Classical.em _))
           have HO3 := Lib.hid (HO3.out.kept (grown_of_below hb6) (Classical.em _))
           have HB7 := Lib.hid (HB6.out.grown (grown_of_below hb6) HB6.out.size (fun k hk => by cases hk))
           have HO6 := Lib.hid ho6
           have A6 := Lib.hid (show 0 + j + (n - j) ≤ maxLen by unfold maxLen; omega)
           have A7 := Lib.hid (show (0 + j + (n - j)) * 56 ≤ 140737488355328 by omega)
           have A8 := Lib.hid HB7.out.size
           clear ho6 hb6)
        | (refine step_append_owns (by rfl) (.tmp 100) (.tmp 107) 24 (by rfl) w3.heap.size 33 i0 zeroTk 5 56 Tryd.underlying24 hi hz0 hz1 hz2 rfl (by decide) _ _ _ (by rfl) HO5.out _ (n - j) v6 _ (by rfl) HO6.out (tks_one _) A6.out A7.out A8.out ?_
           intro v7 w7 ho7 hg7
           have HB8 := Lib.hid (HB7.out.grown hg7 HB7.out.size (fun k hk => (HO5.out.lt k hk).1))
           have HO3 := Lib.hid (HO3.out.kept hg7 (by
             cases hv : v3.ownBlock with
             | none => exact .inl rfl
             | some k => exact .inr (fun e => by have h1 := HL3.out k hv; have h2 := (HO5.out.lt k e.symm).1; omega)))
           have HSM : Hid (Calls Tryd.prog 13 #[v3, v7, .bool true] w7 (BelB w7 true)) := by
             have e1 := HO3.out
             have e2 := ho7
             rw [List.nil_append, show 0 + j + (n - j) = n by omega, ← (show tks (ts.take j ++ (ts.drop j).map (mvT ((r.size + 4 : Nat) : Int))) = tks (ts.take j) ++ tks ((ts.drop j).map (mvT ((r.size + 4 : Nat) : Int))) from by simp [tks])] at e2
             exact same_owns (by omega) e1 e2
           clear ho7 hg7)
        | (go_at_call 13
           refine HSM.out.mono ?_
           rintro e w8 ⟨rfl, hb8⟩)))
      have HB9 := Lib.hid ((HB2.out.drew).trans (HB3.out.mono HB2.out.size))
      have HBA := Lib.hid (HB9.out.trans (HB8.out.mono HB9.out.size))
      have HBB := Lib.hid (HBA.out.trans (hb8.mono HBA.out.size))
      clear hb8
      go_wp2_with fail
      go_ret
      exact ⟨rfl, HBB.out⟩

theorem blanks_all (s : ByteArray) (z : Int) (r : ByteArray) (w : World) : Calls Tryd.prog 4 #[.string s, .int .i64 z, .string r] w (BelB w true) := by
  by_cases hs : s.size ≤ 3000 ∧ r.size ≤ 3000
  · by_cases hr : ∀ k, (h : k < r.size) → ¬ r[k].toNat = 10
    · cases h : lexL 0 s.data.toList with
      | no i er => exact blanks_no s r z i er w hs.1 hs.2 hr h
      | yes ts =>
        have c1 := lex_count _ 0 _ (Nat.le_refl _) h
        rw [data_len] at c1
        by_cases hz : z < 0 ∨ (ts.length : Int) ≤ z
        · exact blanks_out s r z ts w hs.1 hs.2 hr h _ rfl hz
        · obtain ⟨j, rfl⟩ : ∃ j : Nat, z = (j : Int) := ⟨z.toNat, by omega⟩
          exact blanks_in s r j ts w hs.1 hs.2 hr h _ rfl (by omega) (by omega)
    · exact blanks_nl s r z w hs.1 hs.2 hr
  · exact blanks_wild s r z w hs

end Go.Proofs.YtnmiiimbjojcmaaDoor
