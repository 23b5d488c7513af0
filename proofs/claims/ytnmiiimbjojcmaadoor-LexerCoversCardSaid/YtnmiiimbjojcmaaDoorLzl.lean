/-
  The law LexerCovers walked. No condition.
-/
import Derived.Test.YtnmiiimbjojcmaaDoorLzj
import Derived.Test.YtnmiiimbjojcmaaDoorLzk
import Derived.Test.YtnmiiimbjojcmaaDoorXm
namespace Go.Proofs.YtnmiiimbjojcmaaDoor
open Go.RowKit Go.Shelf

theorem ratT_size {n d : Int} (h : RatOK n d) : (ratT n d).length ≤ 2010 := by
  have h1 := bigZ_len h.2.2.1
  have h2 := bigZ_len h.2.2.2
  have e : ∀ z : Int, (txtZ z).length ≤ (txtN z.natAbs).length + 1 := fun z => by
    unfold txtZ; split
    · simp
    · omega
  have e1 := e n
  have e2 := e d
  unfold ratT
  split
  · omega
  · rw [List.length_append, List.length_cons]; omega
theorem vtk_rat {x : Tk} (h : VTk x) : x.rat.size ≤ 100000 := by
  rw [← data_len]
  rcases h with ⟨_, _, h, _⟩ | ⟨_, _, h, _⟩ | ⟨_, _, ⟨n, d, ho, h⟩, _⟩ | ⟨_, _, h, _⟩ | ⟨_, _, h, _⟩
  · rw [h]; show 0 ≤ _; omega
  · rw [h]; show 0 ≤ _; omega
  · rw [h, bsL_list]; have := ratT_size ho; omega
  · rw [h]; show 0 ≤ _; omega
  · rw [h]; show 0 ≤ _; omega
theorem emp_bs : (bsL []).toList.isEmpty = true := by rw [toList_data]; rfl
theorem vtk_ok {x : Tk} (h : VTk x) (h0 : 0 ≤ x.place) (h1 : x.place ≤ 20000) : tkB x = true := by
  unfold tkB
  rcases h with ⟨k, a, b, c⟩ | ⟨k, a, b, c⟩ | ⟨k, a, ⟨n, d, ho, b⟩, c⟩ | ⟨k, a, b, c, d⟩ | ⟨k, ⟨m, hm, a⟩, b, c⟩
  · rw [if_pos k, a, b, c, emp_bs]; simp [h0, h1]
  · rw [if_neg (by omega), if_pos k, a, b, c, emp_bs]; simp [h0, h1]
  · rw [if_neg (by omega), if_neg (by omega), if_pos k, a, b, c, emp_bs]
    have : vlT (bsL (ratT n d)) = true := by unfold vlT; rw [bsL_list, chkR_ratT ho]; rfl
    rw [this]; simp [h0, h1]
  · rw [if_neg (by omega), if_neg (by omega), if_neg (by omega), if_pos k, a, b, emp_bs]; simp [h0, h1, c, d]
  · rw [if_neg (by omega), if_neg (by omega), if_neg (by omega), if_neg (by omega), if_pos k, a, b, c, emp_bs]
    have : mk1 (bsL [m]) = true := by unfold mk1; rw [bsL_list]; exact hm
    rw [this]; simp [h0, h1]
/-- Where the text of token j ends. -/
def LastAt (ts : List Tk) (size j L : Nat) : Prop := (∃ u, ts[j + 1]? = some u ∧ u.place = (L : Int)) ∨ (ts.length = j + 1 ∧ L = size)
/-- The loop of LexerCovers, from behind. -/
def CvR (ts : List Tk) (size n : Nat) (lv iv : Value) : Prop :=
  (∃ L t, lv = .int .i64 ((L : Nat) : Int) ∧ iv = .int .i64 (-1) ∧ Hid (ts[0]? = some t ∧ t.place = (L : Int))) ∨
  (∃ j L : Nat, j < n ∧ lv = .int .i64 (L : Int) ∧ iv = .int .i64 (j : Int) ∧ Hid (LastAt ts size j L))

set_option maxHeartbeats 2000000 in
set_option maxRecDepth 100000 in
theorem covers_wild (s : ByteArray) (w : World) (hs : ¬ s.size ≤ 3000) : Calls Tryd.prog 7 #[.string s] w (BelB w true) := by
  have HA : Hid (∀ W, Calls Tryd.prog 10 #[] W (BelB W true)) := fun W => alive_any W
  have HT : Hid (∀ W, Calls Tryd.prog 11 #[.string s] W (RetB W false)) := fun W => by have := tame_any s W; rwa [decide_eq_false hs] at this
  go_enter Tryd.func7, Tryd.ntmps7
  go_wp2_with fail
  refine (HA.out _).mono ?_
  rintro e w1 ⟨rfl, hb⟩
  have HB := Lib.hid hb
  clear hb
  go_wp2_with fail
  refine (HT.out _).mono ?_
  rintro e w' ⟨rfl, rfl⟩
  go_wp2_with fail
  go_ret
  exact ⟨rfl, HB.out⟩
set_option maxHeartbeats 2000000 in
set_option maxRecDepth 100000 in
theorem covers_no (s : ByteArray) (i : Nat) (er : Int) (w : World) (h1 : s.size ≤ 3000) (h : lexL 0 s.data.toList = .no i er) : Calls Tryd.prog 7 #[.string s] w (BelB w true) := by
  have HA : Hid (∀ W, Calls Tryd.prog 10 #[] W (BelB W true)) := fun W => alive_any W
  have HT : Hid (∀ W, Calls Tryd.prog 11 #[.string s] W (RetB W true)) := fun W => by have := tame_any s W; rwa [decide_eq_true h1] at this
  have HX : Hid (∀ W, Calls Tryd.prog 12 #[.string s] W (LexN W i er)) := fun W => lex_none s i er W (by omega) h
  have he1 : (er != 0) = true := by simpa using lexL_err h
  clear h
  go_enter Tryd.func7, Tryd.ntmps7
  go_wp2_with fail
  refine (HA.out _).mono ?_
  rintro e w1 ⟨rfl, hb⟩
  have HB := Lib.hid hb
  clear hb
  go_wp2_with fail
  refine (HT.out _).mono ?_
  rintro e w' ⟨rfl, rfl⟩
  go_wp2_with fail
  refine (HX.out _).mono ?_
  rintro e w2 ⟨a1, c1, rfl, hb⟩
  have HB2 := Lib.hid (HB.out.trans (hb.mono HB.out.size))
  clear hb
  go_wp2_with fail
  go_ret
  exact ⟨rfl, HB2.out⟩
set_option maxHeartbeats 2000000 in
set_option maxRecDepth 100000 in
theorem covers_none (s : ByteArray) (w : World) (h1 : s.size ≤ 3000) (h : lexL 0 s.data.toList = .yes []) : Calls Tryd.prog 7 #[.string s] w (BelB w true) := by
  have HA : Hid (∀ W, Calls Tryd.prog 10 #[] W (BelB W true)) := fun W => alive_any W
  have HT : Hid (∀ W, Calls Tryd.prog 11 #[.string s] W (RetB W true)) := fun W => by have := tame_any s W; rwa [decide_eq_true h1] at this
  have HX : Hid (∀ W, Calls Tryd.prog 12 #[.string s] W (LexN W s.size 0)) := fun W => lex_zero s W (by omega) h
  have hS : 0 + skS false (s.data.toList.drop 0) = s.size := by
    rw [List.drop_zero]
    rcases lexL_first h with ⟨_, e⟩ | ⟨t, p, e, _⟩
    · rw [e, data_len, Nat.zero_add]
    · cases e
  have hx : s.size ≤ 100000 := by omega
  have HS : Hid (∀ W, Calls Tryd.prog 17 #[.string s, .int .i64 0] W (RetI W (s.size : Int))) := fun W => by
    have := skip_any s 0 W hx (Nat.zero_le _)
    rw [hS] at this
    exact this
  clear hS hx
  clear h
  go_enter Tryd.func7, Tryd.ntmps7
  go_wp2_with fail
  refine (HA.out _).mono ?_
  rintro e w1 ⟨rfl, hb⟩
  have HB := Lib.hid hb
  clear hb
  go_wp2_with fail
  refine (HT.out _).mono ?_
  rintro e w' ⟨rfl, rfl⟩
  go_wp2_with fail
  refine (HX.out _).mono ?_
  rintro e w2 ⟨a1, c1, rfl, hb⟩
  have HB2 := Lib.hid (HB.out.trans (hb.mono HB.out.size))
  clear hb
  go_wp2_with fail
  go_loop [7, 8] (fun lv iv => lv = .int .i64 (s.size : Int) ∧ iv = .int .i64 (-1)) (fun _ _ => 0)
  case atStart => exact ⟨rfl, by go_num⟩
  case round =>
    obtain ⟨rfl, rfl⟩ := hrel
    go_wp2_with fail
    refine (HS.out _).mono ?_
    rintro e w' ⟨rfl, rfl⟩
    go_wp2_with fail
    go_ret
    exact ⟨rfl, HB2.out⟩


end Go.Proofs.YtnmiiimbjojcmaaDoor
