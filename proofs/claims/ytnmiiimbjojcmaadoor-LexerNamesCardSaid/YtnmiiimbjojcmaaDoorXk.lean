/-
  The law LexerWrong walked. No condition. The statement LexerWrong: at any two texts the law returns true, and leaves what was there as it was. No condition.
-/
import Derived.Test.YtnmiiimbjojcmaaDoorXi
import Derived.Test.YtnmiiimbjojcmaaDoorXh
import Derived.Test.YtnmiiimbjojcmaaDoorTie
import Derived.Test.YtnmiiimbjojcmaaDoorCards
import Derived.ProofKit
import Derived.OpenShut
import Derived.ShutString
import Derived.ChangeOld
import Derived.Below
import Derived.LaidMore
import Derived.Lay
import Derived.SevenTiedAt
import Derived.Stop.Joined
namespace Go.Proofs.YtnmiiimbjojcmaaDoor
open Go.RowKit Go.Shelf

theorem lexL_err {off : Nat} {l : List UInt8} {i : Nat} {e : Int} (h : lexL off l = .no i e) : e ≠ 0 := by
  obtain ⟨p, ts, _, _, h3⟩ := lexL_wrong l.length off l (Nat.le_refl _) h
  exact oneL_err h3
/-- Lex where it reads all. -/
def LexG (w : World) (len : Nat) (e : Ending) (w' : World) : Prop := ∃ a n c, e = .returned (.tuple #[.slice a n c, .int .i64 (len : Int), .int .i64 0]) ∧ Below w.heap.size w w'
theorem lex_good (s : ByteArray) (ts : List Tk) (w : World) (hs : s.size ≤ 20000) (h : lexL 0 s.data.toList = .yes ts) : Calls Tryd.prog 12 #[.string s] w (LexG w s.size) := by
  refine (lex_any s w hs).mono ?_
  rintro e w' (⟨i, er, hR, _⟩ | ⟨ts2, v, hR, rfl, ho, hb⟩)
  · rw [h] at hR; cases hR
  · rcases ho.2 with ⟨rfl, _⟩ | ⟨g, cap, cur, rfl, _⟩
    · exact ⟨_, _, _, rfl, hb⟩
    · exact ⟨_, _, _, rfl, hb⟩
theorem nl_list (s t : ByteArray) : (s ++ ⟨#[10]⟩ ++ t).data.toList = s.data.toList ++ 10 :: t.data.toList := by
  simp
theorem nl_size (s t : ByteArray) : (s ++ ⟨#[10]⟩ ++ t).size = s.size + 1 + t.size := by
  rw [← data_len, nl_list, List.length_append, List.length_cons, data_len, data_len]; omega

set_option maxHeartbeats 2000000 in
set_option maxRecDepth 100000 in
theorem wrong_wild (s t : ByteArray) (w : World) (hs : ¬ (s.size ≤ 3000 ∧ t.size ≤ 3000)) : Calls Tryd.prog 5 #[.string s, .string t] w (BelB w true) := by
  have HA : Hid (∀ W, Calls Tryd.prog 10 #[] W (BelB W true)) := fun W => alive_any W
  by_cases h1 : s.size ≤ 3000
  · have h2 : ¬ t.size ≤ 3000 := fun h => hs ⟨h1, h⟩
    have HT : Hid (∀ W, Calls Tryd.prog 11 #[.string s] W (RetB W true)) := fun W => by have := tame_any s W; rwa [decide_eq_true h1] at this
    have HU : Hid (∀ W, Calls Tryd.prog 11 #[.string t] W (RetB W false)) := fun W => by have := tame_any t W; rwa [decide_eq_false h2] at this
    go_enter Tryd.func5, Tryd.ntmps5
    go_wp2_with fail
    refine (HA.out _).mono ?_
    rintro e w1 ⟨rfl, hb⟩
    have HB := Lib.hid hb
    clear hb
    go_wp2_with fail
    refine (HT.out _).mono ?_
    rintro e w' ⟨rfl, rfl⟩
    go_wp2_with fail
    refine (HU.out _).mono ?_
    rintro e w' ⟨rfl, rfl⟩
    go_wp2_with fail
    go_ret
    exact ⟨rfl, HB.out⟩
  · have HT : Hid (∀ W, Calls Tryd.prog 11 #[.string s] W (RetB W false)) := fun W => by have := tame_any s W; rwa [decide_eq_false h1] at this
    go_enter Tryd.func5, Tryd.ntmps5
    go_wp2_with fail
    refine (HA.out _).mono ?_
    rintro e w1 ⟨rfl, hb⟩
    have HB := Lib.hid hb
    clear hb
    go_wp2_with fail
    refine (HT.out _).mono ?_
    rintro e w' ⟨rfl, rfl⟩
    go_wp2_with fail
    go_ret
    exact ⟨rfl, HB.out⟩
set_option maxHeartbeats 2000000 in
set_option maxRecDepth 100000 in
theorem wrong_good (s t : ByteArray) (ts : List Tk) (w : World) (h1 : s.size ≤ 3000) (h2 : t.size ≤ 3000) (h : lexL 0 s.data.toList = .yes ts) : Calls Tryd.prog 5 #[.string s, .string t] w (BelB w true) := by
  have HA : Hid (∀ W, Calls Tryd.prog 10 #[] W (BelB W true)) := fun W => alive_any W
  have HT : Hid (∀ W, Calls Tryd.prog 11 #[.string s] W (RetB W true)) := fun W => by have := tame_any s W; rwa [decide_eq_true h1] at this
  have HU : Hid (∀ W, Calls Tryd.prog 11 #[.string t] W (RetB W true)) := fun W => by have := tame_any t W; rwa [decide_eq_true h2] at this
  have HX : Hid (∀ W, Calls Tryd.prog 12 #[.string s] W (LexG W s.size)) := fun W => lex_good s ts W (by omega) h
  go_enter Tryd.func5, Tryd.ntmps5
  go_wp2_with fail
  refine (HA.out _).mono ?_
  rintro e w1 ⟨rfl, hb⟩
  have HB := Lib.hid hb
  clear hb
  go_wp2_with fail
  refine (HT.out _).mono ?_
  rintro e w' ⟨rfl, rfl⟩
  go_wp2_with fail
  refine (HU.out _).mono ?_
  rintro e w' ⟨rfl, rfl⟩
  go_wp2_with fail
  refine (HX.out _).mono ?_
  rintro e w2 ⟨a1, n1, c1, rfl, hb⟩
  have HB2 := Lib.hid (HB.out.trans (hb.mono HB.out.size))
  clear hb
  go_wp2_with fail
  go_ret
  exact ⟨rfl, HB2.out⟩
set_option maxHeartbeats 2000000 in
set_option maxRecDepth 100000 in
theorem wrong_bad (s t : ByteArray) (i : Nat) (er : Int) (w : World) (h1 : s.size ≤ 3000) (h2 : t.size ≤ 3000) (h : lexL 0 s.data.toList = .no i er) : Calls Tryd.prog 5 #[.string s, .string t] w (BelB w true) := by
  have HA : Hid (∀ W, Calls Tryd.prog 10 #[] W (BelB W true)) := fun W => alive_any W
  have HT : Hid (∀ W, Calls Tryd.prog 11 #[.string s] W (RetB W true)) := fun W => by have := tame_any s W; rwa [decide_eq_true h1] at this
  have HU : Hid (∀ W, Calls Tryd.prog 11 #[.string t] W (RetB W true)) := fun W => by have := tame_any t W; rwa [decide_eq_true h2] at this
  have HX : Hid (∀ W, Calls Tryd.prog 12 #[.string s] W (LexN W i er)) := fun W => lex_none s i er W (by omega) h
  obtain ⟨hi, ts, hts⟩ := lexL_before h
  rw [data_len] at hi
  have HY : Hid (∀ W, Calls Tryd.prog 12 #[.string (s.extract 0 i)] W (LexG W i)) := fun W => by
    have := lex_good (s.extract 0 i) ts W (by simp; omega) (by rw [ext_list, List.drop_zero, Nat.sub_zero]; exact hts)
    rwa [show (s.extract 0 i).size = i by simp; omega] at this
  have HZ : Hid (∀ W, Calls Tryd.prog 12 #[.string (s ++ ⟨#[10]⟩ ++ t)] W (LexN W i er)) := fun W => lex_none _ i er W (by rw [nl_size]; omega) (by
    rw [nl_list, lexL_concat' (by rfl), h])
  have hsz : (s ++ ⟨#[10]⟩ ++ t).size ≤ 1000000 := by rw [nl_size]; omega
  have her := lexL_err h
  have he1 : (er == 0) = false := by rw [beq_eq_false_iff_ne]; exact her
  clear h hts
  go_enter Tryd.func5, Tryd.ntmps5
  go_wp2_with fail
  refine (HA.out _).mono ?_
  rintro e w1 ⟨rfl, hb⟩
  have HB := Lib.hid hb
  clear hb
  go_wp2_with fail
  refine (HT.out _).mono ?_
  rintro e w' ⟨rfl, rfl⟩
  go_wp2_with fail
  refine (HU.out _).mono ?_
  rintro e w' ⟨rfl, rfl⟩
  go_wp2_with fail
  refine (HX.out _).mono ?_
  rintro e w2 ⟨a1, c1, rfl, hb⟩
  have HB2 := Lib.hid (HB.out.trans (hb.mono HB.out.size))
  clear hb
  go_wp2_with fail
  refine (HY.out _).mono ?_
  rintro e w3 ⟨a2, n2, c2, rfl, hb⟩
  have HB3 := Lib.hid (HB2.out.trans (hb.mono HB2.out.size))
  clear hb
  go_wp2_with fail
  refine (HZ.out _).mono ?_
  rintro e w4 ⟨a3, c3, rfl, hb⟩
  have HB4 := Lib.hid (HB3.out.trans (hb.mono HB3.out.size))
  clear hb
  go_wp2_with fail
  go_ret
  exact ⟨rfl, HB4.out⟩
theorem wrong_all (s t : ByteArray) (w : World) : Calls Tryd.prog 5 #[.string s, .string t] w (BelB w true) := by
  by_cases hs : s.size ≤ 3000 ∧ t.size ≤ 3000
  · cases h : lexL 0 s.data.toList with
    | no i er => exact wrong_bad s t i er w hs.1 hs.2 h
    | yes ts => exact wrong_good s t ts w hs.1 hs.2 h
  · exact wrong_wild s t w hs

end Go.Proofs.YtnmiiimbjojcmaaDoor

namespace Go.Proofs.YtnmiiimbjojcmaaDoor.lexerWrong
open Go.ChangeShapes Go.WideShapes Go.ChangeAt Go.RowKit
set_option linter.unusedVariables false

theorem own : ownKnob Tryd.prog.godebug = none := by kernel_rfl
theorem laidOut : laidOutB Tryd.prog = true := by kernel_rfl
theorem laidPlain (W : World) (h : laidMetH Tryd.prog Rows.lexerWrongRow.laid W) : laidMet Tryd.prog Rows.lexerWrongRow.laid W := by
  rwa [MakeChecks.laidMetH_plain _ _ _ (by kernel_rfl)] at h
theorem witness_met (os : Os) (args : Array Value) : laidMetH Tryd.prog Rows.lexerWrongRow.laid ((World.laidAll Tryd.prog os Rows.lexerWrongRow.laid).forCall (fun _ _ => 0) ⟨#[], args, []⟩).memory := by
  rw [MakeChecks.laidMetH_plain _ _ _ (by kernel_rfl)]
  exact laidMet_laidAll _ (by kernel_rfl) (by kernel_rfl)

set_option maxRecDepth 100000 in
theorem lifted (os : Os) (started : os.Started) (H : Type) (enc : TypeId × Value → H) :
    ReturnsInHanded {} Tryd.checked os 5 .any (fun w args => (Rows.lexerWrongSpec.pre enc Tryd.prog Tryd.f5 Rows.lexerWrongRow.domain false w args ∧ laidMetH Tryd.prog Rows.lexerWrongRow.laid w) ∧ sizedMet enc Tryd.prog Tryd.f5 (OpenSpec.ofChange Rows.lexerWrongSpec) false w args)
      (Rows.lexerWrongSpec.post enc Tryd.prog Tryd.f5 false true false false) := by
  refine handed_shaped_and (C := Tryd.checked) (X := fun w _ => laidMetH Tryd.prog Rows.lexerWrongRow.laid w) (fun _ _ _ hh h => h.of_heap hh) own started (by kernel_rfl) Tryd.func5
    (ChangeSpec.witness_shaped (enc := enc) (C := Tryd.checked) (os := os) (X := fun w _ => laidMetH Tryd.prog Rows.lexerWrongRow.laid w) false (World.laidAll Tryd.prog os Rows.lexerWrongRow.laid) #[.string ⟨#[]⟩, .string ⟨#[]⟩] 8 (World.laidAll_os _ _ _)
      (World.shaped_of_ZipB (by kernel_rfl) (by kernel_rfl)) (by kernel_rfl) (by kernel_rfl) (by kernel_rfl) (witness_met os _)) ?_
  intro W base args ds gs before hval0 hW hc _ hL hsh _
  have hval : ∀ (j : Nat) t v, Tryd.f5.params[j]? = some t → args[j]? = some v → Value.okWide Tryd.prog W .any base t v := hval0
  have hW' := hW
  obtain ⟨p, q, hA0, hV, rfl, hfz, hnd⟩ := hW
  have hA : DataW.TrodAll enc Tryd.prog W 0 (fun _ => true) true Tryd.f5.params.toList args.toList ds p := hA0
  rw [Tryd.params5] at hA hval
  obtain ⟨v0, vs0, d0, ds0, p0, q0, hargs, rfl, rfl, h0, r0⟩ := trodAll_cons hA
  obtain ⟨v1, vs1, d1, ds1, p1, q1, rfl, rfl, rfl, h1, r1⟩ := trodAll_cons r0
  obtain ⟨rfl, rfl, rfl⟩ := trodAll_nil r1
  obtain rfl : args = #[v0, v1] := by cases args; simp_all
  obtain ⟨rfl, rfl⟩ := trodVars_none hV
  have k0 := h0
  have lt0 : ∀ x ∈ p0, x.block < W.heap.size := by obtain ⟨m, hm⟩ := k0; exact DataW.trod_lt m _ _ _ hm
  have k1 := h1
  have lt1 : ∀ x ∈ p1, x.block < W.heap.size := by obtain ⟨m, hm⟩ := k1; exact DataW.trod_lt m _ _ _ hm
  obtain ⟨x, rfl⟩ : ∃ s : ByteArray, v0 = .string s := okWide_string Tryd.underlying9 (hval 0 9 v0 rfl rfl)
  obtain ⟨y, rfl⟩ : ∃ s : ByteArray, v1 = .string s := okWide_string Tryd.underlying9 (hval 1 9 v1 rfl rfl)
  clear hA0 hval0
  refine (wrong_all x y W).mono fun e W' ⟨he, bel⟩ => ?_
  subst he
  exact ⟨_, rfl, _, _, _, [], _, [], hW', trodAll_mk1 (shut_bool Tryd.underlying4 _), (trodAll_cons_mk (Below.trod laidOut (by kernel_rfl) (of_decide_eq_true (by kernel_rfl)) k0 bel lt0) (trodAll_cons_mk (Below.trod laidOut (by kernel_rfl) (of_decide_eq_true (by kernel_rfl)) k1 bel lt1) trodAll_mk0)), rfl, bel.frame _, fun h => by cases h⟩

theorem over : Rows.lexerWrongRow.holds Tryd.pinned (OpenSpec.ofChange Rows.lexerWrongSpec) :=
  OpenClaim.holds_of_wide 5 Tryd.f5 rfl rfl rfl rfl rfl rfl rfl ⟨rfl, rfl, rfl, rfl, rfl⟩ rfl rfl rfl rfl rfl (by kernel_rfl) Tryd.func5 (by kernel_rfl)
    (of_decide_eq_true (by kernel_rfl)) (by unfold Func.isWrapper; first | (rw [if_pos (by decide +kernel)]; kernel_rfl) | (rw [if_neg (by decide +kernel)]; exact ⟨rfl, rfl⟩))
    (fun os started H enc _ => lifted os started H enc)

/-- ████ THE STATEMENT ████ -/
theorem proved : Rows.LexerWrongCardSaid :=
  Claim7.holds_tied_plain_at .later [] [.data, .pinned] true (true, "c1aebe38aff72df81fb07041cd7ea411257811278e3a77cfd6acc07f4df61e4c") false over (fun _ h => by cases h) (by kernel_rfl) (fun _ h => by cases h) lexerWrong_row_tie rfl ⟨rfl, rfl⟩ (by kernel_rfl) rfl
    (fun f fn hf hfn => by
      obtain rfl : f = 5 := Option.some.inj ((show Tryd.prog.funcNamed "novation/novationlaw12.LexerWrong" = some 5 by kernel_rfl).symm.trans hf) |>.symm
      obtain rfl : fn = Tryd.f5 := (Option.some.inj (Tryd.func5.symm.trans hfn)).symm
      exact ⟨by kernel_rfl, fun j t ht => by
        rw [Tryd.params5] at ht
        have hm : t ∈ [9] := by
          have := Array.mem_of_getElem? ht
          simp at this
          simp [this]
        have hall : ([9].all fun u => !Tryd.prog.wantsStandIn u) = true := by kernel_rfl
        exact (show Tryd.prog.wantsStandIn t = false by simpa using List.all_eq_true.1 hall t hm)⟩)
    (by kernel_rfl)
#print axioms proved
end Go.Proofs.YtnmiiimbjojcmaaDoor.lexerWrong
