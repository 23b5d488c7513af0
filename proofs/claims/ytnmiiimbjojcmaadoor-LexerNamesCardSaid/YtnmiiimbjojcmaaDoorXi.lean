/-
  Place, tame. No condition. The law LexerPlaces walked. No condition. The law LexerPlaces at every input. No condition.
-/
import Derived.Test.YtnmiiimbjojcmaaDoorXg
import Derived.Test.YtnmiiimbjojcmaaDoorXb
import Derived.Test.YtnmiiimbjojcmaaDoorVa
import Derived.Handed
import Derived.LaidLaws
import Derived.Lib.LaidTab
import Derived.Shelf.Vars
import Derived.Stop.LaidErr
import Derived.Test.YtnmiiimbjojcmaaDoorXh
namespace Go.Proofs.YtnmiiimbjojcmaaDoor
open Go.RowKit Go.Shelf

theorem tame_any (s : ByteArray) (w : World) : Calls Tryd.prog 11 #[.string s] w (RetB w (decide (s.size ≤ 3000))) := by
  have h : decide ((s.size : Int) ≤ 3000) = decide (s.size ≤ 3000) := by rw [Bool.eq_iff_iff]; simp; omega
  go_enter Tryd.func11, Tryd.ntmps11
  go_wp2_with fail
  go_ret
  first | exact ⟨rfl, rfl⟩ | (rw [← h]; exact ⟨rfl, rfl⟩)
/-- Line and column. -/
def plnN (s : ByteArray) (k : Nat) : Nat := Lib.countByte (s.data.toList.take k) 10 + 1
def plcZ (s : ByteArray) (k : Nat) : Int := (k : Int) - Lib.lastIdx s 10 k
theorem lastIdx_ext (s : ByteArray) (m : Nat) : ∀ j, j ≤ m → j ≤ s.size → Lib.lastIdx (s.extract 0 m) 10 j = Lib.lastIdx s 10 j
  | 0, _, _ => rfl
  | j + 1, h, h2 => by
    have e : (s.extract 0 m).data[j]! = s.data[j]! := by
      have e1 : (s.extract 0 m).data[j]? = s.data[j]? := by
        rw [← Array.getElem?_toList, ← Array.getElem?_toList, ext_list, List.drop_zero, List.getElem?_take_of_lt (by omega)]
      simp only [getElem!_def, e1]
    unfold Lib.lastIdx
    rw [e, lastIdx_ext s m j (by omega) (by omega)]
theorem lib_last (s : ByteArray) (k : Nat) (h : k ≤ s.size) : Lib.lastIndexByte (s.extract 0 k) 10 = Lib.lastIdx s 10 k := by
  unfold Lib.lastIndexByte
  rw [show (s.extract 0 k).size = k by simp; omega]
  exact lastIdx_ext s k k (Nat.le_refl _) h
theorem lib_count (s : ByteArray) (k : Nat) : Lib.countByte (s.extract 0 k).data.toList 10 = Lib.countByte (s.data.toList.take k) 10 := by
  rw [ext_list, List.drop_zero, Nat.sub_zero]
def PlPost (w : World) (a b c : Int) (e : Ending) (w' : World) : Prop := e = .returned (.tuple #[.int .i64 a, .int .i64 b, .int .i64 c]) ∧ w' = w
theorem place_bad (s : ByteArray) (z : Int) (w : World) (h : z < 0 ∨ (s.size : Int) < z) : Calls Tryd.prog 15 #[.string s, .int .i64 z] w (PlPost w 0 0 2) := by
  by_cases h0 : z < 0
  · go_enter Tryd.func15, Tryd.ntmps15
    go_wp2_with fail
    refine bodyPost_ret (results_tmp3 rfl _ _ _) rfl ?_
    exact ⟨rfl, rfl⟩
  · have h1 : (s.size : Int) < z := by omega
    go_enter Tryd.func15, Tryd.ntmps15
    go_wp2_with fail
    refine bodyPost_ret (results_tmp3 rfl _ _ _) rfl ?_
    exact ⟨rfl, rfl⟩
set_option maxHeartbeats 1000000 in
theorem place_ok (s : ByteArray) (k : Nat) (w : World) (hs : s.size ≤ 1000000) (h : k ≤ s.size) : Calls Tryd.prog 15 #[.string s, .int .i64 (k : Int)] w (PlPost w (plnN s k : Int) (plcZ s k) 0) := by
  have HC : Hid (∀ W, Calls Tryd.prog 26 #[.string (s.extract 0 k), .string ⟨#[10]⟩] W fun e w' => e = .returned (.int .i64 (Lib.countByte (s.data.toList.take k) 10 : Nat)) ∧ w' = W) := fun W => by
    have := Tryd.strings_Count_one (s.extract 0 k) 10 W
    rw [lib_count] at this
    exact this
  have HL : Hid (∀ W, Calls Tryd.prog 27 #[.string (s.extract 0 k), .int .u8 10] W fun e w' => e = .returned (.int .i64 (Lib.lastIdx s 10 k)) ∧ w' = W) := fun W => by
    have := Tryd.strings_LastIndexByte (s.extract 0 k) 10 (by simp; omega) W
    rw [lib_last s k h] at this
    exact this
  obtain ⟨C, hC⟩ : ∃ C, C = Lib.countByte (s.data.toList.take k) 10 := ⟨_, rfl⟩
  obtain ⟨L, hL⟩ : ∃ L, L = Lib.lastIdx s 10 k := ⟨_, rfl⟩
  have hCb : C ≤ 1000000 := by
    have := List.count_le_length (a := (10 : UInt8)) (l := s.data.toList.take k)
    rw [hC]; unfold Lib.countByte
    rw [List.length_take, data_len] at this; omega
  have hLb : -1 ≤ L ∧ L ≤ 1000000 := by
    rcases Lib.lastIdx_spec s 10 k with ⟨e, _⟩ | ⟨i, hi, e, _⟩ <;> rw [hL, e] <;> omega
  have hg : plnN s k = C + 1 ∧ plcZ s k = (k : Int) - L := by rw [hC, hL]; exact ⟨rfl, rfl⟩
  rw [hg.1, hg.2]
  rw [← hC] at HC
  rw [← hL] at HL
  obtain ⟨l1, l2⟩ := hLb
  clear hC hL hg
  go_enter Tryd.func15, Tryd.ntmps15
  go_wp2_with (first | (go_at_call 26; refine (HC.out _).mono ?_; rintro e w' ⟨rfl, rfl⟩) | (go_at_call 27; refine (HL.out _).mono ?_; rintro e w' ⟨rfl, rfl⟩))
  refine bodyPost_ret (results_tmp3 rfl _ _ _) rfl ?_
  first | exact ⟨rfl, rfl⟩ | exact ⟨by congr 4 <;> omega, rfl⟩

/-- How places go on. -/
theorem place_zero (s : ByteArray) : plnN s 0 = 1 ∧ plcZ s 0 = 1 := ⟨rfl, rfl⟩
theorem place_next (s : ByteArray) (k : Nat) (h : k < s.size) : (s[k] = 10 → plnN s (k + 1) = plnN s k + 1 ∧ plcZ s (k + 1) = 1) ∧ (s[k] ≠ 10 → plnN s (k + 1) = plnN s k ∧ plcZ s (k + 1) = plcZ s k + 1) := by
  have hd : s.data[k]! = s[k] := by
    simp [getElem!_def, Array.getElem?_eq_getElem (xs := s.data) (i := k) h]
    rfl
  have ht := data_take s k h
  constructor
  · intro h10
    constructor
    · unfold plnN Lib.countByte
      rw [ht, List.count_append, h10]; simp
    · unfold plcZ
      rw [Lib.lastIdx_hit s 10 k (by rw [hd, h10]; rfl)]; omega
  · intro h10
    constructor
    · unfold plnN Lib.countByte
      rw [ht, List.count_append]; simp [h10]
    · unfold plcZ
      rw [Lib.lastIdx_miss s 10 k (by
        rw [hd]; intro e
        exact h10 (by rw [← UInt8.toNat_inj]; exact Int.ofNat_inj.1 e))]
      omega

end Go.Proofs.YtnmiiimbjojcmaaDoor

namespace Go.Proofs.YtnmiiimbjojcmaaDoor
open Go.RowKit Go.Shelf

set_option maxHeartbeats 2000000 in
set_option maxRecDepth 100000 in
theorem places_bad (s : ByteArray) (z : Int) (w : World) (hs : s.size ≤ 3000) (h : z < 0 ∨ (s.size : Int) < z) (HA : Hid (∀ W, Calls Tryd.prog 10 #[] W (BelB W true))) : Calls Tryd.prog 6 #[.string s, .int .i64 z] w (BelB w true) := by
  have HT : Hid (∀ W, Calls Tryd.prog 11 #[.string s] W (RetB W true)) := fun W => by have := tame_any s W; rwa [decide_eq_true hs] at this
  have HP : Hid (∀ W, Calls Tryd.prog 15 #[.string s, .int .i64 z] W (PlPost W 0 0 2)) := fun W => place_bad s z W h
  have HZ : Hid (∀ W, Calls Tryd.prog 15 #[.string s, .int .i64 0] W (PlPost W 1 1 0)) := fun W => by
    have := place_ok s 0 W (by omega) (Nat.zero_le _)
    rwa [(place_zero s).1, (place_zero s).2] at this
  have ho : (decide (z < 0) || decide ((s.size : Int) < z)) = true := by simpa using h
  by_cases h0 : z < 0
  · go_enter Tryd.func6, Tryd.ntmps6
    go_wp2_with fail
    refine (HA.out _).mono ?_
    rintro e w1 ⟨rfl, hb⟩
    have HB := Lib.hid hb
    clear hb
    go_wp2_with fail
    refine (HT.out _).mono ?_
    rintro e w' ⟨rfl, rfl⟩
    go_wp2_with fail
    refine (HP.out _).mono ?_
    rintro e w' ⟨rfl, rfl⟩
    go_wp2_with fail
    refine (HZ.out _).mono ?_
    rintro e w' ⟨rfl, rfl⟩
    go_wp2_with fail
    go_ret
    exact ⟨rfl, HB.out⟩
  · have h1 : (s.size : Int) < z := by omega
    go_enter Tryd.func6, Tryd.ntmps6
    go_wp2_with fail
    refine (HA.out _).mono ?_
    rintro e w1 ⟨rfl, hb⟩
    have HB := Lib.hid hb
    clear hb
    go_wp2_with fail
    refine (HT.out _).mono ?_
    rintro e w' ⟨rfl, rfl⟩
    go_wp2_with fail
    refine (HP.out _).mono ?_
    rintro e w' ⟨rfl, rfl⟩
    go_wp2_with fail
    refine (HZ.out _).mono ?_
    rintro e w' ⟨rfl, rfl⟩
    go_wp2_with fail
    go_ret
    exact ⟨rfl, HB.out⟩
set_option maxHeartbeats 2000000 in
set_option maxRecDepth 100000 in
theorem places_wild (s : ByteArray) (z : Int) (w : World) (hs : ¬ s.size ≤ 3000) (HA : Hid (∀ W, Calls Tryd.prog 10 #[] W (BelB W true))) : Calls Tryd.prog 6 #[.string s, .int .i64 z] w (BelB w true) := by
  have HT : Hid (∀ W, Calls Tryd.prog 11 #[.string s] W (RetB W false)) := fun W => by have := tame_any s W; rwa [decide_eq_false hs] at this
  go_enter Tryd.func6, Tryd.ntmps6
  go_wp2_with fail
  refine (HA.out _).mono ?_
  rintro e w1 ⟨rfl, hb⟩
  have HB := Lib.hid hb
  clear hb
  go_wp2_with fail
  refine (HT.out _).mono ?_
  rintro e w' ⟨rfl, rfl⟩
  go_wp2_with fail
  go_ret
  exact ⟨rfl, HB.out⟩
set_option maxHeartbeats 2000000 in
set_option maxRecDepth 100000 in
theorem places_good (s : ByteArray) (k : Nat) (w : World) (hs : s.size ≤ 3000) (h : k ≤ s.size) (HA : Hid (∀ W, Calls Tryd.prog 10 #[] W (BelB W true))) : Calls Tryd.prog 6 #[.string s, .int .i64 (k : Int)] w (BelB w true) := by
  have HT : Hid (∀ W, Calls Tryd.prog 11 #[.string s] W (RetB W true)) := fun W => by have := tame_any s W; rwa [decide_eq_true hs] at this
  obtain ⟨a, ha⟩ : ∃ a : Int, a = (plnN s k : Int) := ⟨_, rfl⟩
  obtain ⟨b, hb⟩ : ∃ b, b = plcZ s k := ⟨_, rfl⟩
  have hab : 0 ≤ a ∧ a ≤ 10000 ∧ -10000 ≤ b ∧ b ≤ 10000 := by
    have h1 := List.count_le_length (a := (10 : UInt8)) (l := s.data.toList.take k)
    rw [List.length_take, data_len] at h1
    have h2 : plnN s k = List.count (10 : UInt8) (s.data.toList.take k) + 1 := rfl
    have h3 : plcZ s k = (k : Int) - Lib.lastIdx s 10 k := rfl
    rcases Lib.lastIdx_spec s 10 k with ⟨e, _⟩ | ⟨i, hi, e, _⟩ <;> rw [e] at h3 <;> omega
  have HP : Hid (∀ W, Calls Tryd.prog 15 #[.string s, .int .i64 (k : Int)] W (PlPost W a b 0)) := fun W => by rw [ha, hb]; exact place_ok s k W (by omega) h
  have HZ : Hid (∀ W, Calls Tryd.prog 15 #[.string s, .int .i64 0] W (PlPost W 1 1 0)) := fun W => by
    have := place_ok s 0 W (by omega) (Nat.zero_le _)
    rwa [(place_zero s).1, (place_zero s).2] at this
  obtain ⟨q1, q2, q3, q4⟩ := hab
  by_cases hk : k < s.size
  · obtain ⟨n1, n2⟩ := place_next s k hk
    have hk1 : ((k : Int) + 1) = ((k + 1 : Nat) : Int) := by omega
    by_cases h10 : s[k] = 10
    · obtain ⟨e1, e2⟩ := n1 h10
      have HN : Hid (∀ W, Calls Tryd.prog 15 #[.string s, .int .i64 ((k : Int) + 1)] W (PlPost W (a + 1) 1 0)) := fun W => by
        have := place_ok s (k + 1) W (by omega) (by omega)
        rw [e1, e2] at this
        rw [hk1, ha]; exact this
      have t10 : ((s[k].toNat : Int) == 10) = true := by rw [h10]; rfl
      clear n1 n2 hk1 e1 e2 ha hb h10
      go_enter Tryd.func6, Tryd.ntmps6
      go_wp2_with fail
      refine (HA.out _).mono ?_
      rintro e w1 ⟨rfl, hb⟩
      have HB := Lib.hid hb
      clear hb
      go_wp2_with fail
      refine (HT.out _).mono ?_
      rintro e w' ⟨rfl, rfl⟩
      go_wp2_with fail
      refine (HP.out _).mono ?_
      rintro e w' ⟨rfl, rfl⟩
      go_wp2_with fail
      refine (HZ.out _).mono ?_
      rintro e w' ⟨rfl, rfl⟩
      go_wp2_with fail
      refine (HN.out _).mono ?_
      rintro e w' ⟨rfl, rfl⟩
      go_wp2_with fail
      go_ret
      exact ⟨rfl, HB.out⟩
    · obtain ⟨e1, e2⟩ := n2 h10
      have HN : Hid (∀ W, Calls Tryd.prog 15 #[.string s, .int .i64 ((k : Int) + 1)] W (PlPost W a (b + 1) 0)) := fun W => by
        have := place_ok s (k + 1) W (by omega) (by omega)
        rw [e1, e2] at this
        rw [hk1, ha, hb]; exact this
      have t10 : ((s[k].toNat : Int) == 10) = false := by
        rw [beq_eq_false_iff_ne]; intro e; exact h10 (by rw [← UInt8.toNat_inj]; exact Int.ofNat_inj.1 e)
      clear n1 n2 hk1 e1 e2 ha hb h10
      go_enter Tryd.func6, Tryd.ntmps6
      go_wp2_with fail
      refine (HA.out _).mono ?_
      rintro e w1 ⟨rfl, hb⟩
      have HB := Lib.hid hb
      clear hb
      go_wp2_with fail
      refine (HT.out _).mono ?_
      rintro e w' ⟨rfl, rfl⟩
      go_wp2_with fail
      refine (HP.out _).mono ?_
      rintro e w' ⟨rfl, rfl⟩
      go_wp2_with fail
      refine (HZ.out _).mono ?_
      rintro e w' ⟨rfl, rfl⟩
      go_wp2_with fail
      refine (HN.out _).mono ?_
      rintro e w' ⟨rfl, rfl⟩
      go_wp2_with fail
      go_ret
      exact ⟨rfl, HB.out⟩
  · obtain rfl : k = s.size := by omega
    clear ha hb
    go_enter Tryd.func6, Tryd.ntmps6
    go_wp2_with fail
    refine (HA.out _).mono ?_
    rintro e w1 ⟨rfl, hb⟩
    have HB := Lib.hid hb
    clear hb
    go_wp2_with fail
    refine (HT.out _).mono ?_
    rintro e w' ⟨rfl, rfl⟩
    go_wp2_with fail
    refine (HP.out _).mono ?_
    rintro e w' ⟨rfl, rfl⟩
    go_wp2_with fail
    refine (HZ.out _).mono ?_
    rintro e w' ⟨rfl, rfl⟩
    go_wp2_with fail
    go_ret
    exact ⟨rfl, HB.out⟩
theorem places_true (s : ByteArray) (z : Int) (w : World) (HA : Hid (∀ W, Calls Tryd.prog 10 #[] W (BelB W true))) : Calls Tryd.prog 6 #[.string s, .int .i64 z] w (BelB w true) := by
  by_cases hs : s.size ≤ 3000
  · by_cases h : z < 0 ∨ (s.size : Int) < z
    · exact places_bad s z w hs h HA
    · obtain ⟨k, rfl⟩ : ∃ k : Nat, z = (k : Int) := ⟨z.toNat, by omega⟩
      exact places_good s k w hs (by omega) HA
  · exact places_wild s z w hs HA

end Go.Proofs.YtnmiiimbjojcmaaDoor

namespace Go
variable {H : Type} {enc : TypeId × Value → H}
/-- 'returnsInHanded_of_change_and', the world's shape kept. -/
theorem handed_shaped_and {a : Assume} {C : Checked} {os : Os} {f : FuncId} {fn : Func} {s : ChangeSpec} {conds : List PathCond} {apart fresh handsOn again : Bool} {X : World → Array Value → Prop}
    (hX : ∀ (w w' : World) (args : Array Value), w.heap = w'.heap → X w args → X w' args)
    (own : ownKnob C.prog.godebug = none) (started : os.Started) (noInit : C.prog.inits.idxOf? f = none) (hfn : C.prog.funcs[f]? = some fn)
    (witness : ∃ (w : World) (tape : Tape) (i : Input), w.os = os ∧ (w.forCall tape i).Shaped C.prog ∧ i.vars = [] ∧ Input.okWide C.prog (w.forCall tape i) .any w.heap.size f i ∧
      ((s.pre enc C.prog fn conds apart (w.forCall tape i).memory i.args ∧ X (w.forCall tape i).memory i.args) ∧ sizedMet enc C.prog fn (OpenSpec.ofChange s) apart (w.forCall tape i).memory i.args) ∧ a.holds C.prog (lone (Frame.enter C.prog f i.args .normal) [] (w.forCall tape i)))
    (contract : ∀ (W : World) (base : Nat) (args : Array Value) (ds gs : List (DataW H)) (before : List MemPlace),
      (∀ (j : Nat) t v, fn.params[j]? = some t → args[j]? = some v → Value.okWide C.prog W .any base t v) →
      DataW.Whole enc C.prog fn.params.toList s.vars apart W args.toList ds gs before →
      conds.all (PathCond.test C.prog ⟨fn.params.toList, ds, s.plain.varTypes C.prog, gs⟩) = true →
      (DataW.weightsEach C.prog (fn.params.toList ++ s.plain.varTypes C.prog) (ds ++ gs)).all (· ≤ reachBytes) = true → X W args →
      W.ShapedOpen C.prog →
      a.holds C.prog (lone (Frame.enter C.prog f args .normal) [] W) →
      Calls C.prog f args W fun e W' => ∃ v, e = .returned v ∧ s.post enc C.prog fn apart fresh handsOn again W args v W') :
    ReturnsInHanded a C os f .any (fun w args => (s.pre enc C.prog fn conds apart w args ∧ X w args) ∧ sizedMet enc C.prog fn (OpenSpec.ofChange s) apart w args) (s.post enc C.prog fn apart fresh handsOn again) := by
  refine returnsInHanded_of_calls own started noInit witness ?_
  intro w tape i _ hsh _ hok hpre hholds
  obtain ⟨_, _, _, fn', hfn', _, _, _, _, hval⟩ := hok
  have e : fn' = fn := Option.some.inj (hfn'.symm.trans hfn)
  subst e
  obtain ⟨⟨⟨ds, gs, before, hw, hc⟩, hx⟩, hz⟩ := hpre
  have hw' := DataW.Whole.of_heap (w' := w.forCall tape i) (by rfl) hw
  refine (contract (w.forCall tape i) w.heap.size i.args ds gs before hval hw' hc (hz.weights hw) (hX _ _ _ (by rfl) hx) hsh hholds).mono fun e W' ⟨v, he, hp⟩ => ?_
  subst he
  exact ChangeSpec.post_blind hp
end Go
namespace Go.Proofs.YtnmiiimbjojcmaaDoor
open Go.RowKit Go.Shelf

theorem places_all (s : ByteArray) (z : Int) (w : World) : Calls Tryd.prog 6 #[.string s, .int .i64 z] w (BelB w true) := places_true s z w (fun W => alive_any W)

end Go.Proofs.YtnmiiimbjojcmaaDoor
