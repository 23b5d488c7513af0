/-
  The program's Read of an amount's text, walked. Condition: the contracts of the callees, as hypotheses.
-/
import Derived.Test.YtnikhbdjlipcbaaDoorYh
namespace Go.Proofs.YtnikhbdjlipcbaaDoor
open Go.RowKit Go.Shelf

def R3 (w : World) (n : Int) (c : ByteArray) (x : Int) (e : Ending) (w' : World) : Prop := e = .returned (.tuple #[.int .i64 n, .string c, .int .i64 x]) ∧ Below w.heap.size w w'
def Ca (f : FuncId) (args : Array Value) (v : Value) : Prop := ∀ W : World, Calls Tryd.prog f args W fun e w' => e = .returned v ∧ Below W.heap.size W w'
theorem ret_three {a b x y : Int} {c d : ByteArray} (h1 : a = b) (h2 : c = d) (h3 : x = y) : Ending.returned (.tuple #[.int .i64 a, .string c, .int .i64 x]) = .returned (.tuple #[.int .i64 b, .string d, .int .i64 y]) := by rw [h1, h2, h3]
set_option maxHeartbeats 8000000 in
set_option maxRecDepth 100000 in
theorem mread_unit (s num ccy : ByteArray) (b1 : Bool) (w : World) (HC1 : Hid (∀ W, Calls Tryd.prog 36 #[.string s, .string ⟨#[32]⟩] W (CutQ W num ccy b1))) (HU : Hid (∀ W, Calls Tryd.prog 5 #[.string ccy] W (UnitP W none))) : Calls Tryd.prog 13 #[.string s] w (R3 w 0 ⟨#[]⟩ 12) := by
  go_enter Tryd.func13, Tryd.ntmps13
  go_wp2_with fail
  refine (HC1.out _).mono ?_
  rintro e w1 ⟨rfl, b1'⟩
  have B1 := Lib.hid b1'
  clear b1'
  go_wp2_with fail
  refine (HU.out _).mono ?_
  rintro e w2 ⟨rfl, b2⟩
  have B2 := Lib.hid (B1.out.trans (b2.mono B1.out.size))
  clear b2
  go_wp2_with fail
  go_ret3
  exact ⟨rfl, B2.out⟩
set_option maxHeartbeats 8000000 in
set_option maxRecDepth 100000 in
theorem mread_go (s num ccy d Wh Pa T : ByteArray) (b1 minus pt f1 f2 ok : Bool) (u V : Nat) (rn re : Int) (rc : ByteArray) (w : World) (HC1 : Hid (∀ W, Calls Tryd.prog 36 #[.string s, .string ⟨#[32]⟩] W (CutQ W num ccy b1)))
    (ui : Int) (hui : Hid (ui = (u : Int))) (hui0 : 0 ≤ ui) (hui3 : ui ≤ 3) (HU : Hid (Ca 5 #[.string ccy] (.tuple #[.int .i64 ui, .int .i64 0])))
    (HP : Hid (Ca 37 #[.string num, .string ⟨#[45]⟩] (.tuple #[.string d, .bool minus])))
    (HC2 : Hid (∀ W, Calls Tryd.prog 36 #[.string d, .string ⟨#[46]⟩] W (CutQ W Wh Pa pt)))
    (HF1 : Hid (∀ W, Calls Tryd.prog 38 #[.string Wh] W (RetB W f1)))
    (HF2 : Hid (∀ W, Calls Tryd.prog 38 #[.string Pa] W (RetB W f2)))
    (hW : Wh.size ≤ 1000000) (hPa : Pa.size ≤ 1000000) (hf1 : f1 = true → 1 ≤ Wh.size)
    (HOK : Hid (∀ z : Bool, (1 < Wh.size → ∀ h : 0 < Wh.size, z = ((Wh[0].toNat : Int) == 48)) → (¬1 < Wh.size → z = false) → ok = (f1 && !z && (pt == decide (0 < u)) && decide (Pa.size = u) && (!decide (0 < u) || f2))))
    (HTL : Hid (ok = true → Ca 39 #[.string (Wh ++ Pa), .string ⟨#[48]⟩] (.string T)))
    (HT0 : Hid (ok = true → (T.toList == []) = decide (V = 0)))
    (HA1 : Hid (ok = true → 0 < V → V < 9223372036854775808 → Ca 40 #[.string T] (.tuple #[.int .i64 (V : Int), .nilIface])))
    (HA2 : Hid (ok = true → ¬V < 9223372036854775808 → ∀ W, Below w.heap.size w W → Calls Tryd.prog 40 #[.string T] W fun e w' => (∃ (q : Int) (N : Nat), e = .returned (.tuple #[.int .i64 q, .iface 166 (.pointer (some ⟨N, 0, none⟩))])) ∧ Below W.heap.size W w'))
    (R0 : Hid (ok = false → rn = 0 ∧ rc = ⟨#[]⟩ ∧ re = 12))
    (R1 : Hid (ok = true → V = 0 → minus = true → rn = 0 ∧ rc = ⟨#[]⟩ ∧ re = 12))
    (R2 : Hid (ok = true → V = 0 → minus = false → rn = 0 ∧ rc = ccy ∧ re = 0))
    (R3' : Hid (ok = true → 0 < V → V ≤ 1125899906842624 → minus = true → rn = -(V : Int) ∧ rc = ccy ∧ re = 0))
    (R4 : Hid (ok = true → 0 < V → V ≤ 1125899906842624 → minus = false → rn = (V : Int) ∧ rc = ccy ∧ re = 0))
    (R5 : Hid (ok = true → 1125899906842624 < V → rn = 0 ∧ rc = ⟨#[]⟩ ∧ re = 14)) :
    Calls Tryd.prog 13 #[.string s] w (R3 w rn rc re) := by
  go_enter Tryd.func13, Tryd.ntmps13
  go_wp2_with fail
  refine (HC1.out _).mono ?_
  rintro e w1 ⟨rfl, b1'⟩
  have B1 := Lib.hid b1'
  clear b1'
  go_wp2_with fail
  refine (HU.out _).mono ?_
  rintro e w2 ⟨rfl, b2⟩
  have B2 := Lib.hid (B1.out.trans (b2.mono B1.out.size))
  clear b2
  go_wp2_with fail
  refine (HP.out _).mono ?_
  rintro e w3 ⟨rfl, b3⟩
  have B3 := Lib.hid (B2.out.trans (b3.mono B2.out.size))
  clear b3
  go_wp2_with fail
  refine (HC2.out _).mono ?_
  rintro e w4 ⟨rfl, b4⟩
  have B4 := Lib.hid (B3.out.trans (b4.mono B3.out.size))
  clear b4
  go_upto_region 7 with (fail)
  go_cut [73] (fun s73 wx => s73 = .bool (!ok) ∧ Below w.heap.size w wx)
  case first =>
    clear HTL HT0 HA1 HA2 R0 R1 R2 R3' R4 R5 HC1 HC2 HP HU B1 B2 B3
    cases f1 with
    | false =>
      have HQ : Hid (ok = false) := by
        by_cases hz : 1 < Wh.size
        · have h0 : 0 < Wh.size := by omega
          have := HOK.out ((Wh[0].toNat : Int) == 48) (fun _ _ => rfl) (fun h => absurd hz h); show ok = false; rw [this]; rfl
        · have := HOK.out false (fun h => absurd h hz) (fun _ => rfl); show ok = false; rw [this]; rfl
      clear HOK
      go_wp2_with fail
      refine (HF1.out _).mono ?_
      rintro e w' ⟨rfl, rfl⟩
      go_wp2_with fail
      go_meet
      exact ⟨congrArg Value.bool (by rw [HQ.out]; first | rfl | (simp; done) | (simp; omega)), B4.out⟩
    | true =>
      have hw1 := hf1 rfl
      by_cases c2 : 1 < Wh.size
      · by_cases c3 : Wh[0].toNat = 48
        · have k3 : ((Wh[0].toNat : Int) == 48) = true := by rw [c3]; rfl
          have HQ : Hid (ok = false) := by have := HOK.out true (fun _ _ => k3.symm) (fun h => absurd c2 h); show ok = false; rw [this]; rfl
          clear HOK
          go_wp2_with fail
          refine (HF1.out _).mono ?_
          rintro e w' ⟨rfl, rfl⟩
          go_wp2_with fail
          go_meet
          exact ⟨congrArg Value.bool (by rw [HQ.out]; first | rfl | (simp; done) | (simp; omega)), B4.out⟩
        · have k3 : ((Wh[0].toNat : Int) == 48) = false := by simp; omega
          have HZ : Hid (ok = (true && !false && (pt == decide (0 < u)) && decide (Pa.size = u) && (!decide (0 < u) || f2))) := HOK.out false (fun _ _ => k3.symm) (fun h => absurd c2 h)
          clear HOK
          cases pt
          · rcases Nat.eq_zero_or_pos u with c6 | c6
            · have k6 : decide ((0 : Int) < ui) = false := by have := hui.out; simp; omega
              have c6' : decide (0 < u) = false := decide_eq_false (by omega)
              by_cases c5 : Pa.size = u
              · have k5 : ((Pa.size : Int) != ui) = false := by rw [hui.out, c5]; simp
                have HQ : Hid (ok = true) := by have := HZ.out; show ok = true; rw [this, c6', decide_eq_true c5]; rfl
                clear HZ c6 c6' c5
                go_wp2_with fail
                refine (HF1.out _).mono ?_
                rintro e w' ⟨rfl, rfl⟩
                go_wp2_with fail
                go_meet
                exact ⟨congrArg Value.bool (by rw [HQ.out]; first | rfl | (simp; done) | (simp; omega)), B4.out⟩
              · have k5 : ((Pa.size : Int) != ui) = true := by have := hui.out; simp; omega
                have HQ : Hid (ok = false) := by have := HZ.out; show ok = false; rw [this, c6', decide_eq_false c5]; rfl
                clear HZ c6 c6' c5
                go_wp2_with fail
                refine (HF1.out _).mono ?_
                rintro e w' ⟨rfl, rfl⟩
                go_wp2_with fail
                go_meet
                exact ⟨congrArg Value.bool (by rw [HQ.out]; first | rfl | (simp; done) | (simp; omega)), B4.out⟩
            · have k6 : decide ((0 : Int) < ui) = true := by have := hui.out; simp; omega
              have c6' : decide (0 < u) = true := decide_eq_true c6
              have HQ : Hid (ok = false) := by have := HZ.out; show ok = false; rw [this, c6']; rfl
              clear HZ c6 c6'
              go_wp2_with fail
              refine (HF1.out _).mono ?_
              rintro e w' ⟨rfl, rfl⟩
              go_wp2_with fail
              go_meet
              exact ⟨congrArg Value.bool (by rw [HQ.out]; first | rfl | (simp; done) | (simp; omega)), B4.out⟩
          · rcases Nat.eq_zero_or_pos u with c6 | c6
            · have k6 : decide ((0 : Int) < ui) = false := by have := hui.out; simp; omega
              have c6' : decide (0 < u) = false := decide_eq_false (by omega)
              have HQ : Hid (ok = false) := by have := HZ.out; show ok = false; rw [this, c6']; rfl
              clear HZ c6 c6'
              go_wp2_with fail
              refine (HF1.out _).mono ?_
              rintro e w' ⟨rfl, rfl⟩
              go_wp2_with fail
              go_meet
              exact ⟨congrArg Value.bool (by rw [HQ.out]; first | rfl | (simp; done) | (simp; omega)), B4.out⟩
            · have k6 : decide ((0 : Int) < ui) = true := by have := hui.out; simp; omega
              have c6' : decide (0 < u) = true := decide_eq_true c6
              by_cases c5 : Pa.size = u
              · have k5 : ((Pa.size : Int) != ui) = false := by rw [hui.out, c5]; simp
                cases f2
                · have HQ : Hid (ok = false) := by have := HZ.out; show ok = false; rw [this, c6', decide_eq_true c5]; rfl
                  clear HZ c6 c6' c5
                  go_wp2_with fail
                  refine (HF1.out _).mono ?_
                  rintro e w' ⟨rfl, rfl⟩
                  go_wp2_with fail
                  refine (HF2.out _).mono ?_
                  rintro e w' ⟨rfl, rfl⟩
                  go_wp2_with fail
                  go_meet
                  exact ⟨congrArg Value.bool (by rw [HQ.out]; first | rfl | (simp; done) | (simp; omega)), B4.out⟩
                · have HQ : Hid (ok = true) := by have := HZ.out; show ok = true; rw [this, c6', decide_eq_true c5]; rfl
                  clear HZ c6 c6' c5
                  go_wp2_with fail
                  refine (HF1.out _).mono ?_
                  rintro e w' ⟨rfl, rfl⟩
                  go_wp2_with fail
                  refine (HF2.out _).mono ?_
                  rintro e w' ⟨rfl, rfl⟩
                  go_wp2_with fail
                  go_meet
                  exact ⟨congrArg Value.bool (by rw [HQ.out]; first | rfl | (simp; done) | (simp; omega)), B4.out⟩
              · have k5 : ((Pa.size : Int) != ui) = true := by have := hui.out; simp; omega
                have HQ : Hid (ok = false) := by have := HZ.out; show ok = false; rw [this, c6', decide_eq_false c5]; rfl
                clear HZ c6 c6' c5
                go_wp2_with fail
                refine (HF1.out _).mono ?_
                rintro e w' ⟨rfl, rfl⟩
                go_wp2_with fail
                go_meet
                exact ⟨congrArg Value.bool (by rw [HQ.out]; first | rfl | (simp; done) | (simp; omega)), B4.out⟩
      · have HZ : Hid (ok = (true && !false && (pt == decide (0 < u)) && decide (Pa.size = u) && (!decide (0 < u) || f2))) := HOK.out false (fun h => absurd h c2) (fun _ => rfl)
        clear HOK
        cases pt
        · rcases Nat.eq_zero_or_pos u with c6 | c6
          · have k6 : decide ((0 : Int) < ui) = false := by have := hui.out; simp; omega
            have c6' : decide (0 < u) = false := decide_eq_false (by omega)
            by_cases c5 : Pa.size = u
            · have k5 : ((Pa.size : Int) != ui) = false := by rw [hui.out, c5]; simp
              have HQ : Hid (ok = true) := by have := HZ.out; show ok = true; rw [this, c6', decide_eq_true c5]; rfl
              clear HZ c6 c6' c5
              go_wp2_with fail
              refine (HF1.out _).mono ?_
              rintro e w' ⟨rfl, rfl⟩
              go_wp2_with fail
              go_meet
              exact ⟨congrArg Value.bool (by rw [HQ.out]; first | rfl | (simp; done) | (simp; omega)), B4.out⟩
            · have k5 : ((Pa.size : Int) != ui) = true := by have := hui.out; simp; omega
              have HQ : Hid (ok = false) := by have := HZ.out; show ok = false; rw [this, c6', decide_eq_false c5]; rfl
              clear HZ c6 c6' c5
              go_wp2_with fail
              refine (HF1.out _).mono ?_
              rintro e w' ⟨rfl, rfl⟩
              go_wp2_with fail
              go_meet
              exact ⟨congrArg Value.bool (by rw [HQ.out]; first | rfl | (simp; done) | (simp; omega)), B4.out⟩
          · have k6 : decide ((0 : Int) < ui) = true := by have := hui.out; simp; omega
            have c6' : decide (0 < u) = true := decide_eq_true c6
            have HQ : Hid (ok = false) := by have := HZ.out; show ok = false; rw [this, c6']; rfl
            clear HZ c6 c6'
            go_wp2_with fail
            refine (HF1.out _).mono ?_
            rintro e w' ⟨rfl, rfl⟩
            go_wp2_with fail
            go_meet
            exact ⟨congrArg Value.bool (by rw [HQ.out]; first | rfl | (simp; done) | (simp; omega)), B4.out⟩
        · rcases Nat.eq_zero_or_pos u with c6 | c6
          · have k6 : decide ((0 : Int) < ui) = false := by have := hui.out; simp; omega
            have c6' : decide (0 < u) = false := decide_eq_false (by omega)
            have HQ : Hid (ok = false) := by have := HZ.out; show ok = false; rw [this, c6']; rfl
            clear HZ c6 c6'
            go_wp2_with fail
            refine (HF1.out _).mono ?_
            rintro e w' ⟨rfl, rfl⟩
            go_wp2_with fail
            go_meet
            exact ⟨congrArg Value.bool (by rw [HQ.out]; first | rfl | (simp; done) | (simp; omega)), B4.out⟩
          · have k6 : decide ((0 : Int) < ui) = true := by have := hui.out; simp; omega
            have c6' : decide (0 < u) = true := decide_eq_true c6
            by_cases c5 : Pa.size = u
            · have k5 : ((Pa.size : Int) != ui) = false := by rw [hui.out, c5]; simp
              cases f2
              · have HQ : Hid (ok = false) := by have := HZ.out; show ok = false; rw [this, c6', decide_eq_true c5]; rfl
                clear HZ c6 c6' c5
                go_wp2_with fail
                refine (HF1.out _).mono ?_
                rintro e w' ⟨rfl, rfl⟩
                go_wp2_with fail
                refine (HF2.out _).mono ?_
                rintro e w' ⟨rfl, rfl⟩
                go_wp2_with fail
                go_meet
                exact ⟨congrArg Value.bool (by rw [HQ.out]; first | rfl | (simp; done) | (simp; omega)), B4.out⟩
              · have HQ : Hid (ok = true) := by have := HZ.out; show ok = true; rw [this, c6', decide_eq_true c5]; rfl
                clear HZ c6 c6' c5
                go_wp2_with fail
                refine (HF1.out _).mono ?_
                rintro e w' ⟨rfl, rfl⟩
                go_wp2_with fail
                refine (HF2.out _).mono ?_
                rintro e w' ⟨rfl, rfl⟩
                go_wp2_with fail
                go_meet
                exact ⟨congrArg Value.bool (by rw [HQ.out]; first | rfl | (simp; done) | (simp; omega)), B4.out⟩
            · have k5 : ((Pa.size : Int) != ui) = true := by have := hui.out; simp; omega
              have HQ : Hid (ok = false) := by have := HZ.out; show ok = false; rw [this, c6', decide_eq_false c5]; rfl
              clear HZ c6 c6' c5
              go_wp2_with fail
              refine (HF1.out _).mono ?_
              rintro e w' ⟨rfl, rfl⟩
              go_wp2_with fail
              go_meet
              exact ⟨congrArg Value.bool (by rw [HQ.out]; first | rfl | (simp; done) | (simp; omega)), B4.out⟩
  case rest =>
  obtain ⟨rfl, b5⟩ := hcut
  have B5 := Lib.hid b5
  clear b5 B1 B2 B3 B4 HC1 HC2 HU HP HF1 HF2 HOK
  cases ok with
  | false =>
    obtain ⟨rfl, rfl, rfl⟩ := R0.out rfl
    go_wp2_with fail
    go_ret3
    exact ⟨rfl, B5.out⟩
  | true =>
    have HTQ : Hid (Ca 39 #[.string (Wh ++ Pa), .string ⟨#[48]⟩] (.string T)) := HTL.out rfl
    have t0 := HT0.out rfl
    have HA1 := Lib.hid (HA1.out rfl)
    have HA2 := Lib.hid (HA2.out rfl)
    have R1 := Lib.hid (R1.out rfl)
    have R2 := Lib.hid (R2.out rfl)
    have R3' := Lib.hid (R3'.out rfl)
    have R4 := Lib.hid (R4.out rfl)
    have R5 := Lib.hid (R5.out rfl)
    clear R0 HT0 HTL
    rcases Nat.eq_zero_or_pos V with v0 | v0
    · rw [decide_eq_true v0] at t0
      cases minus with
      | false =>
        obtain ⟨rfl, rfl, rfl⟩ := R2.out v0 rfl
        clear R1 R2 R3' R4 R5 HA1 HA2
        go_wp2_with fail
        refine (Hid.out HTQ _).mono ?_
        rintro e w6 ⟨rfl, b6⟩
        have B6 := Lib.hid (B5.out.trans (b6.mono B5.out.size))
        clear b6
        go_wp2_with fail
        go_ret3
        exact ⟨rfl, B6.out⟩
      | true =>
        obtain ⟨rfl, rfl, rfl⟩ := R1.out v0 rfl
        clear R1 R2 R3' R4 R5 HA1 HA2
        go_wp2_with fail
        refine (Hid.out HTQ _).mono ?_
        rintro e w6 ⟨rfl, b6⟩
        have B6 := Lib.hid (B5.out.trans (b6.mono B5.out.size))
        clear b6
        go_wp2_with fail
        go_ret3
        exact ⟨rfl, B6.out⟩
    · rw [decide_eq_false (by omega)] at t0
      by_cases v1 : V < 9223372036854775808
      · have HA := Lib.hid (HA1.out v0 v1)
        have HAM := Lib.hid (fun W => mamount_any (V : Int) W)
        by_cases v2 : V ≤ 1125899906842624
        · rw [show amtOK (V : Int) = true by unfold amtOK; simp; omega] at HAM
          cases minus with
          | false =>
            obtain ⟨rfl, rfl, rfl⟩ := R4.out v0 v2 rfl
            clear R1 R2 R3' R4 R5 HA1 HA2
            go_wp2_with fail
            refine (Hid.out HTQ _).mono ?_
            rintro e w6 ⟨rfl, b6⟩
            have B6 := Lib.hid (B5.out.trans (b6.mono B5.out.size))
            clear b6
            go_wp2_with fail
            refine (HA.out _).mono ?_
            rintro e w7 ⟨rfl, b7⟩
            have B7 := Lib.hid (B6.out.trans (b7.mono B6.out.size))
            clear b7
            go_wp2_with fail
            refine (HAM.out _).mono ?_
            rintro e w' ⟨rfl, rfl⟩
            go_wp2_with fail
            go_ret3
            exact ⟨rfl, B7.out⟩
          | true =>
            obtain ⟨rfl, rfl, rfl⟩ := R3'.out v0 v2 rfl
            clear R1 R2 R3' R4 R5 HA1 HA2
            go_wp2_with fail
            refine (Hid.out HTQ _).mono ?_
            rintro e w6 ⟨rfl, b6⟩
            have B6 := Lib.hid (B5.out.trans (b6.mono B5.out.size))
            clear b6
            go_wp2_with fail
            refine (HA.out _).mono ?_
            rintro e w7 ⟨rfl, b7⟩
            have B7 := Lib.hid (B6.out.trans (b7.mono B6.out.size))
            clear b7
            go_wp2_with fail
            refine (HAM.out _).mono ?_
            rintro e w' ⟨rfl, rfl⟩
            go_wp2_with fail
            go_ret3
            exact ⟨rfl, B7.out⟩
        · rw [show amtOK (V : Int) = false by unfold amtOK; simp; omega] at HAM
          obtain ⟨rfl, rfl, rfl⟩ := R5.out (by omega)
          clear R1 R2 R3' R4 R5 HA1 HA2
          go_wp2_with fail
          refine (Hid.out HTQ _).mono ?_
          rintro e w6 ⟨rfl, b6⟩
          have B6 := Lib.hid (B5.out.trans (b6.mono B5.out.size))
          clear b6
          go_wp2_with fail
          refine (HA.out _).mono ?_
          rintro e w7 ⟨rfl, b7⟩
          have B7 := Lib.hid (B6.out.trans (b7.mono B6.out.size))
          clear b7
          go_wp2_with fail
          refine (HAM.out _).mono ?_
          rintro e w' ⟨rfl, rfl⟩
          go_wp2_with fail
          go_ret3
          exact ⟨rfl, B7.out⟩
      · obtain ⟨rfl, rfl, rfl⟩ := R5.out (by omega)
        have HA := Lib.hid (HA2.out v1)
        clear R1 R2 R3' R4 R5 HA1 HA2
        go_wp2_with fail
        refine (Hid.out HTQ _).mono ?_
        rintro e w6 ⟨rfl, b6⟩
        have B6 := Lib.hid (B5.out.trans (b6.mono B5.out.size))
        clear b6
        go_wp2_with fail
        refine (HA.out _ B6.out).mono ?_
        rintro e w7 ⟨⟨q, N, rfl⟩, b7⟩
        have B7 := Lib.hid (B6.out.trans (b7.mono B6.out.size))
        clear b7
        go_wp2_with fail
        go_ret3
        exact ⟨rfl, B7.out⟩

end Go.Proofs.YtnikhbdjlipcbaaDoor
