/-
  The law LexerNames walked. No condition.
-/
import Derived.Test.YtnmiiimbjojcmaaDoorLzu
import Derived.Deep.RegionHeld3
import Derived.IntWalk
namespace Go.Proofs.YtnmiiimbjojcmaaDoor
open Go.RowKit Go.Shelf Go.Deep

def LoR (w : World) (g N : Nat) (iv : Value) (wr : World) : Prop :=
  ∃ k : Nat, k ≤ N ∧ iv = .int .i64 (k : Int) ∧ wr.rowIs g 5 N (fun i => if i < k then .int .u8 ((loF i).toNat : Int) else .int .u8 0) ∧ Below w.heap.size w wr
theorem infoU8N : (Tryd.prog.info? 5).map (fun i => (i.zero, i.size, i.bytes)) = some (some (.int .u8 0), 1, 1) := by kernel_rfl
theorem vl_24 : vlT ⟨#[50, 47, 52]⟩ = false := by
  have h : chkR [50, 47, 52] ≠ 0 := by
    have e : chkR [50, 47, 52] = chkF [50] [52] := chkR_frac (k := 1) (by decide) (by decide)
    have g : gcdB [50] [52] = 2 := by decide
    rw [e]
    unfold chkF
    split
    · decide
    · split
      · decide
      · rw [g]; decide
  unfold vlT
  simpa using h
set_option maxHeartbeats 16000000 in
set_option maxRecDepth 100000 in
theorem names_any (w : World) : Calls Tryd.prog 9 #[] w (BelB w true) := by
  obtain ⟨N, hN⟩ : ∃ N : Nat, N = 20001 := ⟨_, rfl⟩
  have HNN := Lib.hid hN
  have hmk : ∀ W, (Instr.makeSlice 43 (.int .i64 20001) (.int .i64 20001)).run Tryd.prog W = .ok (.slice (some ⟨W.heap.size, 0, none⟩) N N) (W.alloc (.cells (madeCells #[.int .u8 0] N) 5)) := fun W => by
    have := run_make_row' (P := Tryd.prog) 43 5 (.int .u8 0) 1 Tryd.underlying43 infoU8N rfl .i64 .i64 N (by omega) (by omega) W
    rw [hN] at this ⊢
    exact this
  have hN1 : N ≤ 20001 := by omega
  have hN2 : 20001 ≤ N := by omega
  have HRW := Lib.hid (World.rowIs_made w (.int .u8 0) N 5)
  have HB0 := Lib.hid (own_below w (.cells (madeCells #[.int .u8 0] N) 5))
  clear hN
  go_enter Tryd.func9, Tryd.ntmps9
  go_wp2_with fail
  clear hmk
  go_loopw [2] (LoR w w.heap.size N) (fun iv _ => N - (intOf iv).toNat)
  case atStart => exact ⟨0, Nat.zero_le _, rfl, HRW.out.congr (fun i _ => by rw [if_neg (Nat.not_lt_zero _)]), HB0.out⟩
  case round =>
    obtain ⟨w1, rfl⟩ : ∃ w1 : World, w1 = wr := ⟨_, rfl⟩
    obtain ⟨k, hk, rfl, hrow, hb⟩ := hrel
    have HR := Lib.hid hrow
    have HB := Lib.hid hb
    by_cases hlt : k < N
    · have hc := hrow.cell hlt
      rw [if_neg (Nat.lt_irrefl _)] at hc
      have hf := hrow.frozen k
      have e9 : (k : Int) % 9 = ((k % 9 : Nat) : Int) := by omega
      obtain ⟨m, hm⟩ : ∃ m, m = k % 9 := ⟨_, rfl⟩
      have hm9 : m < 9 := by omega
      rw [← hm] at e9
      have HM := Lib.hid hm
      have HL : Hid (∀ v, v = .int .u8 ((loF k).toNat : Int) → LoR w w.heap.size N (.int .i64 ((k : Int) + 1)) (w1.setCell ⟨w.heap.size, k, none⟩ v)) := fun v hv => by
        refine ⟨k + 1, by omega, by go_num, (HR.out.set k v).congr (fun i _ => ?_), HB.out.setCell (Nat.le_refl _) _⟩
        by_cases e : i = k
        · subst e; rw [if_pos rfl, if_pos (by omega), hv]
        · rw [if_neg e]
          by_cases h : i < k
          · rw [if_pos h, if_pos (by omega)]
          · rw [if_neg h, if_neg (by omega)]
      clear hrow hb hm
      go_wp2_with fail
      go_roundw
      case rel =>
        refine HL.out _ ?_
        rw [loF_nat, ← HM.out]
        go_num
      case measure => simp [intOf] <;> omega
    · obtain rfl : k = N := by omega
      have HLO : Hid (∀ W, Below w1.heap.size w1 W → LoAt W w.heap.size k) := fun W hW => LoAt.below (HR.out.congr (fun i hi => by rw [if_pos hi])) hW
      have W0 : Hid (∀ W, Calls Tryd.prog 20 #[.string (bsL nm0), .int .i64 0, .int .i64 12] W (BelB W true)) := fun W => wrong_ok (bsL nm0) 0 12 W (by decide) lex_nm0
      have W1 : Hid (∀ W, Calls Tryd.prog 20 #[.string (bsL nm1), .int .i64 0, .int .i64 12] W (BelB W true)) := fun W => wrong_ok (bsL nm1) 0 12 W (by decide) lex_nm1
      have W2 : Hid (∀ W, Calls Tryd.prog 20 #[.string (bsL nm2), .int .i64 1, .int .i64 12] W (BelB W true)) := fun W => wrong_ok (bsL nm2) 1 12 W (by decide) lex_nm2
      have W3 : Hid (∀ W, Calls Tryd.prog 20 #[.string (bsL nm3), .int .i64 1, .int .i64 12] W (BelB W true)) := fun W => wrong_ok (bsL nm3) 1 12 W (by decide) lex_nm3
      have W4 : Hid (∀ W, Calls Tryd.prog 20 #[.string (bsL nm4), .int .i64 0, .int .i64 12] W (BelB W true)) := fun W => wrong_ok (bsL nm4) 0 12 W (by decide) lex_nm4
      have W5 : Hid (∀ W, Calls Tryd.prog 20 #[.string (bsL nm5), .int .i64 0, .int .i64 12] W (BelB W true)) := fun W => wrong_ok (bsL nm5) 0 12 W (by decide) lex_nm5
      have W6 : Hid (∀ W, Calls Tryd.prog 20 #[.string (bsL nm6), .int .i64 1, .int .i64 12] W (BelB W true)) := fun W => wrong_ok (bsL nm6) 1 12 W (by decide) lex_nm6
      have W7 : Hid (∀ W, Calls Tryd.prog 20 #[.string (bsL nm7), .int .i64 2, .int .i64 12] W (BelB W true)) := fun W => wrong_ok (bsL nm7) 2 12 W (by decide) lex_nm7
      have W8 : Hid (∀ W, Calls Tryd.prog 20 #[.string (bsL nm8), .int .i64 0, .int .i64 12] W (BelB W true)) := fun W => wrong_ok (bsL nm8) 0 12 W (by decide) lex_nm8
      have W9 : Hid (∀ W, Calls Tryd.prog 20 #[.string (bsL nm9), .int .i64 0, .int .i64 12] W (BelB W true)) := fun W => wrong_ok (bsL nm9) 0 12 W (by decide) lex_nm9
      have W10 : Hid (∀ W, Calls Tryd.prog 20 #[.string (bsL nm10), .int .i64 0, .int .i64 12] W (BelB W true)) := fun W => wrong_ok (bsL nm10) 0 12 W (by decide) lex_nm10
      have W11 : Hid (∀ W, Calls Tryd.prog 20 #[.string (bsL nm11), .int .i64 0, .int .i64 40] W (BelB W true)) := fun W => wrong_ok (bsL nm11) 0 40 W (by decide) lex_nm11
      have W12 : Hid (∀ W, Calls Tryd.prog 20 #[.string (bsL nm12), .int .i64 0, .int .i64 12] W (BelB W true)) := fun W => wrong_ok (bsL nm12) 0 12 W (by decide) lex_nm12
      have W13 : Hid (∀ W, Calls Tryd.prog 20 #[.string (bsL nm13), .int .i64 0, .int .i64 12] W (BelB W true)) := fun W => wrong_ok (bsL nm13) 0 12 W (by decide) lex_nm13
      have W14 : Hid (∀ W, Calls Tryd.prog 20 #[.string (bsL nm14), .int .i64 0, .int .i64 40] W (BelB W true)) := fun W => wrong_ok (bsL nm14) 0 40 W (by decide) lex_nm14
      have W15 : Hid (∀ W, Calls Tryd.prog 20 #[.string (loS 1001), .int .i64 0, .int .i64 14] W (BelB W true)) := fun W => wrong_big W 1001 rfl
      have W16 : Hid (∀ W, Calls Tryd.prog 20 #[.string (loS k), .int .i64 0, .int .i64 4] W (BelB W true)) := fun W => wrong_long (loS k) W (by rw [loS_size]; omega) (by rw [loS_size]; omega)
      have W17 : Hid (∀ W, Calls Tryd.prog 20 #[.string (⟨#[48, 46]⟩ ++ loS 1000), .int .i64 0, .int .i64 14] W (BelB W true)) := fun W => wrong_point W 1000 rfl
      have W18 : Hid (∀ W, Calls Tryd.prog 20 #[.string (⟨#[49, 47]⟩ ++ loS 1001), .int .i64 0, .int .i64 14] W (BelB W true)) := fun W => wrong_slash W 1001 rfl
      have LA : Hid (∀ W, Calls Tryd.prog 12 #[.string (bsL nma)] W (LexN W 8 12)) := fun W => lex_none (bsL nma) 8 12 W (by decide) lex_nma
      have LB : Hid (∀ W, Calls Tryd.prog 12 #[.string (bsL nmb)] W (LexY W 16 nmE 5)) := fun W => lex_some (bsL nmb) nmE 5 W (by decide) lex_nmb rfl (by decide)
      have LC : Hid (∀ W, Calls Tryd.prog 12 #[.string ⟨#[]⟩] W (LexN W 0 0)) := fun W => lex_zero ⟨#[]⟩ W (by decide) (lexL_end rfl)
      obtain ⟨aS, hA⟩ : ∃ s, s = loS 1000 := ⟨_, rfl⟩
      obtain ⟨bS, hBs⟩ : ∃ s, s = loS 1001 := ⟨_, rfl⟩
      obtain ⟨cS, hCs⟩ : ∃ s, s = loS k := ⟨_, rfl⟩
      obtain ⟨aL, haL⟩ : ∃ l, l = [numT (loL 1000) 0, mrkT [59] 1000, wrdT nm40 1001] := ⟨_, rfl⟩
      have LD : Hid (∀ W, Calls Tryd.prog 12 #[.string (loS 1000 ++ ⟨#[59]⟩ ++ nmS)] W (LexY W 1041 aL 3)) := fun W => by rw [haL]; exact lex_three W 1000 rfl
      have z1 : aS.size ≤ 1001 := by rw [hA, loS_size]; omega
      have z2 : bS.size ≤ 1001 := by rw [hBs, loS_size]; omega
      have HTD : Hid (∀ W g, Tks W g 0 aL → W.cell? ⟨g, 2, none⟩ = some (.string aS) ∧ W.cell? ⟨g, 11, none⟩ = some (.string ⟨#[97, 98, 99, 100, 101, 102, 103, 104, 105, 106, 107, 108, 109, 110, 111, 112, 113, 114, 115, 116, 117, 118, 119, 120, 121, 122, 97, 98, 99, 100, 101, 102, 103, 104, 105, 106, 107, 108, 109, 110]⟩)) := fun W g h => by
        rw [haL] at h
        have h0 := (h 0 (by decide)).2.2.1
        have h2 := (h 2 (by decide)).2.1
        exact ⟨by rw [hA]; exact h0, h2⟩
      have CV : Hid (∀ W, LoAt W w.heap.size k → (convert 43 9 (.slice (some ⟨w.heap.size, 0, none⟩) 1000 k)).run Tryd.prog W = .ok (.string aS) W ∧ (convert 43 9 (.slice (some ⟨w.heap.size, 0, none⟩) 1001 k)).run Tryd.prog W = .ok (.string bS) W ∧ (convert 43 9 (.slice (some ⟨w.heap.size, 0, none⟩) k k)).run Tryd.prog W = .ok (.string cS) W) := fun W h => by
        rw [hA, hBs, hCs]; exact ⟨lo_conv h (by omega), lo_conv h (by omega), lo_conv h (Nat.le_refl _)⟩
      rw [← hA] at W17 LD
      rw [← hBs] at W15 W18
      rw [← hCs] at W16
      clear hA hBs hCs haL
      have R0 := Lib.hid (Below.refl w1.heap.size w1)
      clear hrow hb HR HRW HB0
      go_wp2_with fail
      refine (W0.out _).mono ?_
      rintro e x0 ⟨rfl, hb⟩
      have R1 := Lib.hid (R0.out.trans (hb.mono R0.out.size))
      clear R0
      clear hb
      go_wp2_with fail
      refine (W1.out _).mono ?_
      rintro e x1 ⟨rfl, hb⟩
      have R2 := Lib.hid (R1.out.trans (hb.mono R1.out.size))
      clear R1
      clear hb
      go_wp2_with fail
      refine (W2.out _).mono ?_
      rintro e x2 ⟨rfl, hb⟩
      have R3 := Lib.hid (R2.out.trans (hb.mono R2.out.size))
      clear R2
      clear hb
      go_wp2_with fail
      refine (W3.out _).mono ?_
      rintro e x3 ⟨rfl, hb⟩
      have R4 := Lib.hid (R3.out.trans (hb.mono R3.out.size))
      clear R3
      clear hb
      go_wp2_with fail
      refine (W4.out _).mono ?_
      rintro e x4 ⟨rfl, hb⟩
      have R5 := Lib.hid (R4.out.trans (hb.mono R4.out.size))
      clear R4
      clear hb
      go_wp2_with fail
      refine (W5.out _).mono ?_
      rintro e x5 ⟨rfl, hb⟩
      have R6 := Lib.hid (R5.out.trans (hb.mono R5.out.size))
      clear R5
      clear hb
      go_wp2_with fail
      refine (W6.out _).mono ?_
      rintro e x6 ⟨rfl, hb⟩
      have R7 := Lib.hid (R6.out.trans (hb.mono R6.out.size))
      clear R6
      clear hb
      go_wp2_with fail
      refine (W7.out _).mono ?_
      rintro e x7 ⟨rfl, hb⟩
      have R8 := Lib.hid (R7.out.trans (hb.mono R7.out.size))
      clear R7
      clear hb
      go_wp2_with fail
      refine (W8.out _).mono ?_
      rintro e x8 ⟨rfl, hb⟩
      have R9 := Lib.hid (R8.out.trans (hb.mono R8.out.size))
      clear R8
      clear hb
      go_wp2_with fail
      refine (W9.out _).mono ?_
      rintro e x9 ⟨rfl, hb⟩
      have R10 := Lib.hid (R9.out.trans (hb.mono R9.out.size))
      clear R9
      clear hb
      go_wp2_with fail
      refine (W10.out _).mono ?_
      rintro e x10 ⟨rfl, hb⟩
      have R11 := Lib.hid (R10.out.trans (hb.mono R10.out.size))
      clear R10
      clear hb
      go_wp2_with fail
      refine (W11.out _).mono ?_
      rintro e x11 ⟨rfl, hb⟩
      have R12 := Lib.hid (R11.out.trans (hb.mono R11.out.size))
      clear R11
      clear hb
      go_wp2_with fail
      refine (W12.out _).mono ?_
      rintro e x12 ⟨rfl, hb⟩
      have R13 := Lib.hid (R12.out.trans (hb.mono R12.out.size))
      clear R12
      clear hb
      go_wp2_with fail
      refine (W13.out _).mono ?_
      rintro e x13 ⟨rfl, hb⟩
      have R14 := Lib.hid (R13.out.trans (hb.mono R13.out.size))
      clear R13
      clear hb
      go_wp2_with fail
      refine (W14.out _).mono ?_
      rintro e x14 ⟨rfl, hb⟩
      have R15 := Lib.hid (R14.out.trans (hb.mono R14.out.size))
      clear R14
      clear hb
      obtain ⟨cv1, cv2, cv3⟩ := CV.out _ (HLO.out _ R15.out)
      go_wp2_with fail
      refine (W15.out _).mono ?_
      rintro e x15 ⟨rfl, hb⟩
      have R16 := Lib.hid (R15.out.trans (hb.mono R15.out.size))
      clear R15
      clear hb
      clear cv1 cv2 cv3
      obtain ⟨cv1, cv2, cv3⟩ := CV.out _ (HLO.out _ R16.out)
      go_wp2_with fail
      refine (W16.out _).mono ?_
      rintro e x16 ⟨rfl, hb⟩
      have R17 := Lib.hid (R16.out.trans (hb.mono R16.out.size))
      clear R16
      clear hb
      clear cv1 cv2 cv3
      obtain ⟨cv1, cv2, cv3⟩ := CV.out _ (HLO.out _ R17.out)
      go_wp2_with fail
      refine (W17.out _).mono ?_
      rintro e x17 ⟨rfl, hb⟩
      have R18 := Lib.hid (R17.out.trans (hb.mono R17.out.size))
      clear R17
      clear hb
      clear cv1 cv2 cv3
      obtain ⟨cv1, cv2, cv3⟩ := CV.out _ (HLO.out _ R18.out)
      go_wp2_with fail
      refine (W18.out _).mono ?_
      rintro e x18 ⟨rfl, hb⟩
      have R19 := Lib.hid (R18.out.trans (hb.mono R18.out.size))
      clear R18
      clear hb
      clear cv1 cv2 cv3
      go_wp2_with fail
      refine (LA.out _).mono ?_
      rintro e x19 ⟨a1, c1, rfl, hb⟩
      have R20 := Lib.hid (R19.out.trans (hb.mono R19.out.size))
      clear R19
      clear hb
      go_wp2_with fail
      refine (LB.out _).mono ?_
      rintro e x20 ⟨g2, c2, rfl, t2, k2, m2, hb⟩
      have R21 := Lib.hid (R20.out.trans (hb.mono R20.out.size))
      clear R20
      have T2 := Lib.hid t2
      clear t2
      clear hb
      go_wp2_with fail
      refine (LC.out _).mono ?_
      rintro e x21 ⟨a3, c3, rfl, hb⟩
      have R22 := Lib.hid (R21.out.trans (hb.mono R21.out.size))
      clear R21
      have T2 := Lib.hid (tks_below T2.out hb m2)
      have m2 : g2 < x21.heap.size := Nat.lt_of_lt_of_le m2 hb.size
      clear hb
      obtain ⟨cv1, cv2, cv3⟩ := CV.out _ (HLO.out _ R22.out)
      go_wp2_with fail
      refine (LD.out _).mono ?_
      rintro e x22 ⟨g4, c4, rfl, t4, k4, m4, hb⟩
      have R23 := Lib.hid (R22.out.trans (hb.mono R22.out.size))
      clear R22
      have T2 := Lib.hid (tks_below T2.out hb m2)
      have m2 : g2 < x22.heap.size := Nat.lt_of_lt_of_le m2 hb.size
      have T4 := Lib.hid t4
      clear t4
      clear hb
      clear cv1 cv2 cv3
      go_wp2_with fail
      have SALL : Hid (∀ W, Below x22.heap.size x22 W → W.cell? ⟨g4, 2, none⟩ = some (.string aS) ∧ W.cell? ⟨g4, 11, none⟩ = some (.string ⟨#[97, 98, 99, 100, 101, 102, 103, 104, 105, 106, 107, 108, 109, 110, 111, 112, 113, 114, 115, 116, 117, 118, 119, 120, 121, 122, 97, 98, 99, 100, 101, 102, 103, 104, 105, 106, 107, 108, 109, 110]⟩) ∧ (convert 43 9 (.slice (some ⟨w.heap.size, 0, none⟩) 1000 k)).run Tryd.prog W = .ok (.string aS) W) := fun W hW => by
        obtain ⟨h1, h2⟩ := HTD.out W g4 (tks_below T4.out hW m4)
        exact ⟨h1, h2, (CV.out W (HLO.out W (R23.out.trans (hW.mono R23.out.size)))).1⟩
      have HST := Lib.hid (Below.refl x22.heap.size x22)
      have HD0 : Hid (Below x22.heap.size x22 x22.drew) := (Below.refl _ x22).drew
      have hk1 : (1000 : Int) ≤ (k : Int) := by omega
      have hk2 : (0 : Int) ≤ 1000 := by decide
      have hk3 : ¬ (k : Int) < 1000 := by omega
      have hk4 : 1000 ≤ k := by omega
      have hk5 : ¬ k < 1000 := by omega
      go_region_held3 (fun W => W.cell? ⟨g4, 2, none⟩ = some (.string aS) ∧ W.cell? ⟨g4, 11, none⟩ = some (.string ⟨#[97, 98, 99, 100, 101, 102, 103, 104, 105, 106, 107, 108, 109, 110, 111, 112, 113, 114, 115, 116, 117, 118, 119, 120, 121, 122, 97, 98, 99, 100, 101, 102, 103, 104, 105, 106, 107, 108, 109, 110]⟩) ∧ (convert 43 9 (.slice (some ⟨w.heap.size, 0, none⟩) 1000 k)).run Tryd.prog W = .ok (.string aS) W)
        ((first | with_reducible exact SALL.out _ HST.out | with_reducible exact SALL.out _ HD0.out | with_reducible exact SALL.out _ S7.out | with_reducible exact SALL.out _ S6.out | with_reducible exact SALL.out _ S5.out | with_reducible exact SALL.out _ S4.out | with_reducible exact SALL.out _ S3.out | with_reducible exact SALL.out _ S2.out | with_reducible exact SALL.out _ S1.out))
        ((first
          | (go_at_call 21
             refine (number_tk _ _ _).mono ?_
             rintro e xn ⟨rfl, y⟩
             first
               | (have S5 := Lib.hid (S4.out.trans (y.mono S4.out.size))
                  have HSM := Lib.hid (same_lit g2 nmE 5 c2 5 #[.int .u8 3, .string ⟨#[]⟩, .string ⟨#[48]⟩, .int .i64 0, .int .i64 0, .int .u8 3, .string ⟨#[]⟩, .string ⟨#[45, 51, 47, 50]⟩, .int .i64 0, .int .i64 3, .int .u8 3, .string ⟨#[]⟩, .string ⟨#[48]⟩, .int .i64 0, .int .i64 8, .int .u8 1, .string ⟨#[97, 45, 50]⟩, .string ⟨#[]⟩, .int .i64 0, .int .i64 10, .int .u8 3, .string ⟨#[]⟩, .string ⟨#[45, 50]⟩, .int .i64 0, .int .i64 14] xn rfl (by omega) (Nat.lt_of_lt_of_le m2 S5.out.size) (tks_below T2.out S5.out m2) rfl)
                  have S6 := Lib.hid (S5.out.alloc S5.out.size (.cells #[.int .u8 3, .string ⟨#[]⟩, .string ⟨#[48]⟩, .int .i64 0, .int .i64 0, .int .u8 3, .string ⟨#[]⟩, .string ⟨#[45, 51, 47, 50]⟩, .int .i64 0, .int .i64 3, .int .u8 3, .string ⟨#[]⟩, .string ⟨#[48]⟩, .int .i64 0, .int .i64 8, .int .u8 1, .string ⟨#[97, 45, 50]⟩, .string ⟨#[]⟩, .int .i64 0, .int .i64 10, .int .u8 3, .string ⟨#[]⟩, .string ⟨#[45, 50]⟩, .int .i64 0, .int .i64 14] 33)))
               | (have S3 := Lib.hid (S2.out.trans (y.mono S2.out.size)))
               | (have S2 := Lib.hid (S1.out.trans (y.mono S1.out.size)))
               | (have S1 := Lib.hid (HD0.out.trans (y.mono HD0.out.size)))
             clear y)
          | (go_at_call 22
             refine (tkWord_any _ _ _).mono ?_
             rintro e xw ⟨rfl, y⟩
             have S4 := Lib.hid (S3.out.trans (y.mono S3.out.size))
             clear y)
          | (go_at_call 13
             refine HSM.out.mono ?_
             rintro e xs ⟨rfl, y⟩
             have S7 := Lib.hid (S6.out.trans (y.mono S6.out.size))
             clear y)))
      have R24 := Lib.hid (R23.out.trans (S7.out.mono R23.out.size))
      clear SALL HST HD0 R23
      have hp1 : plnN ⟨#[97, 10, 98, 99]⟩ 4 = 2 ∧ plcZ ⟨#[97, 10, 98, 99]⟩ 4 = 3 := ⟨by decide, by decide⟩
      have PA : Hid (∀ W, Calls Tryd.prog 15 #[.string ⟨#[97, 10, 98, 99]⟩, .int .i64 4] W (PlPost W 2 3 0)) := fun W => by
        have := place_ok ⟨#[97, 10, 98, 99]⟩ 4 W (by decide) (by decide)
        rw [hp1.1, hp1.2] at this
        exact this
      have PB : Hid (∀ W, Calls Tryd.prog 15 #[.string ⟨#[97]⟩, .int .i64 2] W (PlPost W 0 0 2)) := fun W => place_bad ⟨#[97]⟩ 2 W (.inr (by decide))
      clear hp1
      go_wp2_with fail
      refine (PA.out _).mono ?_
      rintro e w' ⟨rfl, rfl⟩
      go_wp2_with fail
      refine (PB.out _).mono ?_
      rintro e w' ⟨rfl, rfl⟩
      go_wp2_with fail
      refine (tkWord_any _ _ _).mono ?_
      rintro e x24 ⟨rfl, hb⟩
      have R25 := Lib.hid (R24.out.trans (hb.mono R24.out.size))
      clear R24
      clear hb
      go_wp2_with fail
      refine (join_fresh jbE 2 2 #[.int .u8 1, .string ⟨#[97]⟩, .string ⟨#[]⟩, .int .i64 0, .int .i64 0, .int .u8 0, .string ⟨#[]⟩, .string ⟨#[]⟩, .int .i64 0, .int .i64 0] ⟨#[]⟩ 8 x24 rfl (by omega) rfl jb_small jb_res).mono ?_
      rintro e x25 ⟨rfl, hb⟩
      have R26 := Lib.hid ((R25.out.alloc R25.out.size (.cells #[.int .u8 1, .string ⟨#[97]⟩, .string ⟨#[]⟩, .int .i64 0, .int .i64 0, .int .u8 0, .string ⟨#[]⟩, .string ⟨#[]⟩, .int .i64 0, .int .i64 0] 33)).trans (hb.mono (R25.out.alloc R25.out.size (.cells #[.int .u8 1, .string ⟨#[97]⟩, .string ⟨#[]⟩, .int .i64 0, .int .i64 0, .int .u8 0, .string ⟨#[]⟩, .string ⟨#[]⟩, .int .i64 0, .int .i64 0] 33)).size))
      clear R25 hb
      go_wp2_with fail
      refine (tkWord_any _ _ _).mono ?_
      rintro e x26 ⟨rfl, hb⟩
      have R27 := Lib.hid (R26.out.trans (hb.mono R26.out.size))
      clear R26
      clear hb
      go_wp2_with fail
      refine (tkMark_any _ _ _).mono ?_
      rintro e x27 ⟨rfl, hb⟩
      have R28 := Lib.hid (R27.out.trans (hb.mono R27.out.size))
      clear R27
      clear hb
      go_wp2_with fail
      refine (number_tk _ _ _).mono ?_
      rintro e x28 ⟨rfl, hb⟩
      have R29 := Lib.hid (R28.out.trans (hb.mono R28.out.size))
      clear R28
      clear hb
      go_wp2_with fail
      refine (join_fresh jnE 5 5 #[.int .u8 1, .string ⟨#[116, 111]⟩, .string ⟨#[]⟩, .int .i64 0, .int .i64 9, .int .u8 2, .string ⟨#[116, 111]⟩, .string ⟨#[]⟩, .int .i64 0, .int .i64 0, .int .u8 4, .string ⟨#[]⟩, .string ⟨#[]⟩, .int .i64 0, .int .i64 0, .int .u8 5, .string ⟨#[45]⟩, .string ⟨#[]⟩, .int .i64 0, .int .i64 0, .int .u8 3, .string ⟨#[]⟩, .string ⟨#[49, 47, 51]⟩, .int .i64 0, .int .i64 0] ⟨#[116, 111, 32, 34, 116, 111, 34, 32, 49, 57, 48, 48, 45, 48, 49, 45, 48, 49, 32, 45, 32, 49, 47, 51]⟩ 0 x28 rfl (by omega) rfl jn_small jn_res).mono ?_
      rintro e x29 ⟨rfl, hb⟩
      have R30 := Lib.hid ((R29.out.alloc R29.out.size (.cells #[.int .u8 1, .string ⟨#[116, 111]⟩, .string ⟨#[]⟩, .int .i64 0, .int .i64 9, .int .u8 2, .string ⟨#[116, 111]⟩, .string ⟨#[]⟩, .int .i64 0, .int .i64 0, .int .u8 4, .string ⟨#[]⟩, .string ⟨#[]⟩, .int .i64 0, .int .i64 0, .int .u8 5, .string ⟨#[45]⟩, .string ⟨#[]⟩, .int .i64 0, .int .i64 0, .int .u8 3, .string ⟨#[]⟩, .string ⟨#[49, 47, 51]⟩, .int .i64 0, .int .i64 0] 33)).trans (hb.mono (R29.out.alloc R29.out.size (.cells #[.int .u8 1, .string ⟨#[116, 111]⟩, .string ⟨#[]⟩, .int .i64 0, .int .i64 9, .int .u8 2, .string ⟨#[116, 111]⟩, .string ⟨#[]⟩, .int .i64 0, .int .i64 0, .int .u8 4, .string ⟨#[]⟩, .string ⟨#[]⟩, .int .i64 0, .int .i64 0, .int .u8 5, .string ⟨#[45]⟩, .string ⟨#[]⟩, .int .i64 0, .int .i64 0, .int .u8 3, .string ⟨#[]⟩, .string ⟨#[49, 47, 51]⟩, .int .i64 0, .int .i64 0] 33)).size))
      clear R29 hb
      have b24 : vlT ⟨#[50, 47, 52]⟩ = false := vl_24
      have emp : (⟨#[]⟩ : ByteArray).toList.isEmpty = true := by rw [toList_data]; rfl
      have C1 : Hid (∀ W, Calls Tryd.prog 16 #[.agg #[.int .u8 3, .string ⟨#[]⟩, .string ⟨#[50, 47, 52]⟩, .int .i64 0, .int .i64 0]] W (Err8 W)) := fun W => check_bad 3 ⟨#[]⟩ ⟨#[50, 47, 52]⟩ 0 0 W (by decide) (by unfold tkB; dsimp only; rw [b24, emp]; rfl)
      have C2 : Hid (∀ W, Calls Tryd.prog 16 #[.agg #[.int .u8 1, .string ⟨#[97]⟩, .string ⟨#[]⟩, .int .i64 0, .int .i64 20001]] W (Err8 W)) := fun W => check_bad 1 ⟨#[97]⟩ ⟨#[]⟩ 0 20001 W (by decide) (by unfold tkB; dsimp only; rw [emp]; decide)
      have C3 : Hid (∀ W, Calls Tryd.prog 16 #[.agg #[.int .u8 5, .string ⟨#[40, 41]⟩, .string ⟨#[]⟩, .int .i64 0, .int .i64 0]] W (Err8 W)) := fun W => check_bad 5 ⟨#[40, 41]⟩ ⟨#[]⟩ 0 0 W (by decide) (by unfold tkB; dsimp only; rw [emp]; decide)
      have C4 : Hid (∀ W, Calls Tryd.prog 16 #[.agg #[.int .u8 1, .string ⟨#[97]⟩, .string ⟨#[]⟩, .int .i64 1, .int .i64 0]] W (Err8 W)) := fun W => check_bad 1 ⟨#[97]⟩ ⟨#[]⟩ 1 0 W (by decide) (by unfold tkB; dsimp only; rw [emp]; decide)
      have C5 : Hid (∀ W, Calls Tryd.prog 16 #[.agg #[.int .u8 6, .string ⟨#[]⟩, .string ⟨#[]⟩, .int .i64 0, .int .i64 0]] W (Err8 W)) := fun W => check_bad 6 ⟨#[]⟩ ⟨#[]⟩ 0 0 W (by decide) rfl
      clear b24 emp
      go_wp2_with fail
      refine (number_tk _ _ _).mono ?_
      rintro e x30 ⟨rfl, hb⟩
      have R31 := Lib.hid (R30.out.trans (hb.mono R30.out.size))
      clear R30
      clear hb
      go_wp2_with fail
      refine (C1.out _).mono ?_
      rintro e x31 ⟨rfl, hb⟩
      have R32 := Lib.hid (R31.out.trans (hb.mono R31.out.size))
      clear R31
      clear hb
      go_wp2_with fail
      refine (tkWord_any _ _ _).mono ?_
      rintro e x32 ⟨rfl, hb⟩
      have R33 := Lib.hid (R32.out.trans (hb.mono R32.out.size))
      clear R32
      clear hb
      go_wp2_with fail
      refine (C2.out _).mono ?_
      rintro e x33 ⟨rfl, hb⟩
      have R34 := Lib.hid (R33.out.trans (hb.mono R33.out.size))
      clear R33
      clear hb
      go_wp2_with fail
      refine (tkMark_any _ _ _).mono ?_
      rintro e x34 ⟨rfl, hb⟩
      have R35 := Lib.hid (R34.out.trans (hb.mono R34.out.size))
      clear R34
      clear hb
      go_wp2_with fail
      refine (C3.out _).mono ?_
      rintro e x35 ⟨rfl, hb⟩
      have R36 := Lib.hid (R35.out.trans (hb.mono R35.out.size))
      clear R35
      clear hb
      go_wp2_with fail
      refine (C4.out _).mono ?_
      rintro e x36 ⟨rfl, hb⟩
      have R37 := Lib.hid (R36.out.trans (hb.mono R36.out.size))
      clear R36
      clear hb
      go_wp2_with fail
      refine (C5.out _).mono ?_
      rintro e x37 ⟨rfl, hb⟩
      have R38 := Lib.hid (R37.out.trans (hb.mono R37.out.size))
      clear R37
      clear hb
      go_wp2_with fail
      refine (alive_any _).mono ?_
      rintro e x38 ⟨rfl, hb⟩
      have R39 := Lib.hid (R38.out.trans (hb.mono R38.out.size))
      clear R38
      clear hb
      have RE := Lib.hid (HB.out.trans (R39.out.mono HB.out.size))
      go_wp2_with fail
      go_ret
      exact ⟨rfl, RE.out⟩

end Go.Proofs.YtnmiiimbjojcmaaDoor
