/-
  money.Split of a negative total, and where an argument is out of range. The law MoneySplits: the walk of the statement's own function.
-/
import Derived.Test.YtnikhbdjlipcbaaGreatDoorWg
namespace Go.Proofs.YtnikhbdjlipcbaaGreatDoor.Spl
open Go.RowKit

set_option maxHeartbeats 2000000 in
set_option maxRecDepth 100000 in
theorem split_neg (b o c n : Nat) (size : Int) (ws : List Int) (w : World) (hl : ws.length = n) (hb : b < w.heap.size) (hg : Good size ws) (hpos : 0 < size)
    (hc : Lies w b o n ws) :
    Calls Tryz.prog 9 #[.int .i64 (-size), .slice (some ⟨b, o, none⟩) n c] w (SplitPost w n ((parts size ws).map fun x => -x)) := by
  have HL := Lib.hid hl
  have HG := Lib.hid hg
  have HC := Lib.hid hc
  have b0 := hg.s0
  have b1 := hg.s1
  have b2 : n ≤ 100 := hl ▸ hg.n1
  have b3 : 1 ≤ n := by
    rcases Nat.eq_zero_or_pos n with e | e
    · have := hg.s2; rw [List.eq_nil_of_length_eq_zero (hl.trans e)] at this; simp [sumL] at this
    · exact e
  have hA : amtB (-size) = true := by unfold amtB; simp; omega
  have s1 : 0 < sumL ws := hg.s2
  have s2 : sumL ws ≤ 400000 := sum_small size ws hg
  have s3 : (sumL ws == 0) = false := by rw [beq_eq_false_iff_ne]; omega
  have t5 : decide (-size < 0) = true := by simp; omega
  clear hl hg hc
  obtain ⟨w3, hw3⟩ : ∃ w3, w3 = ((w.alloc (.cells #[.int .i64 (-size)] 3)).alloc (.cells #[.slice (some ⟨b, o, none⟩) n c] 22)).alloc (.cells #[.int .i64 0] 3) := ⟨_, rfl⟩
  have z1 : w3.heap.size = w.heap.size + 1 + 1 + 1 := by rw [hw3]; simp
  have f1 : w3.cell? ⟨w.heap.size, 0, none⟩ = some (.int .i64 (-size)) := by rw [hw3]; simp [go_sem, World.cell?_alloc_past]
  have f2 : w3.cell? ⟨w.heap.size + 1, 0, none⟩ = some (.slice (some ⟨b, o, none⟩) n c) := by rw [hw3]; simp [go_sem, World.cell?_alloc_past]
  have f3 : RowAt w3 (w.heap.size + 1 + 1) 3 (ints [0]) := by
    rw [hw3]
    exact rowAt_alloc (by simp) rfl
  have n3 : Below w.heap.size w w3 := by rw [hw3]; exact ((((Below.refl _ _).alloc (Nat.le_refl _) _).alloc (by simp) _).alloc (by simp; omega) _)
  have HW3 := Lib.hid hw3
  have HZ := Lib.hid z1
  have HF1 := Lib.hid f1
  have HF2 := Lib.hid f2
  have HF3 := Lib.hid f3
  have bs : b ≠ w.heap.size + 1 + 1 := by omega
  clear hw3 z1 f1 f2 f3
  go_enter Tryz.func9, Tryz.ntmps9
  go_wp2_with fail
  rw [← HW3.out]
  obtain ⟨T, hT⟩ : ∃ T, T = w.heap.size := ⟨_, rfl⟩
  obtain ⟨V, hV⟩ : ∃ V, V = w.heap.size + 1 := ⟨_, rfl⟩
  obtain ⟨S, hS⟩ : ∃ S, S = w.heap.size + 1 + 1 := ⟨_, rfl⟩
  have k1 := HF1.out
  have k2 := HF2.out
  have k3 := HF3.out
  have k4 := HZ.out
  rw [← hS] at bs k3 k4 ⊢
  rw [← hV] at k2 ⊢
  rw [← hT] at k1 n3 hb ⊢
  have HF1 := Lib.hid k1
  have HF2 := Lib.hid k2
  have HF3 := Lib.hid k3
  have tv1 : T < S := by omega
  have tv2 : V < S := by omega
  have tv3 : S < w3.heap.size := by omega
  have tv4 : T ≠ V := by omega
  have HT := Lib.hid hT
  have HV := Lib.hid hV
  have HS := Lib.hid hS
  have HC3 : Hid (Lies w3 b o n ws) := fun i hi => (n3.cell (p := ⟨b, o + i, none⟩) hb).trans (HC.out i hi)
  clear k1 k2 k3 k4 hT hV hS
  go_loopw [8, 21] (fun _ i wr => AddRel w3 S n ws i wr) (fun _ i _ => n - (intOf i).toNat)
  case atStart => exact ⟨0, Nat.zero_le _, rfl, HF3.out, only_refl _ _⟩
  case round =>
    obtain ⟨k, hk, rfl, ro, gr⟩ := hrel
    have bs := sumL_bd ws HG.out.w1 k (by have := HL.out; omega)
    obtain ⟨bs1, bs2⟩ := bs
    have r1 : wr.cell? ⟨S, 0, none⟩ = some (.int .i64 (sumL (ws.take k))) := by rw [ro.cell (by simp [ints])]; rfl
    have r2 := ro.frozen 0
    have gk1 : wr.cell? ⟨T, 0, none⟩ = some (.int .i64 (-size)) := gr.cell HF1.out (by simp; omega)
    have gk2 : wr.cell? ⟨V, 0, none⟩ = some (.slice (some ⟨b, o, none⟩) n c) := gr.cell HF2.out (by simp; omega)
    by_cases hlt : k < n
    · have g1 : wr.cell? ⟨b, o + k, none⟩ = some (.int .i64 (ws[k]?.getD 0)) := gr.cell (HC3.out k hlt) (by simp; omega)
      obtain ⟨x1, x2⟩ := HG.out.w1 k (by have := HL.out; omega)
      have hs : sumL (ws.take (k + 1)) = sumL (ws.take k) + ws[k]?.getD 0 := by
        have a := HL.out
        rw [take_snoc' ws k (by omega), sumL_snoc]
      have ro' := ro.set 0 (.int .i64 (sumL (ws.take k) + ws[k]?.getD 0))
      rw [ints_set, List.set_cons_zero] at ro'
      have gr' := only_setCell gr (p := ⟨S, 0, none⟩) (.inl rfl) (.int .i64 (sumL (ws.take k) + ws[k]?.getD 0))
      have HS2 := Lib.hid hs
      have hb2 : sumL (ws.take k) + ws[k]?.getD 0 ≤ 400000 := by
        rw [← hs]
        have := (sumL_bd ws HG.out.w1 (k + 1) (by have := HL.out; omega)).2
        omega
      clear hs ro gr
      go_wp2_with fail
      go_roundw
      case rel => exact ⟨k + 1, by omega, by go_num, by rw [HS2.out]; exact ro', gr'⟩
      case measure => simp [intOf]; omega
    · have hkn : ws.take k = ws := by have := HL.out; exact List.take_of_length_le (by omega)
      rw [hkn] at r1 ro
      have g2 : Lies wr b o n ws := fun i hi => gr.cell (HC3.out i hi) (by simp; omega)
      have HC4 := Lib.hid g2
      have n4 : Below T w wr := n3.grown gr (by omega) (fun k hk => by injection hk; omega)
      have hsz : S < wr.heap.size := by have := gr.size; omega
      have htz : T ≤ wr.heap.size := by omega
      have hcall := Lib.hid (split_pos b o c n size ws wr HL.out (by omega) HG.out HC4.out)
      have hmx : size ≤ 9223372036854775807 := by omega
      clear g2 bs1 bs2 hkn gr ro r2
      obtain ⟨w4, rfl⟩ : ∃ w4 : World, w4 = wr := ⟨_, rfl⟩
      go_wp2_with (first | (go_at_call 23; refine (amount_any _ _).mono ?_; rintro e w' ⟨rfl, rfl⟩) | (go_at_call 9; refine hcall.out.mono ?_; rintro e w5 ⟨g1, c1, rfl, hg1, hc1, hr1, nx1⟩))
      have hTg : T ≤ g1 := by omega
      have n5 : Below T w w5 := n4.trans (nx1.mono htz)
      have HT2 : Hid (T = w.heap.size) := HT.out
      clear hcall nx1 hg1 n4
      go_loopw [11, 60] (fun _ i wr => ∃ k : Nat, k ≤ n ∧ i = .int .i64 k ∧ RowAt wr g1 3 (ints (negL k (parts size ws))) ∧ Below T w wr) (fun _ i _ => n - (intOf i).toNat)
      case atStart => exact ⟨0, Nat.zero_le _, rfl, by rw [negL_zero]; exact hr1, n5⟩
      case round =>
        obtain ⟨x, hx, rfl, ro, hnx3⟩ := hrel
        have pl := parts_length size ws
        rw [HL.out] at pl
        by_cases hlt6 : x < n
        · obtain ⟨p1, p2⟩ := parts_bd size ws b0 b1 s1 HG.out.w1 x (by have := HL.out; omega)
          have c1 : wr.cell? ⟨g1, x, none⟩ = some (.int .i64 ((parts size ws)[x]?.getD 0)) := by
            rw [ro.cell (by rw [ints_length, negL_length, pl]; exact hlt6), ints_get _ _ (by rw [negL_length, pl]; exact hlt6), negL_get _ _ (by omega)]
          have c2 := ro.frozen x
          have ro' := ro.set x (.int .i64 (-((parts size ws)[x]?.getD 0)))
          rw [ints_set, negL_set _ _ (by omega)] at ro'
          have nx' := hnx3.setCell (p := ⟨g1, x, none⟩) hTg (.int .i64 (-((parts size ws)[x]?.getD 0)))
          clear pl ro
          generalize (parts size ws)[x]?.getD 0 = y at *
          go_wp2_with fail
          go_roundw
          case rel => exact ⟨x + 1, by omega, by go_num, ro', nx'⟩
          case measure => simp [intOf]; omega
        · obtain rfl : x = n := by omega
          have e : negL x (parts size ws) = (parts size ws).map (fun x => -x) := by rw [← negL_all, pl]
          rw [e] at ro
          clear pl e
          go_wp2_with fail
          go_ret2
          exact ⟨g1, c1, rfl, by rw [← HT2.out]; exact hTg, hc1, ro, by rw [← HT2.out]; exact hnx3⟩

/-- Where an argument is out of range: nil and the error 2; nothing that was there has turned. -/
def NoSplit2 (w : World) (e : Ending) (w' : World) : Prop := e = .returned (.tuple #[.slice none 0 0, .int .i64 2]) ∧ Below w.heap.size w w'

def AddRel2 (w3 : World) (S n : Nat) (ws : List Int) (i : Value) (wr : World) : Prop :=
  ∃ k : Nat, k ≤ n ∧ i = .int .i64 k ∧ RowAt wr S 3 (ints [sumL (ws.take k)]) ∧ w3.grownBy wr (some S) ∧ (∀ j, j < k → 0 ≤ ws[j]?.getD 0 ∧ ws[j]?.getD 0 ≤ 4000) ∧ 0 ≤ sumL (ws.take k) ∧ sumL (ws.take k) ≤ 400000

/-- What is out of range. -/
def Bad (total : Int) (ws : List Int) : Prop := amtB total = false ∨ 100 < ws.length ∨ (∃ i, i < ws.length ∧ ¬ (0 ≤ ws[i]?.getD 0 ∧ ws[i]?.getD 0 ≤ 4000)) ∨ sumL ws = 0

set_option maxHeartbeats 2000000 in
set_option maxRecDepth 100000 in
theorem split_bad (b o c n : Nat) (total : Int) (ws : List Int) (w : World) (hl : ws.length = n) (hn0 : n ≤ 9223372036854775807) (hb : b < w.heap.size) (hbad : Bad total ws)
    (hc : Lies w b o n ws) :
    Calls Tryz.prog 9 #[.int .i64 total, .slice (some ⟨b, o, none⟩) n c] w (NoSplit2 w) := by
  have HL := Lib.hid hl
  have HB := Lib.hid hbad
  have HC := Lib.hid hc
  clear hl hbad hc
  obtain ⟨w3, hw3⟩ : ∃ w3, w3 = ((w.alloc (.cells #[.int .i64 total] 3)).alloc (.cells #[.slice (some ⟨b, o, none⟩) n c] 22)).alloc (.cells #[.int .i64 0] 3) := ⟨_, rfl⟩
  have z1 : w3.heap.size = w.heap.size + 1 + 1 + 1 := by rw [hw3]; simp
  have f1 : w3.cell? ⟨w.heap.size, 0, none⟩ = some (.int .i64 total) := by rw [hw3]; simp [go_sem, World.cell?_alloc_past]
  have f2 : w3.cell? ⟨w.heap.size + 1, 0, none⟩ = some (.slice (some ⟨b, o, none⟩) n c) := by rw [hw3]; simp [go_sem, World.cell?_alloc_past]
  have f3 : RowAt w3 (w.heap.size + 1 + 1) 3 (ints [0]) := by
    rw [hw3]
    exact rowAt_alloc (by simp) rfl
  have n3 : Below w.heap.size w w3 := by rw [hw3]; exact ((((Below.refl _ _).alloc (Nat.le_refl _) _).alloc (by simp) _).alloc (by simp; omega) _)
  have HW3 := Lib.hid hw3
  have HZ := Lib.hid z1
  have HF1 := Lib.hid f1
  have HF2 := Lib.hid f2
  have HF3 := Lib.hid f3
  have bs : b ≠ w.heap.size + 1 + 1 := by omega
  clear hw3 z1 f1 f2 f3
  go_enter Tryz.func9, Tryz.ntmps9
  go_wp2_with fail
  rw [← HW3.out]
  obtain ⟨T, hT⟩ : ∃ T, T = w.heap.size := ⟨_, rfl⟩
  obtain ⟨V, hV⟩ : ∃ V, V = w.heap.size + 1 := ⟨_, rfl⟩
  obtain ⟨S, hS⟩ : ∃ S, S = w.heap.size + 1 + 1 := ⟨_, rfl⟩
  have k1 := HF1.out
  have k2 := HF2.out
  have k3 := HF3.out
  have k4 := HZ.out
  rw [← hS] at bs k3 k4 ⊢
  rw [← hV] at k2 ⊢
  rw [← hT] at k1 n3 hb ⊢
  have HF1 := Lib.hid k1
  have HF2 := Lib.hid k2
  have HF3 := Lib.hid k3
  have tv1 : T < S := by omega
  have tv2 : V < S := by omega
  have tv3 : S < w3.heap.size := by omega
  have tv4 : T ≠ V := by omega
  have HT := Lib.hid hT
  have HV := Lib.hid hV
  have HS := Lib.hid hS
  have HC3 : Hid (Lies w3 b o n ws) := fun i hi => (n3.cell (p := ⟨b, o + i, none⟩) hb).trans (HC.out i hi)
  clear k1 k2 k3 k4 hT hV hS
  go_loopw [8, 21] (fun _ i wr => AddRel2 w3 S n ws i wr) (fun _ i _ => n - (intOf i).toNat)
  case atStart => exact ⟨0, Nat.zero_le _, rfl, HF3.out, only_refl _ _, fun j hj => absurd hj (Nat.not_lt_zero _), by simp [sumL], by simp [sumL]⟩
  case round =>
    obtain ⟨k, hk, rfl, ro, gr, hall, bs1, bs2⟩ := hrel
    have HA := Lib.hid hall
    clear hall
    have r1 : wr.cell? ⟨S, 0, none⟩ = some (.int .i64 (sumL (ws.take k))) := by rw [ro.cell (by simp [ints])]; rfl
    have r2 := ro.frozen 0
    have gk1 : wr.cell? ⟨T, 0, none⟩ = some (.int .i64 total) := gr.cell HF1.out (by simp; omega)
    have gk2 : wr.cell? ⟨V, 0, none⟩ = some (.slice (some ⟨b, o, none⟩) n c) := gr.cell HF2.out (by simp; omega)
    have n4 : Below T w wr := n3.grown gr (by omega) (fun k hk => by injection hk; omega)
    have HT2 : Hid (T = w.heap.size) := HT.out
    by_cases hlt : k < n
    · have g1 : wr.cell? ⟨b, o + k, none⟩ = some (.int .i64 (ws[k]?.getD 0)) := gr.cell (HC3.out k hlt) (by simp; omega)
      have hs : sumL (ws.take (k + 1)) = sumL (ws.take k) + ws[k]?.getD 0 := by
        have a := HL.out
        rw [take_snoc' ws k (by omega), sumL_snoc]
      have HS2 := Lib.hid hs
      by_cases x1 : 0 ≤ ws[k]?.getD 0
      · by_cases x2 : ws[k]?.getD 0 ≤ 4000
        · have ro' := ro.set 0 (.int .i64 (sumL (ws.take k) + ws[k]?.getD 0))
          rw [ints_set, List.set_cons_zero] at ro'
          have gr' := only_setCell gr (p := ⟨S, 0, none⟩) (.inl rfl) (.int .i64 (sumL (ws.take k) + ws[k]?.getD 0))
          have nn := n4.setCell (p := ⟨S, 0, none⟩) (by show T ≤ S; omega) (.int .i64 (sumL (ws.take k) + ws[k]?.getD 0))
          have hall' : Hid (∀ j, j < k + 1 → 0 ≤ ws[j]?.getD 0 ∧ ws[j]?.getD 0 ≤ 4000) := fun j hj => by
            by_cases e : j = k
            · subst e; exact ⟨x1, x2⟩
            · exact HA.out j (by omega)
          clear hs ro gr
          by_cases hb2 : sumL (ws.take k) + ws[k]?.getD 0 ≤ 400000
          · go_wp2_with fail
            go_roundw
            case rel => exact ⟨k + 1, by omega, by go_num, by rw [HS2.out]; exact ro', gr', hall'.out, by rw [HS2.out]; omega, by rw [HS2.out]; omega⟩
            case measure => simp [intOf]; omega
          · go_wp2_with fail
            go_ret2
            exact ⟨rfl, by rw [← HT2.out]; exact nn⟩
        · have e1 : decide (ws[k]?.getD 0 < 0) = false := by simp; omega
          have e2 : decide (4000 < ws[k]?.getD 0) = true := by simp; omega
          clear hs ro gr
          go_wp2_with fail
          go_ret2
          exact ⟨rfl, by rw [← HT2.out]; exact n4⟩
      · have e1 : decide (ws[k]?.getD 0 < 0) = true := by simp; omega
        clear hs ro gr
        go_wp2_with fail
        go_ret2
        exact ⟨rfl, by rw [← HT2.out]; exact n4⟩
    · have hkn : ws.take k = ws := by have := HL.out; exact List.take_of_length_le (by omega)
      rw [hkn] at r1 ro bs1 bs2
      have hb := HB.out
      clear hkn gr ro r2
      by_cases ha : amtB total = true
      · by_cases hn : n ≤ 100
        · have hz : (sumL ws == 0) = true := by
            have := HL.out
            rcases hb with h | h | ⟨i, hi, h⟩ | h
            · rw [ha] at h; cases h
            · omega
            · exact absurd (HA.out i (by omega)) h
            · rw [h]; rfl
          have t1 : decide ((100 : Int) < (n : Int)) = false := by simp; omega
          clear hb
          go_wp2_with (go_at_call 23; refine (amount_any _ _).mono ?_; rintro e w' ⟨rfl, rfl⟩)
          go_ret2
          exact ⟨rfl, by rw [← HT2.out]; exact n4⟩
        · have t1 : decide ((100 : Int) < (n : Int)) = true := by simp; omega
          clear hb
          go_wp2_with (go_at_call 23; refine (amount_any _ _).mono ?_; rintro e w' ⟨rfl, rfl⟩)
          go_ret2
          exact ⟨rfl, by rw [← HT2.out]; exact n4⟩
      · have ha : amtB total = false := by simpa using ha
        clear hb
        go_wp2_with (go_at_call 23; refine (amount_any _ _).mono ?_; rintro e w' ⟨rfl, rfl⟩)
        go_ret2
        exact ⟨rfl, by rw [← HT2.out]; exact n4⟩

set_option maxHeartbeats 1000000 in
theorem split_nil (a : Option Addr) (c : Nat) (total : Int) (w : World) : Calls Tryz.prog 9 #[.int .i64 total, .slice a 0 c] w (NoSplit2 w) := by
  by_cases ha : amtB total = true
  · go_enter Tryz.func9, Tryz.ntmps9
    go_wp2_with fail
    refine wp_loop_rounds 1 ?_
    rw [rounds_succ]
    go_wp2_with (go_at_call 23; refine (amount_any _ _).mono ?_; rintro e w' ⟨rfl, rfl⟩)
    go_ret2
    exact ⟨rfl, ((((Below.refl _ _).alloc (Nat.le_refl _) _).alloc (by simp) _).alloc (by simp; omega) _)⟩
  · have ha : amtB total = false := by simpa using ha
    go_enter Tryz.func9, Tryz.ntmps9
    go_wp2_with fail
    refine wp_loop_rounds 1 ?_
    rw [rounds_succ]
    go_wp2_with (go_at_call 23; refine (amount_any _ _).mono ?_; rintro e w' ⟨rfl, rfl⟩)
    go_ret2
    exact ⟨rfl, ((((Below.refl _ _).alloc (Nat.le_refl _) _).alloc (by simp) _).alloc (by simp; omega) _)⟩

end Go.Proofs.YtnikhbdjlipcbaaGreatDoor.Spl

namespace Go.Proofs.YtnikhbdjlipcbaaGreatDoor.Spl
open Go.RowKit

set_option maxHeartbeats 400000 in
theorem same_zero (a1 a2 : Option Addr) (c1 c2 : Nat) (w : World) :
    Calls Tryz.prog 48 #[.slice a1 0 c1, .slice a2 0 c2] w fun e w' => e = .returned (.bool true) ∧ w = w' := by
  go_enter Tryz.func48, Tryz.ntmps48
  go_wp2_with fail
  refine wp_loop_rounds 1 ?_
  rw [rounds_succ]
  go_wp2_with fail
  go_ret
  exact ⟨rfl, rfl⟩

end Go.Proofs.YtnikhbdjlipcbaaGreatDoor.Spl
