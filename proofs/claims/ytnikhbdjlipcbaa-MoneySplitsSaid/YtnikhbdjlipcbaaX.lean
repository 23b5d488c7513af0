/-
  The law MoneySplits: the walk of the statement's own function.
-/
import Derived.Test.YtnikhbdjlipcbaaV
namespace Go.Proofs.Ytnikhbdjlipcbaa
open Go.RowKit

set_option maxHeartbeats 400000 in
theorem same_zero (a1 a2 : Option Addr) (c1 c2 : Nat) (w : World) :
    Calls Try.prog 8 #[.slice a1 0 c1, .slice a2 0 c2] w fun e w' => e = .returned (.bool true) ∧ w = w' := by
  go_enter Try.func8, Try.ntmps8
  go_wp2_with fail
  refine wp_loop_rounds 1 ?_
  rw [rounds_succ]
  go_wp2_with fail
  go_ret
  exact ⟨rfl, rfl⟩

/-- What both splits come to. -/
def Both (n : Nat) (a0 : Int) (v : Value) (w : World) : Prop :=
  (∃ l : List Int, l.length = n ∧ ∀ W, Below w.heap.size w W → Calls Try.prog 4 #[.int .i64 a0, v] W (SplitPost W n l) ∧ Calls Try.prog 5 #[.int .i64 a0, v] W (SplitPost W n l)) ∨
  (∀ W, Below w.heap.size w W → Calls Try.prog 4 #[.int .i64 a0, v] W (NoSplit2 W) ∧ Calls Try.prog 5 #[.int .i64 a0, v] W (NoSplit W))

set_option maxHeartbeats 1000000 in
theorem law_some (a0 : Int) (b o n c : Nat) (ws l2 : List Int) (n2 : Nat) (a2 : Option Addr) (c2 : Nat) (w : World) (h6 : n2 ≤ 6000) (hn : n ≤ 200) (hn1 : 1 ≤ n) (hl : ws.length = n) (hb : b < w.heap.size)
    (hc : Lies w b o n ws) (hB : Both n a0 (.slice (some ⟨b, o, none⟩) n c) w)
    (hS : ∀ W, Below w.heap.size w W → Calls Try.prog 6 #[.slice a2 n2 c2] W (SumPost l2 W) ∧ Calls Try.prog 7 #[.slice a2 n2 c2] W (SumPost l2 W)) :
    Calls Try.prog 3 #[.int .i64 a0, .slice (some ⟨b, o, none⟩) n c, .slice a2 n2 c2] w fun e w' => e = .returned (.bool true) ∧ Below w.heap.size w w' := by
  obtain ⟨i0, hi, hz0, hz1, hz2⟩ := info_parts Try.info3
  have HL := Lib.hid hl
  have HC := Lib.hid hc
  have HB := Lib.hid hB
  have HS := Lib.hid hS
  have t1 : decide ((200 : Int) < (n : Int)) = false := by simp; omega
  have t2 : decide ((6000 : Int) < (n2 : Int)) = false := by simp; omega
  clear hl hc hB hS
  go_enter Try.func3, Try.ntmps3
  have hlit : (w.alloc (.cells #[] 3)).ownsRow w.heap.size 3 1 (.slice (some ⟨w.heap.size, 0, none⟩) 0 0) 0 [] := World.ownsRow_lit w #[] 0 (Nat.le_refl _) (by unfold maxLen; omega) (by simp)
  go_wp2_with (at_builtin; refine wpList_append_own _ rfl (.tmp 26) (.tmp 27) 22 rfl w.heap.size 3 i0 (.int .i64 0) 1 8 Try.underlying22 hi hz0 hz1 hz2 rfl (by decide) _ _ _ rfl hlit ⟨b, o, none⟩ n c (ints ws) rfl ?c0 ?c1 ?c2 ?c3 ?c4 ?c5 ?_)
  case c0 => rw [ints_length, HL.out]; omega
  case c1 =>
    intro j u hj
    have hjn : j < n := by
      have := (List.getElem?_eq_some_iff.1 hj).1
      rw [ints_length, HL.out] at this; exact this
    rw [ints_get _ _ (by rw [HL.out]; exact hjn)] at hj
    injection hj with hj
    subst hj
    rw [show (⟨b, o, none⟩ : Addr).add j = ⟨b, o + j, none⟩ by simp [Addr.add]]
    rw [World.cell?_alloc_past _ _ _ (by show b < _; omega)]
    exact HC.out j hjn
  case c2 =>
    intro u hu
    simp only [ints, List.mem_map] at hu
    obtain ⟨x, _, rfl⟩ := hu
    rfl
  case c3 => unfold maxLen; omega
  case c4 => omega
  case c5 => simp
  intro v7 w1 ho hg _
  have n1 : Below w.heap.size w w1 := ((Below.refl _ _).alloc (Nat.le_refl _) _).grown hg (by simp) (fun k hk => by simp [Value.ownBlock] at hk; omega)
  have h7 : ∃ g7 c7, v7 = .slice (some ⟨g7, 0, none⟩) n c7 ∧ w.heap.size ≤ g7 ∧ RowAt w1 g7 3 (ints ws) := by
    rcases rowAt_of_owns ho with ⟨_, h, _⟩ | ⟨g, cap, h, h1, h2, h3, h4, h5⟩
    · omega
    · exact ⟨g, cap, h, h1, by simpa using h5⟩
  obtain ⟨g7, c7, rfl, hg7, r7⟩ := h7
  have r7l := r7.lt
  clear ho hg hlit
  rcases HB.out with ⟨l, hll, hboth⟩ | hboth
  · have HBo := Lib.hid hboth
    have HLL := Lib.hid hll
    clear hboth hll
    go_wp2_with fail
    refine (HBo.out w1 n1).1.mono ?_
    rintro e w2 ⟨g1, c1, rfl, hg1, hc1, r1, nx2⟩
    have n2' : Below w.heap.size w w2 := n1.trans (nx2.mono n1.size)
    have r7b := r7.below nx2 r7l
    have r1l := r1.lt
    go_wp2_with fail
    refine (HBo.out w2 n2').2.mono ?_
    rintro e w3 ⟨g2, c2', rfl, hg2, hc2, r2, nx3⟩
    have n3 : Below w.heap.size w w3 := n2'.trans (nx3.mono n2'.size)
    have r7c := r7b.below nx3 (by omega)
    have r1c := r1.below nx3 r1l
    have k2 := n2'.size
    have k1 := n1.size
    have k3 := nx2.size
    have k4 := nx3.size
    clear r7 r7b r1 nx2 nx3 n1 n2'
    go_wp2_with fail
    refine (HS.out w3 n3).1.mono ?_
    rintro e w' ⟨rfl, rfl⟩
    go_wp2_with fail
    refine (HS.out w3 n3).2.mono ?_
    rintro e w' ⟨rfl, rfl⟩
    have s1 : Hid (Calls Try.prog 8 #[.slice (some ⟨g1, 0, none⟩) n c1, .slice (some ⟨g2, 0, none⟩) n c2'] w3 fun e w' => e = .returned (.bool (l == l)) ∧ ∃ m, w' = w3.drewN m) :=
      same_eq g1 0 g2 0 c1 c2' n l l w3 HLL.out HLL.out (by omega)
        (fun i hi => by rw [Nat.zero_add]; rw [r1c.cell (by rw [ints_length, HLL.out]; exact hi), ints_get _ _ (by rw [HLL.out]; exact hi)])
        (fun i hi => by rw [Nat.zero_add]; rw [r2.cell (by rw [ints_length, HLL.out]; exact hi), ints_get _ _ (by rw [HLL.out]; exact hi)])
    rw [show (l == l) = true by simp] at s1
    go_wp2_with fail
    refine s1.out.mono ?_
    rintro e w' ⟨rfl, q1, rfl⟩
    have n4 : Below w.heap.size w (w3.drewN q1) := below_drewN n3 _
    have HW4 : Hid (Lies (w3.drewN q1) b o n ws) := fun i hi => (n4.cell (p := ⟨b, o + i, none⟩) hb).trans (HC.out i hi)
    obtain ⟨w4, hw4⟩ : ∃ w4, w4 = w3.drewN q1 := ⟨_, rfl⟩
    have r1d : RowAt w4 g1 3 (ints l) := by rw [hw4]; exact r1c.drewN _
    have r7d : RowAt w4 g7 3 (ints ws) := by rw [hw4]; exact r7c.drewN _
    rw [← hw4] at n4 HW4 ⊢
    clear hw4 r1c r7c r2 n3 s1
    have ne1 : b ≠ g1 := by omega
    have ne2 : g7 ≠ g1 := by omega
    have g1w : w.heap.size ≤ g1 := by omega
    go_wp2_with fail
    go_loopw [17] (fun i wr => ∃ (k : Nat) (l' : List Int), k ≤ n ∧ i = .int .i64 k ∧ Hid (l'.length = n) ∧ RowAt wr g1 3 (ints l') ∧ w4.grownBy wr (some g1)) (fun i _ => n - (intOf i).toNat)
    case atStart => exact ⟨0, l, Nat.zero_le _, rfl, HLL.out, r1d, only_refl _ _⟩
    case round =>
      obtain ⟨k, l', hk, rfl, hl', ro, gr⟩ := hrel
      by_cases hlt : k < n
      · have cc : wr.cell? ⟨g1, k, none⟩ = some (.int .i64 (l'[k]?.getD 0)) := by
          rw [ro.cell (by rw [ints_length, hl'.out]; exact hlt), ints_get _ _ (by rw [hl'.out]; exact hlt)]
        have cf := ro.frozen k
        have ro' := ro.set k (.int .i64 (-7))
        rw [ints_set] at ro'
        have gr' := only_setCell gr (p := ⟨g1, k, none⟩) (.inl rfl) (.int .i64 (-7))
        clear ro gr
        go_wp2_with fail
        go_roundw
        case rel => exact ⟨k + 1, _, by omega, by go_num, by show _ = _; rw [List.length_set]; exact hl'.out, ro', gr'⟩
        case measure => simp [intOf]; omega
      · have nf : Below w.heap.size w wr := n4.grown gr n4.size (fun k hk => by injection hk; omega)
        have r7e := r7d.kept gr (by simp; exact ne2)
        have s2 : Hid (Calls Try.prog 8 #[.slice (some ⟨b, o, none⟩) n c, .slice (some ⟨g7, 0, none⟩) n c7] wr fun e w' => e = .returned (.bool (ws == ws)) ∧ ∃ m, w' = wr.drewN m) :=
          same_eq b o g7 0 c c7 n ws ws wr HL.out HL.out (by omega)
            (fun i hi => gr.cell (HW4.out i hi) (by simp; exact ne1))
            (fun i hi => by rw [Nat.zero_add]; rw [r7e.cell (by rw [ints_length, HL.out]; exact hi), ints_get _ _ (by rw [HL.out]; exact hi)])
        rw [show (ws == ws) = true by simp] at s2
        clear r1d r7d n4 ro gr r7e
        go_wp2_with fail
        refine s2.out.mono ?_
        rintro e w' ⟨rfl, q2, rfl⟩
        go_wp2_with fail
        go_ret
        exact ⟨rfl, below_drewN nf _⟩
  · have HBo := Lib.hid hboth
    clear hboth
    go_wp2_with fail
    refine (HBo.out w1 n1).1.mono ?_
    rintro e w2 ⟨rfl, nx2⟩
    have n2' : Below w.heap.size w w2 := n1.trans (nx2.mono n1.size)
    have r7b := r7.below nx2 r7l
    go_wp2_with fail
    refine (HBo.out w2 n2').2.mono ?_
    rintro e w' ⟨rfl, rfl⟩
    clear r7 nx2 n1
    go_wp2_with fail
    refine (HS.out w2 n2').1.mono ?_
    rintro e w' ⟨rfl, rfl⟩
    go_wp2_with fail
    refine (HS.out w2 n2').2.mono ?_
    rintro e w' ⟨rfl, rfl⟩
    go_wp2_with fail
    refine (same_zero none none 0 0 w2).mono ?_
    rintro e w' ⟨rfl, rfl⟩
    have s2 : Hid (Calls Try.prog 8 #[.slice (some ⟨b, o, none⟩) n c, .slice (some ⟨g7, 0, none⟩) n c7] w2 fun e w' => e = .returned (.bool (ws == ws)) ∧ ∃ m, w' = w2.drewN m) :=
      same_eq b o g7 0 c c7 n ws ws w2 HL.out HL.out (by omega)
        (fun i hi => (n2'.cell (p := ⟨b, o + i, none⟩) hb).trans (HC.out i hi))
        (fun i hi => by rw [Nat.zero_add]; rw [r7b.cell (by rw [ints_length, HL.out]; exact hi), ints_get _ _ (by rw [HL.out]; exact hi)])
    rw [show (ws == ws) = true by simp] at s2
    clear r7b
    go_wp2_with fail
    refine wp_loop_rounds 1 ?_
    rw [rounds_succ]
    go_wp2_with fail
    refine s2.out.mono ?_
    rintro e w' ⟨rfl, q2, rfl⟩
    go_wp2_with fail
    go_ret
    exact ⟨rfl, below_drewN n2' _⟩


set_option maxHeartbeats 1000000 in
theorem law_nil (a0 : Int)  (l2 : List Int) (n2 : Nat) (a2 : Option Addr) (c2 : Nat) (w : World) (h6 : n2 ≤ 6000)
    (hS : ∀ W, Below w.heap.size w W → Calls Try.prog 6 #[.slice a2 n2 c2] W (SumPost l2 W) ∧ Calls Try.prog 7 #[.slice a2 n2 c2] W (SumPost l2 W)) :
    Calls Try.prog 3 #[.int .i64 a0, .slice none 0 0, .slice a2 n2 c2] w fun e w' => e = .returned (.bool true) ∧ Below w.heap.size w w' := by
  obtain ⟨i0, hi, hz0, hz1, hz2⟩ := info_parts Try.info3
  have HS := Lib.hid hS
  have t2 : decide ((6000 : Int) < (n2 : Int)) = false := by simp; omega
  clear hS
  go_enter Try.func3, Try.ntmps3
  have hlit : (w.alloc (.cells #[] 3)).ownsRow w.heap.size 3 1 (.slice (some ⟨w.heap.size, 0, none⟩) 0 0) 0 [] := World.ownsRow_lit w #[] 0 (Nat.le_refl _) (by unfold maxLen; omega) (by simp)
  go_wp2_with (at_builtin; refine wpList_append_own_none rfl (.tmp 26) (.tmp 27) 22 rfl w.heap.size 3 i0 1 Try.underlying22 hi _ _ _ rfl hlit rfl ?_)
  obtain ⟨w1, hw1⟩ : ∃ w1, w1 = w.alloc (.cells #[] 3) := ⟨_, rfl⟩
  have n1 : Below w.heap.size w w1 := by rw [hw1]; exact (Below.refl _ _).alloc (Nat.le_refl _) _
  rw [← hw1]
  clear hlit hw1
  go_wp2_with fail
  refine (split_nil _ _ a0 w1).mono ?_
  rintro e w2 ⟨rfl, nx2⟩
  have n2' : Below w.heap.size w w2 := n1.trans (nx2.mono n1.size)
  have hR : Hid (Calls Try.prog 5 #[.int .i64 a0, .slice none 0 0] w2 (NoSplit w2)) := by
    by_cases ha : amtB a0 = true
    · exact ref_split_len _ _ 0 a0 w2 ha (.inl (by omega))
    · exact ref_split_amt _ _ 0 a0 w2 (by simpa using ha)
  clear n1 nx2
  go_wp2_with fail
  refine hR.out.mono ?_
  rintro e w' ⟨rfl, rfl⟩
  go_wp2_with fail
  refine (HS.out w2 n2').1.mono ?_
  rintro e w' ⟨rfl, rfl⟩
  go_wp2_with fail
  refine (HS.out w2 n2').2.mono ?_
  rintro e w' ⟨rfl, rfl⟩
  go_wp2_with fail
  refine (same_zero none none 0 0 w2).mono ?_
  rintro e w' ⟨rfl, rfl⟩
  go_wp2_with fail
  refine wp_loop_rounds 1 ?_
  rw [rounds_succ]
  go_wp2_with fail
  refine (same_zero _ _ _ _ w2).mono ?_
  rintro e w' ⟨rfl, rfl⟩
  go_wp2_with fail
  go_ret
  exact ⟨rfl, n2'⟩

set_option maxHeartbeats 1000000 in
theorem law_zero (a0 : Int) (x : Addr) (c1 : Nat) (l2 : List Int) (n2 : Nat) (a2 : Option Addr) (c2 : Nat) (w : World) (h6 : n2 ≤ 6000)
    (hS : ∀ W, Below w.heap.size w W → Calls Try.prog 6 #[.slice a2 n2 c2] W (SumPost l2 W) ∧ Calls Try.prog 7 #[.slice a2 n2 c2] W (SumPost l2 W)) :
    Calls Try.prog 3 #[.int .i64 a0, .slice (some x) 0 c1, .slice a2 n2 c2] w fun e w' => e = .returned (.bool true) ∧ Below w.heap.size w w' := by
  obtain ⟨i0, hi, hz0, hz1, hz2⟩ := info_parts Try.info3
  have HS := Lib.hid hS
  have t2 : decide ((6000 : Int) < (n2 : Int)) = false := by simp; omega
  clear hS
  go_enter Try.func3, Try.ntmps3
  have hlit : (w.alloc (.cells #[] 3)).ownsRow w.heap.size 3 1 (.slice (some ⟨w.heap.size, 0, none⟩) 0 0) 0 [] := World.ownsRow_lit w #[] 0 (Nat.le_refl _) (by unfold maxLen; omega) (by simp)
  go_wp2_with (at_builtin; refine wpList_append_own _ rfl (.tmp 26) (.tmp 27) 22 rfl w.heap.size 3 i0 (.int .i64 0) 1 8 Try.underlying22 hi hz0 hz1 hz2 rfl (by decide) _ _ _ rfl hlit x 0 c1 [] rfl ?c0 ?c1 ?c2 ?c3 ?c4 ?c5 ?_)
  case c0 => rfl
  case c1 => intro j u hj; simp at hj
  case c2 => intro u hu; simp at hu
  case c3 => unfold maxLen; omega
  case c4 => omega
  case c5 => simp
  intro v7 w1 ho hg hnil
  have n1 : Below w.heap.size w w1 := ((Below.refl _ _).alloc (Nat.le_refl _) _).grown hg (by simp) (fun k hk => by simp [Value.ownBlock] at hk; omega)
  have h7 : ∃ a7 c7, v7 = .slice a7 0 c7 := by
    rcases rowAt_of_owns ho with ⟨h, _, _⟩ | ⟨g, cap, h, _⟩
    · exact ⟨_, _, h⟩
    · exact ⟨_, _, h⟩
  obtain ⟨a7, c7, rfl⟩ := h7
  clear ho hg hlit hnil
  go_wp2_with fail
  refine (split_nil _ _ a0 w1).mono ?_
  rintro e w2 ⟨rfl, nx2⟩
  have n2' : Below w.heap.size w w2 := n1.trans (nx2.mono n1.size)
  have hR : Hid (Calls Try.prog 5 #[.int .i64 a0, .slice (some x) 0 c1] w2 (NoSplit w2)) := by
    by_cases ha : amtB a0 = true
    · exact ref_split_len _ _ 0 a0 w2 ha (.inl (by omega))
    · exact ref_split_amt _ _ 0 a0 w2 (by simpa using ha)
  clear n1 nx2
  go_wp2_with fail
  refine hR.out.mono ?_
  rintro e w' ⟨rfl, rfl⟩
  go_wp2_with fail
  refine (HS.out w2 n2').1.mono ?_
  rintro e w' ⟨rfl, rfl⟩
  go_wp2_with fail
  refine (HS.out w2 n2').2.mono ?_
  rintro e w' ⟨rfl, rfl⟩
  go_wp2_with fail
  refine (same_zero none none 0 0 w2).mono ?_
  rintro e w' ⟨rfl, rfl⟩
  go_wp2_with fail
  refine wp_loop_rounds 1 ?_
  rw [rounds_succ]
  go_wp2_with fail
  refine (same_zero _ _ _ _ w2).mono ?_
  rintro e w' ⟨rfl, rfl⟩
  go_wp2_with fail
  go_ret
  exact ⟨rfl, n2'⟩

set_option maxHeartbeats 400000 in
theorem law_long (a0 : Int) (a1 a2 : Option Addr) (n1 c1 n2 c2 : Nat) (w : World) (h : 200 < n1 ∨ 6000 < n2) :
    Calls Try.prog 3 #[.int .i64 a0, .slice a1 n1 c1, .slice a2 n2 c2] w fun e w' => e = .returned (.bool true) ∧ Below w.heap.size w w' := by
  by_cases h1 : 200 < n1
  · have t1 : decide ((200 : Int) < (n1 : Int)) = true := by simp; omega
    go_enter Try.func3, Try.ntmps3
    go_wp2_with fail
    go_ret
    exact ⟨rfl, Below.refl _ _⟩
  · have t1 : decide ((200 : Int) < (n1 : Int)) = false := by simp; omega
    have t2 : decide ((6000 : Int) < (n2 : Int)) = true := by simp; omega
    go_enter Try.func3, Try.ntmps3
    go_wp2_with fail
    go_ret
    exact ⟨rfl, Below.refl _ _⟩

/-- Whether the split is made, and what both come to. -/
theorem both_some (a0 : Int) (b o n c : Nat) (ws : List Int) (w : World) (hn : n ≤ 200) (hn1 : 1 ≤ n) (hl : ws.length = n) (hb : b < w.heap.size) (hc : Lies w b o n ws) : Both n a0 (.slice (some ⟨b, o, none⟩) n c) w := by
  have hc' : ∀ W, Below w.heap.size w W → Lies W b o n ws := fun W hW i hi => (hW.cell (p := ⟨b, o + i, none⟩) hb).trans (hc i hi)
  have hb' : ∀ W, Below w.heap.size w W → b < W.heap.size := fun W hW => Nat.lt_of_lt_of_le hb hW.size
  by_cases hbad : Bad a0 ws
  · right
    intro W hW
    refine ⟨split_bad b o c n a0 ws W hl (by omega) (hb' W hW) hbad (hc' W hW), ?_⟩
    by_cases ha : amtB a0 = true
    · by_cases h100 : n ≤ 100
      · refine ref_split_bad b o c n a0 ws W hl ha hn1 h100 ?_ (hc' W hW)
        by_cases hw : ∃ i, i < n ∧ ¬ (0 ≤ ws[i]?.getD 0 ∧ ws[i]?.getD 0 ≤ 4000)
        · exact .inl hw
        · have hall : ∀ i, i < n → 0 ≤ ws[i]?.getD 0 ∧ ws[i]?.getD 0 ≤ 4000 := fun i hi => Decidable.byContradiction fun h => hw ⟨i, hi, h⟩
          refine .inr ⟨hall, ?_⟩
          rcases hbad with h | h | ⟨i, hi, h⟩ | h
          · rw [ha] at h; cases h
          · omega
          · exact absurd (hall i (by omega)) h
          · exact h
      · exact ref_split_len _ _ _ a0 W ha (.inr (by omega))
    · exact ref_split_amt _ _ _ a0 W (by simpa using ha)
  · left
    unfold Bad at hbad
    simp only [not_or] at hbad
    obtain ⟨h1, h2, h3, h4⟩ := hbad
    have ha : amtB a0 = true := by simpa using h1
    obtain ⟨r1, r2⟩ := amtB_true ha
    have hall : ∀ i, i < ws.length → 0 ≤ ws[i]?.getD 0 ∧ ws[i]?.getD 0 ≤ 4000 := fun i hi => Decidable.byContradiction fun h => h3 ⟨i, hi, h⟩
    have hs0 : 0 ≤ sumL ws := by
      have := (sumL_bd ws hall ws.length (Nat.le_refl _)).1
      rwa [List.take_length] at this
    by_cases hneg : a0 < 0
    · have hg : Good (-a0) ws := ⟨by omega, by omega, by omega, hall, by omega⟩
      refine ⟨(parts (-a0) ws).map fun x => -x, by rw [List.length_map, parts_length, hl], fun W hW => ?_⟩
      have e1 := split_neg b o c n (-a0) ws W hl (hb' W hW) hg (by omega) (hc' W hW)
      have e2 := ref_split_neg b o c n (-a0) ws W hl (hb' W hW) hg (by omega) (hc' W hW)
      rw [Int.neg_neg] at e1 e2
      exact ⟨e1, e2⟩
    · have hg : Good a0 ws := ⟨by omega, by omega, by omega, hall, by omega⟩
      exact ⟨parts a0 ws, by rw [parts_length, hl], fun W hW => ⟨split_pos b o c n a0 ws W hl (hb' W hW) hg (hc' W hW), ref_split_pos b o c n a0 ws W hl (hb' W hW) hg (hc' W hW)⟩⟩

theorem sums_some (b o n c : Nat) (l : List Int) (w : World) (hn : n ≤ 6000) (hl : l.length = n) (hb : b < w.heap.size) (hc : Lies w b o n l) :
    ∀ W, Below w.heap.size w W → Calls Try.prog 6 #[.slice (some ⟨b, o, none⟩) n c] W (SumPost l W) ∧ Calls Try.prog 7 #[.slice (some ⟨b, o, none⟩) n c] W (SumPost l W) := fun W hW =>
  have h : ∀ i, i < n → W.cell? ⟨b, o + i, none⟩ = some (.int .i64 (l[i]?.getD 0)) := fun i hi => (hW.cell (p := ⟨b, o + i, none⟩) hb).trans (hc i hi)
  ⟨sum_go b o c n l W hl (by omega) h, sum_ref b o c n l W hl (by omega) h⟩
theorem sums_none (a : Option Addr) (c : Nat) (w : World) :
    ∀ W, Below w.heap.size w W → Calls Try.prog 6 #[.slice a 0 c] W (SumPost [] W) ∧ Calls Try.prog 7 #[.slice a 0 c] W (SumPost [] W) := fun W _ => ⟨sum_go_nil a c W, sum_ref_nil a c W⟩

end Go.Proofs.Ytnikhbdjlipcbaa
