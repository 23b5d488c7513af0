/-
  The law, for 1001 to 1100 events, for none, and where it says nothing. No condition.
-/
import Derived.Test.YtcfgpojogomkhaaI
namespace Go.Proofs.Ytcfgpojogomkhaa
open Go.RowKit Go.Shelf Go.Sort

set_option maxHeartbeats 2000000 in
set_option maxRecDepth 100000 in
theorem law_big (g o n c : Nat) (l : List Ev) (w : World) (hl : l.length = n) (hn : n ≤ 1100) (hn1 : 1000 < n) (hg : g < w.heap.size) (h : Evs w g o l) :
    Calls Try.prog 3 #[.slice (some ⟨g, o, none⟩) n c] w fun e w' => e = .returned (.bool true) ∧ Below w.heap.size w w' := by
  obtain ⟨i0, hi, hz0, hz1, hz2⟩ := info_partsN Try.info26
  have HL := Lib.hid hl
  have H := Lib.hid h
  clear hl h
  have t1 : decide ((100 : Int) < (n : Int)) = true := by simp; omega
  have t3 : decide ((n : Int) ≤ 1000) = false := by simp; omega
  have t2 : decide ((1100 : Int) < (n : Int)) = false := by simp; omega
  go_enter Try.func3, Try.ntmps3
  go_wp2_with fail
  go_loopw [3] (fun i wr => LawR w n i wr) (fun i _ => n - (intOf i).toNat)
  case atStart => exact ⟨0, Nat.zero_le _, rfl, Below.refl _ _⟩
  case round =>
    obtain ⟨w1, rfl⟩ : ∃ w1 : World, w1 = wr := ⟨_, rfl⟩
    obtain ⟨k, hkn, rfl, b1⟩ := hrel
    by_cases hlt : k < n
    · obtain ⟨x, hx⟩ : ∃ x, x = l[k]?.getD default := ⟨_, rfl⟩
      have a := evs_below H.out b1 hg k (by have := HL.out; omega)
      rw [← hx] at a
      obtain ⟨a0, a1, a2, a3, a4, a5, a6, a7, a8⟩ := a
      clear hx
      go_wp2_with fail
      refine (long_any x.kind x.id x.entry x.target x.date x.party x.name x.value x.first w1).mono ?_
      rintro e w2 ⟨rfl, b2⟩
      have b3 := b1.trans (b2.mono b1.size)
      clear b1 b2 a0 a1 a2 a3 a4 a5 a6 a7 a8
      by_cases hx : longB ⟨x.kind, x.id, x.entry, x.target, x.date, x.party, x.name, x.value, x.first⟩ = true
      · go_wp2_with fail
        go_ret
        exact ⟨rfl, b3⟩
      · have hx : longB ⟨x.kind, x.id, x.entry, x.target, x.date, x.party, x.name, x.value, x.first⟩ = false := by simpa using hx
        go_wp2_with fail
        go_roundw
        case rel => exact ⟨k + 1, by omega, by go_num, b3⟩
        case measure => simp [intOf]; omega
    · have hkn : k = n := by omega
      subst hkn
      have H1 := Lib.hid (evs_below H.out b1 hg)
      have hg1 : g < w1.heap.size := Nat.lt_of_lt_of_le hg b1.size
      have hlit : (w1.alloc (.cells #[] 26)).ownsRow w1.heap.size 26 9 (.slice (some ⟨w1.heap.size, 0, none⟩) 0 0) 0 [] := World.ownsRow_lit w1 #[] 0 (Nat.le_refl _) (by unfold maxLen; omega) (by simp)
      go_wp2_with (at_builtin; refine wpList_append_own _ rfl (.tmp 35) (.tmp 36) 22 rfl w1.heap.size 26 i0 zeroEv 9 96 Try.underlying22 hi hz0 hz1 hz2 rfl (by decide) _ _ _ rfl hlit ⟨g, o, none⟩ k c (evs l) rfl ?c0 ?c1 ?c2 ?c3 ?c4 ?c5 ?_)
      case c0 => rw [evs_length, HL.out]
      case c1 =>
        intro j u hj
        rw [show (⟨g, o, none⟩ : Addr).add j = ⟨g, o + j, none⟩ by simp [Addr.add], World.cell?_alloc_past _ _ _ (by show g < _; omega)]
        exact evs_cell H1.out j u hj
      case c2 => exact evs_one l
      case c3 => unfold maxLen; omega
      case c4 => omega
      case c5 => simp
      intro v7 w2 ho hgr _
      have n1 : Below w1.heap.size w1 w2 := ((Below.refl _ _).alloc (Nat.le_refl _) _).grown hgr (by simp) (fun k hk => by simp [Value.ownBlock] at hk; omega)
      have h7 : ∃ g7 c7, v7 = .slice (some ⟨g7, 0, none⟩) k c7 ∧ w1.heap.size ≤ g7 ∧ RowAt w2 g7 26 (evs l) := by
        rcases rowAtN_of_owns ho with ⟨_, h, _⟩ | ⟨g, cap, h, h1, h2, h3, h4, h5⟩
        · omega
        · exact ⟨g, cap, h, h1, by simpa using h5⟩
      obtain ⟨g7, c7, rfl, hg7, r7⟩ := h7
      have b2 : Below w.heap.size w w2 := b1.trans (n1.mono b1.size)
      clear ho hgr hlit hi hz0 hz1 hz2 n1
      go_wp2_with fail
      refine (sort_long (some ⟨g, o, none⟩) k c w2 (by omega) (by omega)).mono ?_
      rintro e w3 ⟨rfl, rfl⟩
      go_wp2_with fail
      refine (refSort_long (some ⟨g, o, none⟩) k c w3 (by omega)).mono ?_
      rintro e w4 ⟨rfl, rfl⟩
      go_wp2_with fail
      refine (same_zero none none 0 0 w4).mono ?_
      rintro e w5 ⟨rfl, rfl⟩
      have H6 := Lib.hid (evs_below H.out b2 hg)
      clear H1 hg1
      go_wp2_with fail
      refine wp_loop_rounds 1 ?_
      rw [rounds_succ]
      go_wp2_with fail
      refine (same_ev g o g7 0 c c7 k l w4 HL.out (by omega) H6.out (evs_of_row r7)).mono ?_
      rintro e w7 ⟨rfl, q7, rfl⟩
      go_wp2_with fail
      go_ret
      exact ⟨rfl, below_drewN b2 q7⟩

set_option maxHeartbeats 1000000 in
set_option maxRecDepth 100000 in
theorem law_skip (a : Option Addr) (n c : Nat) (w : World) (hn : (100 < n ∧ n ≤ 1000) ∨ 1100 < n) :
    Calls Try.prog 3 #[.slice a n c] w fun e w' => e = .returned (.bool true) ∧ Below w.heap.size w w' := by
  have t1 : decide ((100 : Int) < (n : Int)) = true := by simp; omega
  by_cases h2 : n ≤ 1000
  · have t3 : decide ((n : Int) ≤ 1000) = true := by simp; omega
    go_enter Try.func3, Try.ntmps3
    go_wp2_with fail
    go_ret
    exact ⟨rfl, Below.refl _ _⟩
  · have t3 : decide ((n : Int) ≤ 1000) = false := by simp; omega
    have t2 : decide ((1100 : Int) < (n : Int)) = true := by simp; omega
    go_enter Try.func3, Try.ntmps3
    go_wp2_with fail
    go_ret
    exact ⟨rfl, Below.refl _ _⟩

set_option maxHeartbeats 1000000 in
set_option maxRecDepth 100000 in
theorem law_nil (c : Nat) (w : World) :
    Calls Try.prog 3 #[.slice none 0 c] w fun e w' => e = .returned (.bool true) ∧ Below w.heap.size w w' := by
  obtain ⟨i0, hi, hz0, hz1, hz2⟩ := info_partsN Try.info26
  have hlit : (w.alloc (.cells #[] 26)).ownsRow w.heap.size 26 9 (.slice (some ⟨w.heap.size, 0, none⟩) 0 0) 0 [] := World.ownsRow_lit w #[] 0 (Nat.le_refl _) (by unfold maxLen; omega) (by simp)
  go_enter Try.func3, Try.ntmps3
  go_wp2_with fail
  refine wp_loop_rounds 1 ?_
  rw [rounds_succ]
  go_wp2_with (at_builtin; refine wpList_append_own_none rfl (.tmp 35) (.tmp 36) 22 rfl w.heap.size 26 i0 9 Try.underlying22 hi _ _ _ rfl hlit rfl ?_)
  obtain ⟨w2, hw2⟩ : ∃ w2, w2 = w.alloc (.cells #[] 26) := ⟨_, rfl⟩
  have b2 : Below w.heap.size w w2 := by rw [hw2]; exact alloc_below _ _
  obtain ⟨a7, ha7⟩ : ∃ a, a = some (⟨w.heap.size, 0, none⟩ : Addr) := ⟨_, rfl⟩
  obtain ⟨c7, hc7⟩ : ∃ c : Nat, c = 0 := ⟨_, rfl⟩
  rw [← hw2, ← ha7]
  clear hlit hw2 ha7
  go_wp2_with fail
  refine (sort_nil c w2).mono ?_
  rintro e w3 ⟨aa, ca, rfl, na⟩
  have b3 : Below w.heap.size w w3 := b2.trans (na.mono b2.size)
  go_wp2_with fail
  refine (refSort_nil c w3).mono ?_
  rintro e w4 ⟨ab, cb, rfl, nb⟩
  have b4 : Below w.heap.size w w4 := b3.trans (nb.mono b3.size)
  clear na nb b2 b3
  go_wp2_with fail
  refine (same_zero aa ab ca cb w4).mono ?_
  rintro e w5 ⟨rfl, rfl⟩
  go_wp2_with fail
  refine wp_loop_rounds 1 ?_
  rw [rounds_succ]
  go_wp2_with fail
  refine (same_zero none a7 c 0 w4).mono ?_
  rintro e w7 ⟨rfl, rfl⟩
  go_wp2_with fail
  go_ret
  exact ⟨rfl, b4⟩

set_option maxHeartbeats 1000000 in
set_option maxRecDepth 100000 in
theorem law_zero (x : Addr) (c : Nat) (w : World) :
    Calls Try.prog 3 #[.slice (some x) 0 c] w fun e w' => e = .returned (.bool true) ∧ Below w.heap.size w w' := by
  obtain ⟨i0, hi, hz0, hz1, hz2⟩ := info_partsN Try.info26
  have hlit : (w.alloc (.cells #[] 26)).ownsRow w.heap.size 26 9 (.slice (some ⟨w.heap.size, 0, none⟩) 0 0) 0 [] := World.ownsRow_lit w #[] 0 (Nat.le_refl _) (by unfold maxLen; omega) (by simp)
  go_enter Try.func3, Try.ntmps3
  go_wp2_with fail
  refine wp_loop_rounds 1 ?_
  rw [rounds_succ]
  go_wp2_with (at_builtin; refine wpList_append_own _ rfl (.tmp 35) (.tmp 36) 22 rfl w.heap.size 26 i0 zeroEv 9 96 Try.underlying22 hi hz0 hz1 hz2 rfl (by decide) _ _ _ rfl hlit x 0 c [] rfl ?c0 ?c1 ?c2 ?c3 ?c4 ?c5 ?_)
  case c0 => rfl
  case c1 => intro j u hj; simp at hj
  case c2 => intro u hu; simp at hu
  case c3 => unfold maxLen; omega
  case c4 => omega
  case c5 => simp
  intro v7 w2 ho hgr _
  have b2 : Below w.heap.size w w2 := ((Below.refl _ _).alloc (Nat.le_refl _) _).grown hgr (by simp) (fun k hk => by simp [Value.ownBlock] at hk; omega)
  have h7 : ∃ a7 c7, v7 = .slice a7 0 c7 := by
    rcases rowAtN_of_owns ho with ⟨h, _, _⟩ | ⟨g, cap, h, _⟩
    · exact ⟨_, _, h⟩
    · exact ⟨_, _, h⟩
  obtain ⟨a7, c7, rfl⟩ := h7
  clear ho hgr hlit hi hz0 hz1 hz2
  go_wp2_with fail
  refine (sort_zero x c w2).mono ?_
  rintro e w3 ⟨aa, ca, rfl, na⟩
  have b3 : Below w.heap.size w w3 := b2.trans (na.mono b2.size)
  go_wp2_with fail
  refine (refSort_zero x c w3).mono ?_
  rintro e w4 ⟨ab, cb, rfl, nb⟩
  have b4 : Below w.heap.size w w4 := b3.trans (nb.mono b3.size)
  clear na nb b2 b3
  go_wp2_with fail
  refine (same_zero aa ab ca cb w4).mono ?_
  rintro e w5 ⟨rfl, rfl⟩
  go_wp2_with fail
  refine wp_loop_rounds 1 ?_
  rw [rounds_succ]
  go_wp2_with fail
  refine (same_zero (some x) a7 c c7 w4).mono ?_
  rintro e w7 ⟨rfl, rfl⟩
  go_wp2_with fail
  go_ret
  exact ⟨rfl, b4⟩

end Go.Proofs.Ytcfgpojogomkhaa
