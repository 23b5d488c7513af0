/-
  The law, for 1 to 100 events. No condition.
-/
import Derived.Test.YtcfgpojogomkhaaH
namespace Go.Proofs.Ytcfgpojogomkhaa
open Go.RowKit Go.Shelf Go.Sort

/-- The law's first loop: what it may find in memory. -/
def LawR (w : World) (n : Nat) (i : Value) (wr : World) : Prop := ∃ k : Nat, k ≤ n ∧ i = .int .i64 k ∧ Below w.heap.size w wr
/-- The law's second loop. -/
def PutR (w : World) (g n : Nat) (i : Value) (wr : World) : Prop := ∃ (k : Nat) (L : List Value), k ≤ n ∧ i = .int .i64 k ∧ L.length = n * 9 ∧ RowAt wr g 26 L ∧ w.grownBy wr (some g)
theorem evs_below {w w' : World} {g o : Nat} {l : List Ev} (h : Evs w g o l) (hb : Below w.heap.size w w') (hg : g < w.heap.size) : Evs w' g o l := by
  obtain ⟨hc, _⟩ := bcell hb
  intro i hi
  obtain ⟨a0, a1, a2, a3, a4, a5, a6, a7, a8⟩ := h i hi
  exact ⟨(hc _ _ hg).trans a0, (hc _ _ hg).trans a1, (hc _ _ hg).trans a2, (hc _ _ hg).trans a3, (hc _ _ hg).trans a4, (hc _ _ hg).trans a5, (hc _ _ hg).trans a6, (hc _ _ hg).trans a7, (hc _ _ hg).trans a8⟩

set_option maxHeartbeats 2000000 in
set_option maxRecDepth 100000 in
theorem law_small (g o n c : Nat) (l : List Ev) (w : World) (hl : l.length = n) (hn : n ≤ 100) (hn1 : 1 ≤ n) (hg : g < w.heap.size) (h : Evs w g o l) (hk : ∀ x ∈ l, 0 ≤ x.kind ∧ x.kind ≤ 255) :
    Calls Try.prog 3 #[.slice (some ⟨g, o, none⟩) n c] w fun e w' => e = .returned (.bool true) ∧ Below w.heap.size w w' := by
  obtain ⟨i0, hi, hz0, hz1, hz2⟩ := info_partsN Try.info26
  have HL := Lib.hid hl
  have H := Lib.hid h
  have HK := Lib.hid hk
  clear hl h hk
  have t1 : decide ((100 : Int) < (n : Int)) = false := by simp; omega
  have t2 : decide ((1100 : Int) < (n : Int)) = false := by simp; omega
  go_enter Try.func3, Try.ntmps3
  go_wp2_with fail
  go_loopw [3] (fun i wr => LawR w n i wr) (fun i _ => n - (intOf i).toNat)
  case atStart => exact ⟨0, Nat.zero_le _, rfl, Below.refl _ _⟩
  case round =>
    obtain ⟨w1, rfl⟩ : ∃ w1 : World, w1 = wr := ⟨_, rfl⟩
    obtain ⟨k, hkn, rfl, b1⟩ := hrel
    by_cases hlt : k < n
    · obtain ⟨x, hx⟩ : ∃ x, x = l[k]?.getD default := ⟨_, rfl⟩
      have a := evs_below H.out b1 hg k (by have := HL.out; omega)
      rw [← hx] at a
      obtain ⟨a0, a1, a2, a3, a4, a5, a6, a7, a8⟩ := a
      clear hx
      go_wp2_with fail
      refine (long_any x.kind x.id x.entry x.target x.date x.party x.name x.value x.first w1).mono ?_
      rintro e w2 ⟨rfl, b2⟩
      have b3 := b1.trans (b2.mono b1.size)
      clear b1 b2 a0 a1 a2 a3 a4 a5 a6 a7 a8
      by_cases hx : longB ⟨x.kind, x.id, x.entry, x.target, x.date, x.party, x.name, x.value, x.first⟩ = true
      · go_wp2_with fail
        go_ret
        exact ⟨rfl, b3⟩
      · have hx : longB ⟨x.kind, x.id, x.entry, x.target, x.date, x.party, x.name, x.value, x.first⟩ = false := by simpa using hx
        go_wp2_with fail
        go_roundw
        case rel => exact ⟨k + 1, by omega, by go_num, b3⟩
        case measure => simp [intOf]; omega
    · have hkn : k = n := by omega
      subst hkn
      have H1 := Lib.hid (evs_below H.out b1 hg)
      have hg1 : g < w1.heap.size := Nat.lt_of_lt_of_le hg b1.size
      have hlit : (w1.alloc (.cells #[] 26)).ownsRow w1.heap.size 26 9 (.slice (some ⟨w1.heap.size, 0, none⟩) 0 0) 0 [] := World.ownsRow_lit w1 #[] 0 (Nat.le_refl _) (by unfold maxLen; omega) (by simp)
      go_wp2_with (at_builtin; refine wpList_append_own _ rfl (.tmp 35) (.tmp 36) 22 rfl w1.heap.size 26 i0 zeroEv 9 96 Try.underlying22 hi hz0 hz1 hz2 rfl (by decide) _ _ _ rfl hlit ⟨g, o, none⟩ k c (evs l) rfl ?c0 ?c1 ?c2 ?c3 ?c4 ?c5 ?_)
      case c0 => rw [evs_length, HL.out]
      case c1 =>
        intro j u hj
        rw [show (⟨g, o, none⟩ : Addr).add j = ⟨g, o + j, none⟩ by simp [Addr.add], World.cell?_alloc_past _ _ _ (by show g < _; omega)]
        exact evs_cell H1.out j u hj
      case c2 => exact evs_one l
      case c3 => unfold maxLen; omega
      case c4 => omega
      case c5 => simp
      intro v7 w2 ho hgr _
      have n1 : Below w1.heap.size w1 w2 := ((Below.refl _ _).alloc (Nat.le_refl _) _).grown hgr (by simp) (fun k hk => by simp [Value.ownBlock] at hk; omega)
      have h7 : ∃ g7 c7, v7 = .slice (some ⟨g7, 0, none⟩) k c7 ∧ w1.heap.size ≤ g7 ∧ RowAt w2 g7 26 (evs l) := by
        rcases rowAtN_of_owns ho with ⟨_, h, _⟩ | ⟨g, cap, h, h1, h2, h3, h4, h5⟩
        · omega
        · exact ⟨g, cap, h, h1, by simpa using h5⟩
      obtain ⟨g7, c7, rfl, hg7, r7⟩ := h7
      have b2 : Below w.heap.size w w2 := b1.trans (n1.mono b1.size)
      clear ho hgr hlit hi hz0 hz1 hz2 n1
      go_wp2_with fail
      refine (sort_some g o k c l w2 HL.out (by omega) hn1 (Nat.lt_of_lt_of_le hg b2.size) (evs_below H.out b2 hg)).mono ?_
      rintro e w3 ⟨ga, ca, rfl, hga, ra, na⟩
      have b3 : Below w.heap.size w w3 := b2.trans (na.mono b2.size)
      go_wp2_with fail
      refine (refSort_some g o k c l w3 HL.out (by omega) hn1 (Nat.lt_of_lt_of_le hg b3.size) (evs_below H.out b3 hg) HK.out).mono ?_
      rintro e w4 ⟨gb, cb, rfl, hgb, rb, nb⟩
      have b4 : Below w.heap.size w w4 := b3.trans (nb.mono b3.size)
      have ra4 : RowAt w4 ga 26 (evs (sortEv l)) := ra.below nb ra.lt
      have r74 : RowAt w4 g7 26 (evs l) := (r7.below na r7.lt).below nb (Nat.lt_of_lt_of_le r7.lt na.size)
      have hne : g7 ≠ ga := by have := r7.lt; omega
      have hgw : w.heap.size ≤ ga := Nat.le_trans b2.size hga
      go_wp2_with fail
      refine (same_ev ga 0 gb 0 ca cb k (sortEv l) w4 (by rw [sortEv_length]; exact HL.out) (by omega) (evs_of_row ra4) (evs_of_row rb)).mono ?_
      rintro e w5' ⟨rfl, q5, rfl⟩
      obtain ⟨w5, hw5⟩ : ∃ w5, w5 = w4.drewN q5 := ⟨_, rfl⟩
      have b5 : Below w.heap.size w w5 := by rw [hw5]; exact below_drewN b4 q5
      have ra5 : RowAt w5 ga 26 (evs (sortEv l)) := by rw [hw5]; exact ra4.drewN q5
      have r75 : RowAt w5 g7 26 (evs l) := by rw [hw5]; exact r74.drewN q5
      rw [← hw5]
      have st : PutR w5 ga k (.int .i64 0) w5 := ⟨0, _, Nat.zero_le _, rfl, by rw [evs_length, sortEv_length, HL.out], ra5, only_refl _ _⟩
      clear hw5 ra r7 rb na nb b1 b2 b3 b4 ra4 r74 hga hgb hg7 ra5 H1 hg1
      go_wp2_with fail
      go_loopw [10] (fun i wr => PutR w5 ga k i wr) (fun i _ => k - (intOf i).toNat)
      case atStart => exact st
      case round =>
        obtain ⟨w6, rfl⟩ : ∃ w6 : World, w6 = wr := ⟨_, rfl⟩
        obtain ⟨m, L, hmk, rfl, hLl, rL, oL⟩ := hrel
        by_cases hmt : m < k
        · have hcell : ∃ u, w6.cell? ⟨ga, m * 9 + 1, none⟩ = some u := by
            have hi9 : m * 9 + 1 < L.length := by omega
            exact ⟨_, (rL.cell hi9).trans (List.getElem?_eq_getElem hi9)⟩
          obtain ⟨u, hu⟩ := hcell
          have fz : w6.frozen? ⟨ga, m * 9 + 1, none⟩ = false := rL.frozen _
          have RL := Lib.hid (rL.set (m * 9 + 1) (.int .i64 (-7)))
          have OL := Lib.hid (only_setCell oL (p := ⟨ga, m * 9 + 1, none⟩) (.inl rfl) (.int .i64 (-7)))
          clear rL oL
          go_wp2_with fail
          go_roundw
          case rel => exact ⟨m + 1, _, by omega, by go_num, by rw [List.length_set]; exact hLl, RL.out, OL.out⟩
          case measure => simp [intOf]; omega
        · have b6 : Below w.heap.size w w6 := below_only b5 oL b5.size hgw
          have r76 : RowAt w6 g7 26 (evs l) := r75.kept oL (by simpa using hne)
          have H6 := Lib.hid (evs_below H.out b6 hg)
          go_wp2_with fail
          refine (same_ev g o g7 0 c c7 k l w6 HL.out (by omega) H6.out (evs_of_row r76)).mono ?_
          rintro e w7 ⟨rfl, q7, rfl⟩
          go_wp2_with fail
          go_ret
          exact ⟨rfl, below_drewN b6 q7⟩

end Go.Proofs.Ytcfgpojogomkhaa
