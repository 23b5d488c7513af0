/-
  The reference's Split, where its arguments are in range.
-/
import Derived.Test.YtnikhbdjlipcbaaA
import Derived.Test.YtnikhbdjlipcbaaP
namespace Go.Proofs.Ytnikhbdjlipcbaa
open Go.RowKit

theorem Try.info3 : (Try.prog.info? 3).map (fun i => (i.zero, i.size, i.bytes)) = some (some (.int .i64 0), 1, 8) := by kernel_rfl
def ints (l : List Int) : List Value := l.map (Value.int .i64)
theorem ints_length (l : List Int) : (ints l).length = l.length := by simp [ints]
theorem ints_get (l : List Int) (i : Nat) (hi : i < l.length) : (ints l)[i]? = some (.int .i64 (l[i]?.getD 0)) := by
  simp [ints, List.getElem?_eq_getElem hi]
theorem ints_set (l : List Int) (i : Nat) (x : Int) : (ints l).set i (.int .i64 x) = ints (l.set i x) := by simp [ints, List.map_set]
theorem ints_snoc (l : List Int) (x : Int) : ints l ++ [.int .i64 x] = ints (l ++ [x]) := by simp [ints]

/-- The weights are in range, and the total: the split is made. -/
structure Good (size : Int) (ws : List Int) : Prop where
  s0 : 0 ≤ size
  s1 : size ≤ 1125899906842624
  n1 : ws.length ≤ 100
  w1 : ∀ i, i < ws.length → 0 ≤ ws[i]?.getD 0 ∧ ws[i]?.getD 0 ≤ 4000
  s2 : 0 < sumL ws

/-- The weights as they lie in memory. -/
def Lies (w : World) (b o : Nat) (n : Nat) (l : List Int) : Prop := ∀ i, i < n → w.cell? ⟨b, o + i, none⟩ = some (.int .i64 (l[i]?.getD 0))

/-- Behind the loop that fills 'out' and 'rest'. -/
def FillRel (w : World) (size : Int) (ws : List Int) (n : Nat) (o r l i : Value) (wr : World) : Prop :=
  ∃ k : Nat, k ≤ n ∧ i = .int .i64 k ∧ l = .int .i64 (leftAt size (sumL ws) ws k) ∧
    wr.ownsRow w.heap.size 3 1 o k (ints ((List.range k).map (qOf size (sumL ws) ws))) ∧
    wr.ownsRow w.heap.size 3 1 r k (ints ((List.range k).map (rOf size (sumL ws) ws))) ∧
    (o.ownBlock = none ∨ o.ownBlock ≠ r.ownBlock) ∧ (r.ownBlock = none ∨ r.ownBlock ≠ o.ownBlock) ∧ Below w.heap.size w wr

/-- The split is made: a new row. -/
def SplitPost (w : World) (n : Nat) (l : List Int) (e : Ending) (w' : World) : Prop :=
  ∃ g cap, e = .returned (.tuple #[.slice (some ⟨g, 0, none⟩) n cap, .int .i64 0]) ∧ w.heap.size ≤ g ∧ n ≤ cap ∧ RowAt w' g 3 (ints l) ∧ Below w.heap.size w w'

/-- The loop that hands out what is left. -/
def HandRel (w : World) (size : Int) (ws : List Int) (n g1 g2 : Nat) (l : Value) (wr : World) : Prop :=
  ∃ t : Nat, (t : Int) ≤ lft size ws ∧ l = .int .i64 (lft size ws - t) ∧
    RowAt wr g1 3 (ints (outL (qOf size (sumL ws) ws) (rOf size (sumL ws) ws) n t)) ∧ RowAt wr g2 3 (ints (restL (rOf size (sumL ws) ws) n t)) ∧
    below (rOf size (sumL ws) ws) n t = t ∧ Below w.heap.size w wr
/-- The first greatest so far. -/
def BestRel (f : Nat → Int) (n : Nat) (w1 : World) (b i : Value) (wr : World) : Prop :=
  ∃ k m q : Nat, k ≤ n ∧ m < k ∧ b = .int .i64 m ∧ i = .int .i64 k ∧ wr = w1.drewN q ∧ (∀ j, j < k → f j ≤ f m) ∧ (∀ j, j < m → f j < f m)

set_option maxHeartbeats 1000000 in
set_option maxRecDepth 100000 in
theorem ref_split_pos (b o c n : Nat) (size : Int) (ws : List Int) (w : World) (hl : ws.length = n) (hb : b < w.heap.size) (hg : Good size ws)
    (hc : Lies w b o n ws) :
    Calls Try.prog 5 #[.int .i64 size, .slice (some ⟨b, o, none⟩) n c] w (SplitPost w n (parts size ws)) := by
  obtain ⟨i0, hi, hz0, hz1, hz2⟩ := info_parts Try.info3
  have HL := Lib.hid hl
  have HG := Lib.hid hg
  have HC := Lib.hid hc
  have b0 := hg.s0
  have b1 := hg.s1
  have b2 : n ≤ 100 := hl ▸ hg.n1
  have b3 : 1 ≤ n := by
    rcases Nat.eq_zero_or_pos n with e | e
    · have := hg.s2; rw [List.eq_nil_of_length_eq_zero (hl.trans e)] at this; simp [sumL] at this
    · exact e
  have hA : amtB size = true := by unfold amtB; simp; omega
  clear hl hg hc
  go_enter Try.func5, Try.ntmps5
  go_wp2_with (go_at_call 12; refine (amountR_any _ _).mono ?_; rintro e w' ⟨rfl, rfl⟩)
  go_loop [6, 7] (fun s i => ∃ k : Nat, k ≤ n ∧ i = .int .i64 k ∧ s = .int .i64 (sumL (ws.take k))) (fun _ i => n - (intOf i).toNat)
  case atStart => exact ⟨0, Nat.zero_le _, rfl, rfl⟩
  case round =>
    obtain ⟨k, hk, rfl, rfl⟩ := hrel
    have bs := sumL_bd ws HG.out.w1 k (by have := HL.out; omega)
    obtain ⟨bs1, bs2⟩ := bs
    by_cases hlt : k < n
    · have g1 := HC.out k hlt
      obtain ⟨x1, x2⟩ := HG.out.w1 k (by have := HL.out; omega)
      have hs : Hid (sumL (ws.take (k + 1)) = sumL (ws.take k) + ws[k]?.getD 0) := by
        have a := HL.out
        show _ = _
        rw [take_snoc' ws k (by omega), sumL_snoc]
      go_wp2
      go_round
      case rel => exact ⟨k + 1, by omega, by go_num, by rw [hs.out]⟩
      case measure => simp [intOf]; omega
    · have hkn : ws.take k = ws := by have := HL.out; exact List.take_of_length_le (by omega)
      have s1 : 0 < sumL ws := HG.out.s2
      have s2 : sumL ws ≤ 400000 := by
        have := (sumL_bd ws HG.out.w1 n (by have := HL.out; omega)).2
        rw [List.take_of_length_le (by have := HL.out; omega)] at this
        omega
      rw [hkn]
      clear hkn bs1 bs2
      have hs0 : (sumL ws == 0) = false := by rw [beq_eq_false_iff_ne]; omega
      go_wp2_with fail
      go_loopw [9, 10, 11, 12] (FillRel w size ws n) (fun _ _ _ i _ => n - (intOf i).toNat)
      case atStart => exact ⟨0, Nat.zero_le _, rfl, rfl, World.ownsRow_nil _ _ _ _, World.ownsRow_nil _ _ _ _, .inl rfl, .inl rfl, Below.refl _ _⟩
      case round =>
        obtain ⟨j, hj, rfl, rfl, ho, hr, d1, d2, hnx⟩ := hrel
        have lb := leftAt_bd size ws b0 s1 HG.out.w1 j (by have := HL.out; omega)
        obtain ⟨lb1, lb2⟩ := lb
        by_cases hlt2 : j < n
        · obtain ⟨x1, x2⟩ := HG.out.w1 j (by have := HL.out; omega)
          obtain ⟨y1, y2, y3, y4, y5, y6⟩ := part_bd size (sumL ws) (ws[j]?.getD 0) b0 b1 s1 x1 x2
          have g1 : wr.cell? ⟨b, o + j, none⟩ = some (.int .i64 (ws[j]?.getD 0)) := (hnx.cell (p := ⟨b, o + j, none⟩) hb).trans (HC.out j hlt2)
          go_wp2_with (at_builtin; refine wpList_append1 _ rfl (.tmp 67) (.tmp 76) 22 rfl w.heap.size 3 i0 (.int .i64 0) 8 Try.underlying22 hi hz0 hz1 hz2 rfl _ _ _ rfl (ho.alloc _) ⟨wr.heap.size, 0, none⟩ 1 (.int .i64 (qOf size (sumL ws) ws j)) rfl ?c1 rfl ?c3 ?c4 ?c5 ?_)
          case c1 => simp [qOf]
          case c3 => unfold maxLen; omega
          case c4 => omega
          case c5 => have := hnx.size; simp; omega
          intro v1 w1 ho1 hg1 hne1 hpl1
          have hr1 : w1.ownsRow w.heap.size 3 1 u10 j (ints ((List.range j).map (rOf size (sumL ws) ws))) := by
            refine (hr.alloc _).kept hg1 ?_
            rcases d2 with d | d
            · exact .inl d
            · exact .inr d
          have e1 : w1.cell? ⟨b, o + j, none⟩ = some (.int .i64 (ws[j]?.getD 0)) := by
            refine hg1.cell (a := ⟨b, o + j, none⟩) (by rw [World.cell?_alloc_past _ _ _ (by have := hnx.size; simp; omega)]; exact g1) ?_
            intro e
            have := (ho.lt b e.symm).1
            omega
          have n1 : Below w.heap.size w w1 := (hnx.alloc hnx.size _).grown hg1 (by have := hnx.size; simp; omega) (fun k hk => (ho.lt k hk).1)
          have p1 : v1.ownBlock = none ∨ v1.ownBlock ≠ u10.ownBlock := by
            rcases hpl1 with e | e
            · rw [e]; exact d1
            · right; rw [e]; intro e2
              have h3 := (hr.lt _ e2.symm).2
              omega
          rw [ints_snoc, ← range_map_snoc] at ho1
          clear hg1 hr ho hnx d1 d2 g1 hpl1
          obtain ⟨hs1⟩ : Nonempty (Below w.heap.size w w1) := ⟨n1⟩
          go_wp2_with (at_builtin; refine wpList_append1 _ rfl (.tmp 78) (.tmp 87) 22 rfl w.heap.size 3 i0 (.int .i64 0) 8 Try.underlying22 hi hz0 hz1 hz2 rfl _ _ _ rfl (hr1.alloc _) ⟨w1.heap.size, 0, none⟩ 1 (.int .i64 (rOf size (sumL ws) ws j)) rfl ?c1 rfl ?c3 ?c4 ?c5 ?_)
          case c1 => simp [rOf]
          case c3 => unfold maxLen; omega
          case c4 => omega
          case c5 => have := n1.size; simp; omega
          intro v2 w2 hr2 hg2 hne2 hpl2
          have e2 : w2.cell? ⟨b, o + j, none⟩ = some (.int .i64 (ws[j]?.getD 0)) := by
            refine hg2.cell (a := ⟨b, o + j, none⟩) (by rw [World.cell?_alloc_past _ _ _ (by have := n1.size; simp; omega)]; exact e1) ?_
            intro e
            have := (hr1.lt b e.symm).1
            omega
          have n2 : Below w.heap.size w w2 := (n1.alloc n1.size _).grown hg2 (by have := n1.size; simp; omega) (fun k hk => (hr1.lt k hk).1)
          have ho2 : w2.ownsRow w.heap.size 3 1 v1 (j + 1) (ints ((List.range (j + 1)).map (qOf size (sumL ws) ws))) := by
            refine (ho1.alloc _).kept hg2 ?_
            rcases p1 with d | d
            · exact .inl d
            · exact .inr d
          have p2 : v1.ownBlock = none ∨ v1.ownBlock ≠ v2.ownBlock := by
            rcases hpl2 with e | e
            · rw [e]; exact p1
            · right; rw [e]; intro e2
              have h3 := (ho1.lt _ e2).2
              omega
          have p3 : v2.ownBlock = none ∨ v2.ownBlock ≠ v1.ownBlock := by
            rcases p2 with e | e
            · right; intro e3
              rcases rowAt_of_owns ho1 with ⟨h, _⟩ | ⟨g, cap, h, _⟩
              · exact hne1 h
              · rw [h] at e; simp [Value.ownBlock] at e
            · exact .inr (fun h => e h.symm)
          rw [ints_snoc, ← range_map_snoc] at hr2
          have hv1 : ∃ g cap, v1 = .slice (some ⟨g, 0, none⟩) (j + 1) cap ∧ j + 1 ≤ cap ∧ w2.cell? ⟨g, j, none⟩ = some (.int .i64 (qOf size (sumL ws) ws j)) := by
            rcases rowAt_of_owns ho2 with ⟨h, _⟩ | ⟨g, cap, h, h2, h3, h4, h5, h6⟩
            · exact absurd h hne1
            · refine ⟨g, cap, h, h3, ?_⟩
              rw [h6.cell (by rw [h5]; omega), ints_get _ _ (by simp)]
              simp
          obtain ⟨g, cap, rfl, hcap, hcell⟩ := hv1
          have hq : Hid (leftAt size (sumL ws) ws (j + 1) = leftAt size (sumL ws) ws j - qOf size (sumL ws) ws j) := rfl
          have q1 : 0 ≤ qOf size (sumL ws) ws j := y3
          have q2 : qOf size (sumL ws) ws j ≤ 4503599627370496000 := y4
          clear hg2 hr1 ho1 n1 hs1 hne1 hne2 p1 hpl2 e1 y1 y2 y3 y4 y5 y6 x1 x2
          go_wp2
          go_roundw
          case rel => exact ⟨j + 1, by omega, by go_num, by rw [hq.out], ho2, hr2, p2, p3, n2⟩
          case measure => simp [intOf]; omega
        · obtain rfl : j = n := by omega
          have e1 : ∃ g1 c1, u9 = .slice (some ⟨g1, 0, none⟩) j c1 ∧ w.heap.size ≤ g1 ∧ j ≤ c1 ∧ RowAt wr g1 3 (ints ((List.range j).map (qOf size (sumL ws) ws))) := by
            rcases rowAt_of_owns ho with ⟨_, h, _⟩ | ⟨g, cap, h, h2, h3, h4, h5, h6⟩
            · omega
            · exact ⟨g, cap, h, h2, h3, h6⟩
          have e2 : ∃ g1 c1, u10 = .slice (some ⟨g1, 0, none⟩) j c1 ∧ w.heap.size ≤ g1 ∧ j ≤ c1 ∧ RowAt wr g1 3 (ints ((List.range j).map (rOf size (sumL ws) ws))) := by
            rcases rowAt_of_owns hr with ⟨_, h, _⟩ | ⟨g, cap, h, h2, h3, h4, h5, h6⟩
            · omega
            · exact ⟨g, cap, h, h2, h3, h6⟩
          obtain ⟨g1, c1, rfl, hg1, hc1, ho⟩ := e1
          obtain ⟨g2, c2, rfl, hg2, hc2, hr⟩ := e2
          have hne : g1 ≠ g2 := by
            rcases d1 with d | d
            · simp [Value.ownBlock] at d
            · intro e; exact d (by simp [Value.ownBlock, e])
          have hlft : leftAt size (sumL ws) ws j = lft size ws := by unfold lft; rw [HL.out]
          have lf := lft_bd size ws s1
          have lf2 : lft size ws < j := by
            have := HL.out
            rcases lf.2 with h | h <;> omega
          have lf1 := lf.1
          rw [hlft] at lb1 lb2 ⊢
          clear d1 d2 hlft lf
          obtain ⟨w2, rfl⟩ : ∃ w2 : World, w2 = wr := ⟨_, rfl⟩
          go_wp2_with fail
          go_loopw [11, 13, 14] (fun l _ _ wr => HandRel w size ws j g1 g2 l wr) (fun l _ _ _ => (intOf l).toNat)
          case atStart => exact ⟨0, by omega, by simp, by rw [outL_zero]; exact ho, by rw [restL_zero]; exact hr, below_zero _ _, hnx⟩
          case round =>
            obtain ⟨t, ht, rfl, ro, rr, hbl, hnx'⟩ := hrel
            by_cases hlt3 : (t : Int) < lft size ws
            · generalize hF : restL (rOf size (sumL ws) ws) j t = F at rr
              have hFl : F.length = j := by rw [← hF, restL_length]
              have HF := Lib.hid hF
              have HFl := Lib.hid hFl
              clear hF hFl
              obtain ⟨w3, rfl⟩ : ∃ w3 : World, w3 = wr := ⟨_, rfl⟩
              have rcell : ∀ i, i < j → w3.cell? ⟨g2, i, none⟩ = some (.int .i64 (F[i]?.getD 0)) := fun i hi => by
                rw [rr.cell (by rw [ints_length, HFl.out]; exact hi), ints_get _ _ (by rw [HFl.out]; exact hi)]
              have HRC := Lib.hid rcell
              clear rcell
              go_wp2_with fail
              go_loopw [13, 14] (BestRel (fun i => F[i]?.getD 0) j w3) (fun _ i _ => j - (intOf i).toNat)
              case atStart => exact ⟨1, 0, 0, b3, by omega, rfl, rfl, rfl, fun i hi => by rw [show i = 0 by omega]; exact Int.le_refl _, fun i hi => by omega⟩
              case round =>
                obtain ⟨i, m, q, hi1, hm1, rfl, rfl, rfl, hle, hlt4⟩ := hrel
                have HLE := Lib.hid hle
                have HLT := Lib.hid hlt4
                clear hle hlt4
                by_cases hlt5 : i < j
                · have k1 := HRC.out i hlt5
                  have k2 := HRC.out m (by omega)
                  by_cases hgt : F[m]?.getD 0 < F[i]?.getD 0
                  · go_wp2_with fail
                    go_quiet (fail)
                    go_wp2_with fail
                    go_roundw
                    case rel =>
                      refine ⟨i + 1, i, _, by omega, by omega, rfl, by go_num, rfl, fun x hx => ?_, fun x hx => ?_⟩
                      · by_cases e : x = i
                        · subst e; exact Int.le_refl _
                        · exact Int.le_trans (HLE.out x (by omega)) (Int.le_of_lt hgt)
                      · exact Int.lt_of_le_of_lt (HLE.out x hx) hgt
                    case measure => simp [intOf]; omega
                  · go_wp2_with fail
                    go_quiet (fail)
                    go_wp2_with fail
                    go_roundw
                    case rel =>
                      refine ⟨i + 1, m, _, by omega, by omega, rfl, by go_num, rfl, fun x hx => ?_, HLT.out⟩
                      by_cases e : x = i
                      · subst e; show F[x]?.getD 0 ≤ F[m]?.getD 0; omega
                      · exact HLE.out x (by omega)
                    case measure => simp [intOf]; omega
                · obtain rfl : i = j := by omega
                  have hr0 : ∀ x, x < i → 0 ≤ rOf size (sumL ws) ws x := fun x hx => by unfold rOf; exact Int.emod_nonneg _ (by omega)
                  have hrk : rk (rOf size (sumL ws) ws) i m = t := best_rank _ i t m hr0 hm1 hbl (by omega) (fun x => F[x]?.getD 0) (fun x hx => by rw [← HF.out]; exact restL_get _ i t x hx) HLE.out HLT.out
                  have hq := outL_get (qOf size (sumL ws) ws) (rOf size (sumL ws) ws) i t m hm1
                  rw [hrk, if_neg (by omega), Int.add_zero] at hq
                  have c1 : (w3.drewN q).cell? ⟨g1, m, none⟩ = some (.int .i64 (qOf size (sumL ws) ws m)) := by
                    have := ro.cell (i := m) (by rw [ints_length, outL_length]; exact hm1)
                    rw [ints_get _ _ (by rw [outL_length]; exact hm1), hq] at this
                    exact this
                  have c2 := ro.frozen m
                  have c3 := rr.frozen m
                  have c4 := HRC.out m hm1
                  obtain ⟨x1, x2⟩ := HG.out.w1 m (by have := HL.out; omega)
                  obtain ⟨_, _, y3, y4, _, _⟩ := part_bd size (sumL ws) (ws[m]?.getD 0) b0 b1 s1 x1 x2
                  have q1 : 0 ≤ qOf size (sumL ws) ws m := y3
                  have q2 : qOf size (sumL ws) ws m ≤ 4503599627370496000 := y4
                  have ro' := (((ro.drewN q).set m (.int .i64 (qOf size (sumL ws) ws m + 1))).other (a := ⟨g2, m, none⟩) hne (.int .i64 (-1)))
                  have rr' := (((rr.drewN q).other (a := ⟨g1, m, none⟩) (Ne.symm hne) (.int .i64 (qOf size (sumL ws) ws m + 1))).set m (.int .i64 (-1)))
                  rw [ints_set, outL_set _ _ _ _ _ hm1 hrk] at ro'
                  rw [ints_set, ← HF.out, restL_set _ _ _ _ hm1 hrk] at rr'
                  have hbl' := below_succ _ i t m hm1 hrk
                  rw [hbl] at hbl'
                  have nx' : Below w.heap.size w (((w3.drewN q).setCell ⟨g1, m, none⟩ (.int .i64 (qOf size (sumL ws) ws m + 1))).setCell ⟨g2, m, none⟩ (.int .i64 (-1))) :=
                    ((below_drewN hnx' q).setCell (p := ⟨g1, m, none⟩) hg1 _).setCell (p := ⟨g2, m, none⟩) hg2 _
                  have hnm : (⟨g1, m, none⟩ : Addr) ≠ ⟨g2, m, none⟩ := fun e => hne (by injection e)
                  clear hq hr0 hrk hbl y3 y4 x1 x2 ro rr
                  go_wp2_with fail
                  go_roundw
                  case rel => exact ⟨t + 1, by omega, by congr 1; omega, ro', rr', hbl', nx'⟩
                  case measure => simp [intOf]; omega
            · have hn : (0 : Int) ≤ size := b0
              have hp := parts_eq size ws lf1
              rw [HL.out] at hp
              have e : (lft size ws).toNat = t := by omega
              rw [e] at hp
              rw [← hp] at ro
              have HP := Lib.hid ro
              clear hp ro rr
              go_wp2_with fail
              go_ret2
              exact ⟨g1, c1, rfl, hg1, hc1, HP.out, hnx'⟩


def NegRel (w : World) (g n : Nat) (l : List Int) (i : Value) (wr : World) : Prop :=
  ∃ k : Nat, k ≤ n ∧ i = .int .i64 k ∧ RowAt wr g 3 (ints (negL k l)) ∧ Below w.heap.size w wr

set_option maxHeartbeats 1000000 in
set_option maxRecDepth 100000 in
theorem ref_split_neg (b o c n : Nat) (size : Int) (ws : List Int) (w : World) (hl : ws.length = n) (hb : b < w.heap.size) (hg : Good size ws) (hpos : 0 < size)
    (hc : Lies w b o n ws) :
    Calls Try.prog 5 #[.int .i64 (-size), .slice (some ⟨b, o, none⟩) n c] w (SplitPost w n ((parts size ws).map (fun x => -x))) := by
  obtain ⟨i0, hi, hz0, hz1, hz2⟩ := info_parts Try.info3
  have HL := Lib.hid hl
  have HG := Lib.hid hg
  have HC := Lib.hid hc
  have b0 := hg.s0
  have b1 := hg.s1
  have b2 : n ≤ 100 := hl ▸ hg.n1
  have b3 : 1 ≤ n := by
    rcases Nat.eq_zero_or_pos n with e | e
    · have := hg.s2; rw [List.eq_nil_of_length_eq_zero (hl.trans e)] at this; simp [sumL] at this
    · exact e
  have hA : amtB (-size) = true := by unfold amtB; simp; omega
  clear hl hg hc
  go_enter Try.func5, Try.ntmps5
  go_wp2_with (go_at_call 12; refine (amountR_any _ _).mono ?_; rintro e w' ⟨rfl, rfl⟩)
  go_loop [6, 7] (fun s i => ∃ k : Nat, k ≤ n ∧ i = .int .i64 k ∧ s = .int .i64 (sumL (ws.take k))) (fun _ i => n - (intOf i).toNat)
  case atStart => exact ⟨0, Nat.zero_le _, rfl, rfl⟩
  case round =>
    obtain ⟨k, hk, rfl, rfl⟩ := hrel
    have bs := sumL_bd ws HG.out.w1 k (by have := HL.out; omega)
    obtain ⟨bs1, bs2⟩ := bs
    by_cases hlt : k < n
    · have g1 := HC.out k hlt
      obtain ⟨x1, x2⟩ := HG.out.w1 k (by have := HL.out; omega)
      have hs : Hid (sumL (ws.take (k + 1)) = sumL (ws.take k) + ws[k]?.getD 0) := by
        have a := HL.out
        show _ = _
        rw [take_snoc' ws k (by omega), sumL_snoc]
      go_wp2
      go_round
      case rel => exact ⟨k + 1, by omega, by go_num, by rw [hs.out]⟩
      case measure => simp [intOf]; omega
    · have hkn : ws.take k = ws := by have := HL.out; exact List.take_of_length_le (by omega)
      have s1 : 0 < sumL ws := HG.out.s2
      have s2 : sumL ws ≤ 400000 := by
        have := (sumL_bd ws HG.out.w1 n (by have := HL.out; omega)).2
        rw [List.take_of_length_le (by have := HL.out; omega)] at this
        omega
      rw [hkn]
      clear hkn bs1 bs2
      have hs0 : (sumL ws == 0) = false := by rw [beq_eq_false_iff_ne]; omega
      go_wp2_with fail
      go_loopw [9, 10, 11, 12] (FillRel w size ws n) (fun _ _ _ i _ => n - (intOf i).toNat)
      case atStart => exact ⟨0, Nat.zero_le _, rfl, rfl, World.ownsRow_nil _ _ _ _, World.ownsRow_nil _ _ _ _, .inl rfl, .inl rfl, Below.refl _ _⟩
      case round =>
        obtain ⟨j, hj, rfl, rfl, ho, hr, d1, d2, hnx⟩ := hrel
        have lb := leftAt_bd size ws b0 s1 HG.out.w1 j (by have := HL.out; omega)
        obtain ⟨lb1, lb2⟩ := lb
        by_cases hlt2 : j < n
        · obtain ⟨x1, x2⟩ := HG.out.w1 j (by have := HL.out; omega)
          obtain ⟨y1, y2, y3, y4, y5, y6⟩ := part_bd size (sumL ws) (ws[j]?.getD 0) b0 b1 s1 x1 x2
          have g1 : wr.cell? ⟨b, o + j, none⟩ = some (.int .i64 (ws[j]?.getD 0)) := (hnx.cell (p := ⟨b, o + j, none⟩) hb).trans (HC.out j hlt2)
          go_wp2_with (at_builtin; refine wpList_append1 _ rfl (.tmp 67) (.tmp 76) 22 rfl w.heap.size 3 i0 (.int .i64 0) 8 Try.underlying22 hi hz0 hz1 hz2 rfl _ _ _ rfl (ho.alloc _) ⟨wr.heap.size, 0, none⟩ 1 (.int .i64 (qOf size (sumL ws) ws j)) rfl ?c1 rfl ?c3 ?c4 ?c5 ?_)
          case c1 => simp [qOf]
          case c3 => unfold maxLen; omega
          case c4 => omega
          case c5 => have := hnx.size; simp; omega
          intro v1 w1 ho1 hg1 hne1 hpl1
          have hr1 : w1.ownsRow w.heap.size 3 1 u10 j (ints ((List.range j).map (rOf size (sumL ws) ws))) := by
            refine (hr.alloc _).kept hg1 ?_
            rcases d2 with d | d
            · exact .inl d
            · exact .inr d
          have e1 : w1.cell? ⟨b, o + j, none⟩ = some (.int .i64 (ws[j]?.getD 0)) := by
            refine hg1.cell (a := ⟨b, o + j, none⟩) (by rw [World.cell?_alloc_past _ _ _ (by have := hnx.size; simp; omega)]; exact g1) ?_
            intro e
            have := (ho.lt b e.symm).1
            omega
          have n1 : Below w.heap.size w w1 := (hnx.alloc hnx.size _).grown hg1 (by have := hnx.size; simp; omega) (fun k hk => (ho.lt k hk).1)
          have p1 : v1.ownBlock = none ∨ v1.ownBlock ≠ u10.ownBlock := by
            rcases hpl1 with e | e
            · rw [e]; exact d1
            · right; rw [e]; intro e2
              have h3 := (hr.lt _ e2.symm).2
              omega
          rw [ints_snoc, ← range_map_snoc] at ho1
          clear hg1 hr ho hnx d1 d2 g1 hpl1
          obtain ⟨hs1⟩ : Nonempty (Below w.heap.size w w1) := ⟨n1⟩
          go_wp2_with (at_builtin; refine wpList_append1 _ rfl (.tmp 78) (.tmp 87) 22 rfl w.heap.size 3 i0 (.int .i64 0) 8 Try.underlying22 hi hz0 hz1 hz2 rfl _ _ _ rfl (hr1.alloc _) ⟨w1.heap.size, 0, none⟩ 1 (.int .i64 (rOf size (sumL ws) ws j)) rfl ?c1 rfl ?c3 ?c4 ?c5 ?_)
          case c1 => simp [rOf]
          case c3 => unfold maxLen; omega
          case c4 => omega
          case c5 => have := n1.size; simp; omega
          intro v2 w2 hr2 hg2 hne2 hpl2
          have e2 : w2.cell? ⟨b, o + j, none⟩ = some (.int .i64 (ws[j]?.getD 0)) := by
            refine hg2.cell (a := ⟨b, o + j, none⟩) (by rw [World.cell?_alloc_past _ _ _ (by have := n1.size; simp; omega)]; exact e1) ?_
            intro e
            have := (hr1.lt b e.symm).1
            omega
          have n2 : Below w.heap.size w w2 := (n1.alloc n1.size _).grown hg2 (by have := n1.size; simp; omega) (fun k hk => (hr1.lt k hk).1)
          have ho2 : w2.ownsRow w.heap.size 3 1 v1 (j + 1) (ints ((List.range (j + 1)).map (qOf size (sumL ws) ws))) := by
            refine (ho1.alloc _).kept hg2 ?_
            rcases p1 with d | d
            · exact .inl d
            · exact .inr d
          have p2 : v1.ownBlock = none ∨ v1.ownBlock ≠ v2.ownBlock := by
            rcases hpl2 with e | e
            · rw [e]; exact p1
            · right; rw [e]; intro e2
              have h3 := (ho1.lt _ e2).2
              omega
          have p3 : v2.ownBlock = none ∨ v2.ownBlock ≠ v1.ownBlock := by
            rcases p2 with e | e
            · right; intro e3
              rcases rowAt_of_owns ho1 with ⟨h, _⟩ | ⟨g, cap, h, _⟩
              · exact hne1 h
              · rw [h] at e; simp [Value.ownBlock] at e
            · exact .inr (fun h => e h.symm)
          rw [ints_snoc, ← range_map_snoc] at hr2
          have hv1 : ∃ g cap, v1 = .slice (some ⟨g, 0, none⟩) (j + 1) cap ∧ j + 1 ≤ cap ∧ w2.cell? ⟨g, j, none⟩ = some (.int .i64 (qOf size (sumL ws) ws j)) := by
            rcases rowAt_of_owns ho2 with ⟨h, _⟩ | ⟨g, cap, h, h2, h3, h4, h5, h6⟩
            · exact absurd h hne1
            · refine ⟨g, cap, h, h3, ?_⟩
              rw [h6.cell (by rw [h5]; omega), ints_get _ _ (by simp)]
              simp
          obtain ⟨g, cap, rfl, hcap, hcell⟩ := hv1
          have hq : Hid (leftAt size (sumL ws) ws (j + 1) = leftAt size (sumL ws) ws j - qOf size (sumL ws) ws j) := rfl
          have q1 : 0 ≤ qOf size (sumL ws) ws j := y3
          have q2 : qOf size (sumL ws) ws j ≤ 4503599627370496000 := y4
          clear hg2 hr1 ho1 n1 hs1 hne1 hne2 p1 hpl2 e1 y1 y2 y3 y4 y5 y6 x1 x2
          go_wp2
          go_roundw
          case rel => exact ⟨j + 1, by omega, by go_num, by rw [hq.out], ho2, hr2, p2, p3, n2⟩
          case measure => simp [intOf]; omega
        · obtain rfl : n = j := by omega
          have e1 : ∃ g1 c1, u9 = .slice (some ⟨g1, 0, none⟩) n c1 ∧ w.heap.size ≤ g1 ∧ n ≤ c1 ∧ RowAt wr g1 3 (ints ((List.range n).map (qOf size (sumL ws) ws))) := by
            rcases rowAt_of_owns ho with ⟨_, h, _⟩ | ⟨g, cap, h, h2, h3, h4, h5, h6⟩
            · omega
            · exact ⟨g, cap, h, h2, h3, h6⟩
          have e2 : ∃ g1 c1, u10 = .slice (some ⟨g1, 0, none⟩) n c1 ∧ w.heap.size ≤ g1 ∧ n ≤ c1 ∧ RowAt wr g1 3 (ints ((List.range n).map (rOf size (sumL ws) ws))) := by
            rcases rowAt_of_owns hr with ⟨_, h, _⟩ | ⟨g, cap, h, h2, h3, h4, h5, h6⟩
            · omega
            · exact ⟨g, cap, h, h2, h3, h6⟩
          obtain ⟨g1, c1, rfl, hg1, hc1, ho⟩ := e1
          obtain ⟨g2, c2, rfl, hg2, hc2, hr⟩ := e2
          have hne : g1 ≠ g2 := by
            rcases d1 with d | d
            · simp [Value.ownBlock] at d
            · intro e; exact d (by simp [Value.ownBlock, e])
          have hlft : leftAt size (sumL ws) ws n = lft size ws := by unfold lft; rw [HL.out]
          have lf := lft_bd size ws s1
          have lf2 : lft size ws < n := by
            have := HL.out
            rcases lf.2 with h | h <;> omega
          have lf1 := lf.1
          rw [hlft] at lb1 lb2 ⊢
          clear d1 d2 hlft lf
          obtain ⟨w2, rfl⟩ : ∃ w2 : World, w2 = wr := ⟨_, rfl⟩
          go_wp2_with fail
          go_loopw [11, 13, 14] (fun l _ _ wr => HandRel w size ws n g1 g2 l wr) (fun l _ _ _ => (intOf l).toNat)
          case atStart => exact ⟨0, by omega, by simp, by rw [outL_zero]; exact ho, by rw [restL_zero]; exact hr, below_zero _ _, hnx⟩
          case round =>
            obtain ⟨t, ht, rfl, ro, rr, hbl, hnx'⟩ := hrel
            by_cases hlt3 : (t : Int) < lft size ws
            · generalize hF : restL (rOf size (sumL ws) ws) n t = F at rr
              have hFl : F.length = n := by rw [← hF, restL_length]
              have HF := Lib.hid hF
              have HFl := Lib.hid hFl
              clear hF hFl
              obtain ⟨w3, rfl⟩ : ∃ w3 : World, w3 = wr := ⟨_, rfl⟩
              have rcell : ∀ i, i < n → w3.cell? ⟨g2, i, none⟩ = some (.int .i64 (F[i]?.getD 0)) := fun i hi => by
                rw [rr.cell (by rw [ints_length, HFl.out]; exact hi), ints_get _ _ (by rw [HFl.out]; exact hi)]
              have HRC := Lib.hid rcell
              clear rcell
              go_wp2_with fail
              go_loopw [13, 14] (BestRel (fun i => F[i]?.getD 0) n w3) (fun _ i _ => n - (intOf i).toNat)
              case atStart => exact ⟨1, 0, 0, b3, by omega, rfl, rfl, rfl, fun i hi => by rw [show i = 0 by omega]; exact Int.le_refl _, fun i hi => by omega⟩
              case round =>
                obtain ⟨i, m, q, hi1, hm1, rfl, rfl, rfl, hle, hlt4⟩ := hrel
                have HLE := Lib.hid hle
                have HLT := Lib.hid hlt4
                clear hle hlt4
                by_cases hlt5 : i < n
                · have k1 := HRC.out i hlt5
                  have k2 := HRC.out m (by omega)
                  by_cases hgt : F[m]?.getD 0 < F[i]?.getD 0
                  · go_wp2_with fail
                    go_quiet (fail)
                    go_wp2_with fail
                    go_roundw
                    case rel =>
                      refine ⟨i + 1, i, _, by omega, by omega, rfl, by go_num, rfl, fun x hx => ?_, fun x hx => ?_⟩
                      · by_cases e : x = i
                        · subst e; exact Int.le_refl _
                        · exact Int.le_trans (HLE.out x (by omega)) (Int.le_of_lt hgt)
                      · exact Int.lt_of_le_of_lt (HLE.out x hx) hgt
                    case measure => simp [intOf]; omega
                  · go_wp2_with fail
                    go_quiet (fail)
                    go_wp2_with fail
                    go_roundw
                    case rel =>
                      refine ⟨i + 1, m, _, by omega, by omega, rfl, by go_num, rfl, fun x hx => ?_, HLT.out⟩
                      by_cases e : x = i
                      · subst e; show F[x]?.getD 0 ≤ F[m]?.getD 0; omega
                      · exact HLE.out x (by omega)
                    case measure => simp [intOf]; omega
                · obtain rfl : n = i := by omega
                  have hr0 : ∀ x, x < n → 0 ≤ rOf size (sumL ws) ws x := fun x hx => by unfold rOf; exact Int.emod_nonneg _ (by omega)
                  have hrk : rk (rOf size (sumL ws) ws) n m = t := best_rank _ n t m hr0 hm1 hbl (by omega) (fun x => F[x]?.getD 0) (fun x hx => by rw [← HF.out]; exact restL_get _ n t x hx) HLE.out HLT.out
                  have hq := outL_get (qOf size (sumL ws) ws) (rOf size (sumL ws) ws) n t m hm1
                  rw [hrk, if_neg (by omega), Int.add_zero] at hq
                  have c1 : (w3.drewN q).cell? ⟨g1, m, none⟩ = some (.int .i64 (qOf size (sumL ws) ws m)) := by
                    have := ro.cell (i := m) (by rw [ints_length, outL_length]; exact hm1)
                    rw [ints_get _ _ (by rw [outL_length]; exact hm1), hq] at this
                    exact this
                  have c2 := ro.frozen m
                  have c3 := rr.frozen m
                  have c4 := HRC.out m hm1
                  obtain ⟨x1, x2⟩ := HG.out.w1 m (by have := HL.out; omega)
                  obtain ⟨_, _, y3, y4, _, _⟩ := part_bd size (sumL ws) (ws[m]?.getD 0) b0 b1 s1 x1 x2
                  have q1 : 0 ≤ qOf size (sumL ws) ws m := y3
                  have q2 : qOf size (sumL ws) ws m ≤ 4503599627370496000 := y4
                  have ro' := (((ro.drewN q).set m (.int .i64 (qOf size (sumL ws) ws m + 1))).other (a := ⟨g2, m, none⟩) hne (.int .i64 (-1)))
                  have rr' := (((rr.drewN q).other (a := ⟨g1, m, none⟩) (Ne.symm hne) (.int .i64 (qOf size (sumL ws) ws m + 1))).set m (.int .i64 (-1)))
                  rw [ints_set, outL_set _ _ _ _ _ hm1 hrk] at ro'
                  rw [ints_set, ← HF.out, restL_set _ _ _ _ hm1 hrk] at rr'
                  have hbl' := below_succ _ n t m hm1 hrk
                  rw [hbl] at hbl'
                  have nx' : Below w.heap.size w (((w3.drewN q).setCell ⟨g1, m, none⟩ (.int .i64 (qOf size (sumL ws) ws m + 1))).setCell ⟨g2, m, none⟩ (.int .i64 (-1))) :=
                    ((below_drewN hnx' q).setCell (p := ⟨g1, m, none⟩) hg1 _).setCell (p := ⟨g2, m, none⟩) hg2 _
                  have hnm : (⟨g1, m, none⟩ : Addr) ≠ ⟨g2, m, none⟩ := fun e => hne (by injection e)
                  clear hq hr0 hrk hbl y3 y4 x1 x2 ro rr
                  go_wp2_with fail
                  go_roundw
                  case rel => exact ⟨t + 1, by omega, by congr 1; omega, ro', rr', hbl', nx'⟩
                  case measure => simp [intOf]; omega
            · have hn : (0 : Int) ≤ size := b0
              have hp := parts_eq size ws lf1
              rw [HL.out] at hp
              have e : (lft size ws).toNat = t := by omega
              rw [e] at hp
              rw [← hp] at ro
              have HP := Lib.hid ro
              clear hp ro rr
              obtain ⟨w3, rfl⟩ : ∃ w3 : World, w3 = wr := ⟨_, rfl⟩
              go_wp2_with fail
              go_loopw [15] (NegRel w g1 n (parts size ws)) (fun i _ => n - (intOf i).toNat)
              case atStart => exact ⟨0, Nat.zero_le _, rfl, by rw [negL_zero]; exact HP.out, hnx'⟩
              case round =>
                obtain ⟨x, hx, rfl, ro, hnx3⟩ := hrel
                have pl := parts_length size ws
                rw [HL.out] at pl
                by_cases hlt6 : x < n
                · obtain ⟨p1, p2⟩ := parts_bd size ws b0 b1 s1 HG.out.w1 x (by have := HL.out; omega)
                  have c1 : wr.cell? ⟨g1, x, none⟩ = some (.int .i64 ((parts size ws)[x]?.getD 0)) := by
                    rw [ro.cell (by rw [ints_length, negL_length, pl]; exact hlt6), ints_get _ _ (by rw [negL_length, pl]; exact hlt6), negL_get _ _ (by omega)]
                  have c2 := ro.frozen x
                  have ro' := ro.set x (.int .i64 (-((parts size ws)[x]?.getD 0)))
                  rw [ints_set, negL_set _ _ (by omega)] at ro'
                  have nx' := hnx3.setCell (p := ⟨g1, x, none⟩) hg1 (.int .i64 (-((parts size ws)[x]?.getD 0)))
                  clear pl ro
                  generalize (parts size ws)[x]?.getD 0 = y at *
                  go_wp2_with fail
                  go_roundw
                  case rel => exact ⟨x + 1, by omega, by go_num, ro', nx'⟩
                  case measure => simp [intOf]; omega
                · obtain rfl : x = n := by omega
                  have e : negL x (parts size ws) = (parts size ws).map (fun x => -x) := by rw [← negL_all, pl]
                  rw [e] at ro
                  clear pl e
                  go_wp2_with fail
                  go_ret2
                  exact ⟨g1, c1, rfl, hg1, hc1, ro, hnx3⟩

end Go.Proofs.Ytnikhbdjlipcbaa
