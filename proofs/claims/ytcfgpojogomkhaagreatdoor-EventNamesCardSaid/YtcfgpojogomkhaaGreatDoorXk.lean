/-
  novationlaw17.EventOrdered walked, for 1 to 100 events. Condition: what the package-level variables hold. Events that came in as a slice, opened; novationlaw17.EventOrdered for every slice. Condition: what the package-level variables hold.
-/
import Derived.Test.YtcfgpojogomkhaaGreatDoorXj
import Derived.Test.YtcfgpojogomkhaaGreatDoorVr
namespace Go.Proofs.YtcfgpojogomkhaaGreatDoor
open Go.RowKit Go.Shelf Go.Sort

def LawR (w : World) (n : Nat) (i : Value) (wr : World) : Prop := ∃ k : Nat, k ≤ n ∧ i = .int .i64 k ∧ Below w.heap.size w wr
/-- The innermost loop: how often the event was met. -/
def CntR (w : World) (l m : List Ev) (x : Ev) (n : Nat) (a b i : Value) (wr : World) : Prop := ∃ j : Nat, j ≤ n ∧ i = .int .i64 j ∧ a = .int .i64 (cntE m x j) ∧ b = .int .i64 (cntE l x j) ∧ Below w.heap.size w wr
theorem evs_below {w w' : World} {g o : Nat} {l : List Ev} (h : Evs w g o l) (hb : Below w.heap.size w w') (hg : g < w.heap.size) : Evs w' g o l := by
  obtain ⟨hc, _⟩ := bcell hb
  intro i hi
  obtain ⟨a0, a1, a2, a3, a4, a5, a6, a7, a8⟩ := h i hi
  exact ⟨(hc _ _ hg).trans a0, (hc _ _ hg).trans a1, (hc _ _ hg).trans a2, (hc _ _ hg).trans a3, (hc _ _ hg).trans a4, (hc _ _ hg).trans a5, (hc _ _ hg).trans a6, (hc _ _ hg).trans a7, (hc _ _ hg).trans a8⟩
theorem evAt_below {w w' : World} {g o : Nat} {x : Ev} (h : EvAt w g o x) (hb : Below w.heap.size w w') (hg : g < w.heap.size) : EvAt w' g o x := by
  obtain ⟨hc, _⟩ := bcell hb
  obtain ⟨a0, a1, a2, a3, a4, a5, a6, a7, a8⟩ := h
  exact ⟨(hc _ _ hg).trans a0, (hc _ _ hg).trans a1, (hc _ _ hg).trans a2, (hc _ _ hg).trans a3, (hc _ _ hg).trans a4, (hc _ _ hg).trans a5, (hc _ _ hg).trans a6, (hc _ _ hg).trans a7, (hc _ _ hg).trans a8⟩
theorem evs_row0 {w : World} {g : Nat} {t : TypeId} {l : List Ev} (h : RowAt w g t (evs l)) (i : Nat) (hi : i < l.length) : EvAt w g (i * 9) (l[i]?.getD default) := by
  have := evs_of_row h i hi
  rwa [Nat.zero_add] at this
theorem evAt_bel {w : World} {g o : Nat} {x : Ev} (h : EvAt w g o x) (p : BelOf w) : EvAt p.u g o x := by
  obtain ⟨a0, a1, a2, a3, a4, a5, a6, a7, a8⟩ := h
  exact ⟨cell_bel a0 p, cell_bel a1 p, cell_bel a2 p, cell_bel a3 p, cell_bel a4 p, cell_bel a5 p, cell_bel a6 p, cell_bel a7 p, cell_bel a8 p⟩

set_option maxHeartbeats 8000000 in
set_option maxRecDepth 100000 in
theorem ordered_some (g o n c : Nat) (l : List Ev) (w : World) (hE : Env w) (hl : l.length = n) (hn : n ≤ 100) (hn1 : 1 ≤ n) (hg : g < w.heap.size) (h : Evs w g o l) :
    Calls Tryz.prog 8 #[.slice (some ⟨g, o, none⟩) n c] w (BelB w true) := by
  have HL := Lib.hid hl
  have H := Lib.hid h
  have HA := Lib.hid (alive_ct hE)
  clear hl h hE
  have t1 : decide ((100 : Int) < (n : Int)) = false := by simp; omega
  go_enter Tryz.func8, Tryz.ntmps8
  go_wp2_with fail
  refine (HA.out.use (Below.refl _ _)).mono ?_
  rintro e w0 ⟨rfl, b0⟩
  have B0 := Lib.hid b0
  clear b0
  go_wp2_with fail
  go_loopw [4] (fun i wr => LawR w n i wr) (fun i _ => n - (intOf i).toNat)
  case atStart => exact ⟨0, Nat.zero_le _, rfl, B0.out⟩
  case round =>
    obtain ⟨w1, rfl⟩ : ∃ w1 : World, w1 = wr := ⟨_, rfl⟩
    obtain ⟨k, hkn, rfl, b1⟩ := hrel
    by_cases hlt : k < n
    · obtain ⟨x, hx⟩ : ∃ x, x = l[k]?.getD default := ⟨_, rfl⟩
      have a := evs_below H.out b1 hg k (by have := HL.out; omega)
      rw [← hx] at a
      obtain ⟨a0, a1, a2, a3, a4, a5, a6, a7, a8⟩ := a
      clear hx
      go_wp2_with fail
      refine (long_any x.kind x.id x.entry x.target x.date x.party x.name x.value x.first w1).mono ?_
      rintro e w2 ⟨rfl, b2⟩
      have b3 := b1.trans (b2.mono b1.size)
      clear b1 b2 a0 a1 a2 a3 a4 a5 a6 a7 a8
      by_cases hx : longB ⟨x.kind, x.id, x.entry, x.target, x.date, x.party, x.name, x.value, x.first⟩ = true
      · go_wp2_with fail
        go_ret
        exact ⟨rfl, b3⟩
      · have hx : longB ⟨x.kind, x.id, x.entry, x.target, x.date, x.party, x.name, x.value, x.first⟩ = false := by simpa using hx
        go_wp2_with fail
        go_roundw
        case rel => exact ⟨k + 1, by omega, by go_num, b3⟩
        case measure => simp [intOf]; omega
    · have hkn : k = n := by omega
      subst hkn
      go_wp2_with fail
      refine (sort_some g o k c l w1 HL.out (by omega) hn1 (Nat.lt_of_lt_of_le hg b1.size) (evs_below H.out b1 hg)).mono ?_
      rintro e w3 ⟨ga, ca, rfl, hga, ra, na⟩
      have b3 : Below w.heap.size w w3 := b1.trans (na.mono b1.size)
      go_wp2_with fail
      refine (sort_some ga 0 k ca (sortEv l) w3 (by rw [sortEv_length]; exact HL.out) (by omega) hn1 ra.lt (evs_of_row ra)).mono ?_
      rintro e w4 ⟨gb, cb, rfl, hgb, rb, nb⟩
      rw [sortEv_twice] at rb
      have b4 : Below w.heap.size w w4 := b3.trans (nb.mono b3.size)
      have ra4 : RowAt w4 ga 24 (evs (sortEv l)) := ra.below nb ra.lt
      have hg4 : g < w4.heap.size := Nat.lt_of_lt_of_le hg b4.size
      go_wp2_with fail
      refine (same_ev ga 0 gb 0 ca cb k (sortEv l) w4 (by rw [sortEv_length]; exact HL.out) (by omega) (evs_of_row ra4) (evs_of_row rb)).mono ?_
      rintro e w5' ⟨rfl, q5, rfl⟩
      obtain ⟨w5, hw5⟩ : ∃ w5, w5 = w4.drewN q5 := ⟨_, rfl⟩
      have b5 : Below w.heap.size w w5 := by rw [hw5]; exact below_drewN b4 q5
      have ra5 : RowAt w5 ga 24 (evs (sortEv l)) := by rw [hw5]; exact ra4.drewN q5
      rw [← hw5]
      have hga5 : ga < w5.heap.size := ra5.lt
      have hg5 : g < w5.heap.size := Nat.lt_of_lt_of_le hg b5.size
      obtain ⟨S, hS⟩ : ∃ S, S = sortEv l := ⟨_, rfl⟩
      have HNX : Hid (∀ i, i + 1 < k → cmpEv (S[i]?.getD default) (S[i + 1]?.getD default) ≤ 0) := fun i hi => by
        rw [hS]; exact sortEv_next l i (by rw [sortEv_length, HL.out]; exact hi)
      have HCN : Hid (∀ x, cntE S x k = cntE l x k) := fun x => by
        have := cntE_sort l x
        rw [HL.out] at this
        rw [hS]; exact this
      have HSL : Hid (S.length = k) := by show S.length = k; rw [hS, sortEv_length]; exact HL.out
      rw [← hS] at ra5
      have RA := Lib.hid (fun i (hi : i < k) => evs_row0 ra5 i (by rw [HSL.out]; exact hi))
      have RL := Lib.hid (fun i (hi : i < k) => evs_below H.out b5 hg i (by rw [HL.out]; exact hi))
      have B5 := Lib.hid b5
      clear hw5 ra rb na nb b1 b3 b4 ra4 hga hgb ra5 b5 hS hg4
      go_wp2_with fail
      go_loopw [9] (fun i wr => LawR w5 k i wr) (fun i _ => k - (intOf i).toNat)
      case atStart => exact ⟨0, Nat.zero_le _, rfl, Below.refl _ _⟩
      case round =>
        obtain ⟨w6, rfl⟩ : ∃ w6 : World, w6 = wr := ⟨_, rfl⟩
        obtain ⟨m, hmk, rfl, b6⟩ := hrel
        by_cases hmt : m < k
        · obtain ⟨x, hx⟩ : ∃ x, x = S[m]?.getD default := ⟨_, rfl⟩
          have AX : EvAt w5 ga (m * 9) x := by rw [hx]; exact RA.out m hmt
          have AX6 : EvAt w6 ga (m * 9) x := by
            obtain ⟨hc, _⟩ := bcell b6
            obtain ⟨a0, a1, a2, a3, a4, a5, a6, a7, a8⟩ := AX
            exact ⟨(hc _ _ hga5).trans a0, (hc _ _ hga5).trans a1, (hc _ _ hga5).trans a2, (hc _ _ hga5).trans a3, (hc _ _ hga5).trans a4, (hc _ _ hga5).trans a5, (hc _ _ hga5).trans a6, (hc _ _ hga5).trans a7, (hc _ _ hga5).trans a8⟩
          have HAX := Lib.hid AX
          have HAX6 := Lib.hid AX6
          have HX := Lib.hid hx
          have B6 := Lib.hid b6
          clear AX AX6 b6 hx
          go_upto_region 16 with (fail)
          go_cut [83] from 63 to 114 (fun s wx => s = .bool false ∧ Below w5.heap.size w5 wx)
          case first =>
            by_cases hm0 : m = 0
            · have t0 : decide ((0 : Int) < (m : Int)) = false := by simp; omega
              have t1 : ¬0 < m := by omega
              refine region_bel (by kernel_rfl) (by kernel_rfl) ?_
              clear hm0
              repeat (go_big_quiet_step (first | (go_at_call 15; fail)))
              refine wpQuiet_nil ?_
              intro w8 hw8
              obtain ⟨⟨w9, hw9⟩, hw10⟩ := hw8
              subst hw10
              go_wp2_with fail
              go_meet
              exact ⟨rfl, B6.out.trans (hw9.mono B6.out.size)⟩
            · obtain ⟨m', rfl⟩ : ∃ m', m = m' + 1 := ⟨m - 1, by omega⟩
              obtain ⟨y, hy⟩ : ∃ y, y = S[m']?.getD default := ⟨_, rfl⟩
              have AY : EvAt w5 ga (m' * 9) y := by rw [hy]; exact RA.out m' (by omega)
              have AY6 : EvAt w6 ga (m' * 9) y := evAt_below AY B6.out hga5
              have hc : cmpEv y x ≤ 0 := by rw [hy, HX.out]; exact HNX.out m' hmt
              obtain ⟨c9, hc9⟩ : ∃ c9, cmpEv y x = c9 := ⟨_, rfl⟩
              rw [hc9] at hc
              have HC := cmp_hid y x c9 hc9
              have tc : decide ((0 : Int) < c9) = false := by simp; omega
              have t0 : decide ((0 : Int) < ((m' : Int) + 1)) = true := by simp
              have PX := fun p : BelOf w6 => evAt_bel HAX6.out p
              have PY := fun p : BelOf w6 => evAt_bel AY6 p
              have x0 := fun p : BelOf w6 => (PX p).1
              have x1 := fun p : BelOf w6 => (PX p).2.1
              have x2 := fun p : BelOf w6 => (PX p).2.2.1
              have x3 := fun p : BelOf w6 => (PX p).2.2.2.1
              have x4 := fun p : BelOf w6 => (PX p).2.2.2.2.1
              have x5 := fun p : BelOf w6 => (PX p).2.2.2.2.2.1
              have x6 := fun p : BelOf w6 => (PX p).2.2.2.2.2.2.1
              have x7 := fun p : BelOf w6 => (PX p).2.2.2.2.2.2.2.1
              have x8 := fun p : BelOf w6 => (PX p).2.2.2.2.2.2.2.2
              have y0 := fun p : BelOf w6 => (PY p).1
              have y1 := fun p : BelOf w6 => (PY p).2.1
              have y2 := fun p : BelOf w6 => (PY p).2.2.1
              have y3 := fun p : BelOf w6 => (PY p).2.2.2.1
              have y4 := fun p : BelOf w6 => (PY p).2.2.2.2.1
              have y5 := fun p : BelOf w6 => (PY p).2.2.2.2.2.1
              have y6 := fun p : BelOf w6 => (PY p).2.2.2.2.2.2.1
              have y7 := fun p : BelOf w6 => (PY p).2.2.2.2.2.2.2.1
              have y8 := fun p : BelOf w6 => (PY p).2.2.2.2.2.2.2.2
              clear PX PY AY AY6 hy hc hc9
              refine region_bel (by kernel_rfl) (by kernel_rfl) ?_
              repeat (go_big_quiet_step (first
                | (go_at_call 15; exact bel_of (HC.out _))))
              refine wpQuiet_nil ?_
              intro w8 hw8
              obtain ⟨⟨w9, hw9⟩, hw10⟩ := hw8
              subst hw10
              go_wp2_with fail
              go_meet
              exact ⟨rfl, B6.out.trans (hw9.mono B6.out.size)⟩
          case rest =>
          obtain ⟨w7, rfl⟩ : ∃ w7 : World, w7 = wc := ⟨_, rfl⟩
          obtain ⟨rfl, b7⟩ := hcut
          have B7 := Lib.hid b7
          clear b7
          go_wp2_with fail
          go_loopw [10, 11, 12] (fun a b i wr => CntR w5 l S x k a b i wr) (fun _ _ i _ => k - (intOf i).toNat)
          case atStart => exact ⟨0, Nat.zero_le _, rfl, by rw [cntE_zero]; rfl, by rw [cntE_zero]; rfl, B7.out⟩
          case round =>
            obtain ⟨w8, rfl⟩ : ∃ w8 : World, w8 = wr := ⟨_, rfl⟩
            obtain ⟨j, hj, rfl, rfl, rfl, b8⟩ := hrel
            by_cases hjt : j < k
            · obtain ⟨y, hy⟩ : ∃ y, y = S[j]?.getD default := ⟨_, rfl⟩
              obtain ⟨z, hz⟩ : ∃ z, z = l[j]?.getD default := ⟨_, rfl⟩
              have HN1 : Hid (cntE S x (j + 1) = cntE S x j + (if eqEv y x = true then 1 else 0)) := by
                show _ = _
                rw [hy]; exact cntE_succ S x j (by rw [HSL.out]; exact hjt)
              have HN2 : Hid (cntE l x (j + 1) = cntE l x j + (if eqEv z x = true then 1 else 0)) := by
                show _ = _
                rw [hz]; exact cntE_succ l x j (by rw [HL.out]; exact hjt)
              have l1 := cntE_le S x j
              have l2 := cntE_le l x j
              have EY : EvAt w8 ga (j * 9) y := by rw [hy]; exact evAt_below (RA.out j hjt) b8 hga5
              have EX : EvAt w8 ga (m * 9) x := evAt_below HAX.out b8 hga5
              have EZ : EvAt w8 g (o + j * 9) z := by rw [hz]; exact evAt_below (RL.out j hjt) b8 hg5
              generalize cntE S x j = c1 at HN1 l1 ⊢
              generalize cntE l x j = c2 at HN2 l2 ⊢
              have HEX := Lib.hid EX
              have HEZ := Lib.hid EZ
              have B8 := Lib.hid b8
              obtain ⟨x0, x1, x2, x3, x4, x5, x6, x7, x8⟩ := EX
              obtain ⟨y0, y1, y2, y3, y4, y5, y6, y7, y8⟩ := EY
              clear hy hz EZ b8
              go_upto_region 22 with (fail)
              go_cut [98] from 84 to 111 (fun s wx => s = .bool (eqEv y x) ∧ ∃ d, wx = w8.drewN d)
              case first =>
                obtain ⟨qk, gk⟩ : ∃ q, (y.kind == x.kind) = q := ⟨_, rfl⟩
                obtain ⟨qi, gi⟩ : ∃ q, (y.id == x.id) = q := ⟨_, rfl⟩
                obtain ⟨qe, ge⟩ : ∃ q, (y.entry == x.entry) = q := ⟨_, rfl⟩
                obtain ⟨qt, gt⟩ : ∃ q, (y.target == x.target) = q := ⟨_, rfl⟩
                obtain ⟨qd, gd⟩ : ∃ q, (y.date == x.date) = q := ⟨_, rfl⟩
                obtain ⟨qp, gp⟩ : ∃ q, (y.party.toList == x.party.toList) = q := ⟨_, rfl⟩
                obtain ⟨qn, gn⟩ : ∃ q, (y.name.toList == x.name.toList) = q := ⟨_, rfl⟩
                obtain ⟨qv, gv⟩ : ∃ q, (y.value.toList == x.value.toList) = q := ⟨_, rfl⟩
                obtain ⟨qf, gf⟩ : ∃ q, (y.first == x.first) = q := ⟨_, rfl⟩
                have HQ : Hid (eqEv y x = (qk && (qi && (qe && (qt && (qd && (qp && (qn && (qv && qf))))))))) := by
                  show eqEv y x = _
                  unfold eqEv
                  rw [gk, gi, ge, gt, gd, gp, gn, gv, gf]
                cases qk with
                | false =>
                  go_quiet (fail)
                  go_wp2_with fail
                  go_meet
                  exact ⟨congrArg Value.bool HQ.out.symm, _, rfl⟩
                | true =>
                cases qi with
                | false =>
                  go_quiet (fail)
                  go_wp2_with fail
                  go_meet
                  exact ⟨congrArg Value.bool HQ.out.symm, _, rfl⟩
                | true =>
                cases qe with
                | false =>
                  go_quiet (fail)
                  go_wp2_with fail
                  go_meet
                  exact ⟨congrArg Value.bool HQ.out.symm, _, rfl⟩
                | true =>
                cases qt with
                | false =>
                  go_quiet (fail)
                  go_wp2_with fail
                  go_meet
                  exact ⟨congrArg Value.bool HQ.out.symm, _, rfl⟩
                | true =>
                cases qd with
                | false =>
                  go_quiet (fail)
                  go_wp2_with fail
                  go_meet
                  exact ⟨congrArg Value.bool HQ.out.symm, _, rfl⟩
                | true =>
                cases qp with
                | false =>
                  go_quiet (fail)
                  go_wp2_with fail
                  go_meet
                  exact ⟨congrArg Value.bool HQ.out.symm, _, rfl⟩
                | true =>
                cases qn with
                | false =>
                  go_quiet (fail)
                  go_wp2_with fail
                  go_meet
                  exact ⟨congrArg Value.bool HQ.out.symm, _, rfl⟩
                | true =>
                cases qv with
                | false =>
                  go_quiet (fail)
                  go_wp2_with fail
                  go_meet
                  exact ⟨congrArg Value.bool HQ.out.symm, _, rfl⟩
                | true =>
                cases qf with
                | false =>
                  go_quiet (fail)
                  go_wp2_with fail
                  go_meet
                  exact ⟨congrArg Value.bool HQ.out.symm, _, rfl⟩
                | true =>
                go_quiet (fail)
                go_wp2_with fail
                go_meet
                exact ⟨congrArg Value.bool HQ.out.symm, _, rfl⟩
              case rest =>
              obtain ⟨w9, rfl⟩ : ∃ w9 : World, w9 = wc := ⟨_, rfl⟩
              obtain ⟨rfl, d9, hd9⟩ := hcut
              have EX9 : EvAt w9 ga (m * 9) x := by rw [hd9]; exact HEX.out
              have EZ9 : EvAt w9 g (o + j * 9) z := by rw [hd9]; exact HEZ.out
              have B9 : Hid (Below w5.heap.size w5 w9) := by rw [hd9]; exact below_drewN B8.out d9
              clear x0 x1 x2 x3 x4 x5 x6 x7 x8 y0 y1 y2 y3 y4 y5 y6 y7 y8 hd9
              obtain ⟨x0, x1, x2, x3, x4, x5, x6, x7, x8⟩ := EX9
              obtain ⟨z0, z1, z2, z3, z4, z5, z6, z7, z8⟩ := EZ9
              have HN1 := HN1.out
              obtain ⟨q, hq⟩ : ∃ q, eqEv y x = q := ⟨_, rfl⟩
              rw [hq] at HN1 ⊢
              have HN1 := Lib.hid HN1
              clear hq
              cases q with
              | false =>
                go_upto_region 24 with (fail)
                go_cut [109] from 84 to 111 (fun s wx => s = .bool (eqEv z x) ∧ ∃ d, wx = w9.drewN d)
                case first =>
                  obtain ⟨qk, gk⟩ : ∃ q, (z.kind == x.kind) = q := ⟨_, rfl⟩
                  obtain ⟨qi, gi⟩ : ∃ q, (z.id == x.id) = q := ⟨_, rfl⟩
                  obtain ⟨qe, ge⟩ : ∃ q, (z.entry == x.entry) = q := ⟨_, rfl⟩
                  obtain ⟨qt, gt⟩ : ∃ q, (z.target == x.target) = q := ⟨_, rfl⟩
                  obtain ⟨qd, gd⟩ : ∃ q, (z.date == x.date) = q := ⟨_, rfl⟩
                  obtain ⟨qp, gp⟩ : ∃ q, (z.party.toList == x.party.toList) = q := ⟨_, rfl⟩
                  obtain ⟨qn, gn⟩ : ∃ q, (z.name.toList == x.name.toList) = q := ⟨_, rfl⟩
                  obtain ⟨qv, gv⟩ : ∃ q, (z.value.toList == x.value.toList) = q := ⟨_, rfl⟩
                  obtain ⟨qf, gf⟩ : ∃ q, (z.first == x.first) = q := ⟨_, rfl⟩
                  have HQ : Hid (eqEv z x = (qk && (qi && (qe && (qt && (qd && (qp && (qn && (qv && qf))))))))) := by
                    show eqEv z x = _
                    unfold eqEv
                    rw [gk, gi, ge, gt, gd, gp, gn, gv, gf]
                  cases qk with
                  | false =>
                    go_quiet (fail)
                    go_wp2_with fail
                    go_meet
                    exact ⟨congrArg Value.bool HQ.out.symm, _, rfl⟩
                  | true =>
                  cases qi with
                  | false =>
                    go_quiet (fail)
                    go_wp2_with fail
                    go_meet
                    exact ⟨congrArg Value.bool HQ.out.symm, _, rfl⟩
                  | true =>
                  cases qe with
                  | false =>
                    go_quiet (fail)
                    go_wp2_with fail
                    go_meet
                    exact ⟨congrArg Value.bool HQ.out.symm, _, rfl⟩
                  | true =>
                  cases qt with
                  | false =>
                    go_quiet (fail)
                    go_wp2_with fail
                    go_meet
                    exact ⟨congrArg Value.bool HQ.out.symm, _, rfl⟩
                  | true =>
                  cases qd with
                  | false =>
                    go_quiet (fail)
                    go_wp2_with fail
                    go_meet
                    exact ⟨congrArg Value.bool HQ.out.symm, _, rfl⟩
                  | true =>
                  cases qp with
                  | false =>
                    go_quiet (fail)
                    go_wp2_with fail
                    go_meet
                    exact ⟨congrArg Value.bool HQ.out.symm, _, rfl⟩
                  | true =>
                  cases qn with
                  | false =>
                    go_quiet (fail)
                    go_wp2_with fail
                    go_meet
                    exact ⟨congrArg Value.bool HQ.out.symm, _, rfl⟩
                  | true =>
                  cases qv with
                  | false =>
                    go_quiet (fail)
                    go_wp2_with fail
                    go_meet
                    exact ⟨congrArg Value.bool HQ.out.symm, _, rfl⟩
                  | true =>
                  cases qf with
                  | false =>
                    go_quiet (fail)
                    go_wp2_with fail
                    go_meet
                    exact ⟨congrArg Value.bool HQ.out.symm, _, rfl⟩
                  | true =>
                  go_quiet (fail)
                  go_wp2_with fail
                  go_meet
                  exact ⟨congrArg Value.bool HQ.out.symm, _, rfl⟩
                case rest =>
                obtain ⟨w10, rfl⟩ : ∃ w10 : World, w10 = wc := ⟨_, rfl⟩
                obtain ⟨rfl, d10, hd10⟩ := hcut
                have B10 : Hid (Below w5.heap.size w5 w10) := by rw [hd10]; exact below_drewN B9.out d10
                clear x0 x1 x2 x3 x4 x5 x6 x7 x8 z0 z1 z2 z3 z4 z5 z6 z7 z8 hd10
                have HN2 := HN2.out
                obtain ⟨q2, hq2⟩ : ∃ q2, eqEv z x = q2 := ⟨_, rfl⟩
                rw [hq2] at HN2 ⊢
                have HN2 := Lib.hid HN2
                clear hq2
                cases q2 with
                | false =>
                  go_wp2_with fail
                  go_roundw
                  case rel =>
                    exact ⟨j + 1, by omega, by go_num, by rw [HN1.out]; simp, by rw [HN2.out]; simp, B10.out⟩
                  case measure => simp [intOf]; omega
                | true =>
                  go_wp2_with fail
                  go_roundw
                  case rel =>
                    exact ⟨j + 1, by omega, by go_num, by rw [HN1.out]; simp, by rw [HN2.out]; simp, B10.out⟩
                  case measure => simp [intOf]; omega
              | true =>
                go_upto_region 24 with (fail)
                go_cut [109] from 84 to 111 (fun s wx => s = .bool (eqEv z x) ∧ ∃ d, wx = w9.drewN d)
                case first =>
                  obtain ⟨qk, gk⟩ : ∃ q, (z.kind == x.kind) = q := ⟨_, rfl⟩
                  obtain ⟨qi, gi⟩ : ∃ q, (z.id == x.id) = q := ⟨_, rfl⟩
                  obtain ⟨qe, ge⟩ : ∃ q, (z.entry == x.entry) = q := ⟨_, rfl⟩
                  obtain ⟨qt, gt⟩ : ∃ q, (z.target == x.target) = q := ⟨_, rfl⟩
                  obtain ⟨qd, gd⟩ : ∃ q, (z.date == x.date) = q := ⟨_, rfl⟩
                  obtain ⟨qp, gp⟩ : ∃ q, (z.party.toList == x.party.toList) = q := ⟨_, rfl⟩
                  obtain ⟨qn, gn⟩ : ∃ q, (z.name.toList == x.name.toList) = q := ⟨_, rfl⟩
                  obtain ⟨qv, gv⟩ : ∃ q, (z.value.toList == x.value.toList) = q := ⟨_, rfl⟩
                  obtain ⟨qf, gf⟩ : ∃ q, (z.first == x.first) = q := ⟨_, rfl⟩
                  have HQ : Hid (eqEv z x = (qk && (qi && (qe && (qt && (qd && (qp && (qn && (qv && qf))))))))) := by
                    show eqEv z x = _
                    unfold eqEv
                    rw [gk, gi, ge, gt, gd, gp, gn, gv, gf]
                  cases qk with
                  | false =>
                    go_quiet (fail)
                    go_wp2_with fail
                    go_meet
                    exact ⟨congrArg Value.bool HQ.out.symm, _, rfl⟩
                  | true =>
                  cases qi with
                  | false =>
                    go_quiet (fail)
                    go_wp2_with fail
                    go_meet
                    exact ⟨congrArg Value.bool HQ.out.symm, _, rfl⟩
                  | true =>
                  cases qe with
                  | false =>
                    go_quiet (fail)
                    go_wp2_with fail
                    go_meet
                    exact ⟨congrArg Value.bool HQ.out.symm, _, rfl⟩
                  | true =>
                  cases qt with
                  | false =>
                    go_quiet (fail)
                    go_wp2_with fail
                    go_meet
                    exact ⟨congrArg Value.bool HQ.out.symm, _, rfl⟩
                  | true =>
                  cases qd with
                  | false =>
                    go_quiet (fail)
                    go_wp2_with fail
                    go_meet
                    exact ⟨congrArg Value.bool HQ.out.symm, _, rfl⟩
                  | true =>
                  cases qp with
                  | false =>
                    go_quiet (fail)
                    go_wp2_with fail
                    go_meet
                    exact ⟨congrArg Value.bool HQ.out.symm, _, rfl⟩
                  | true =>
                  cases qn with
                  | false =>
                    go_quiet (fail)
                    go_wp2_with fail
                    go_meet
                    exact ⟨congrArg Value.bool HQ.out.symm, _, rfl⟩
                  | true =>
                  cases qv with
                  | false =>
                    go_quiet (fail)
                    go_wp2_with fail
                    go_meet
                    exact ⟨congrArg Value.bool HQ.out.symm, _, rfl⟩
                  | true =>
                  cases qf with
                  | false =>
                    go_quiet (fail)
                    go_wp2_with fail
                    go_meet
                    exact ⟨congrArg Value.bool HQ.out.symm, _, rfl⟩
                  | true =>
                  go_quiet (fail)
                  go_wp2_with fail
                  go_meet
                  exact ⟨congrArg Value.bool HQ.out.symm, _, rfl⟩
                case rest =>
                obtain ⟨w10, rfl⟩ : ∃ w10 : World, w10 = wc := ⟨_, rfl⟩
                obtain ⟨rfl, d10, hd10⟩ := hcut
                have B10 : Hid (Below w5.heap.size w5 w10) := by rw [hd10]; exact below_drewN B9.out d10
                clear x0 x1 x2 x3 x4 x5 x6 x7 x8 z0 z1 z2 z3 z4 z5 z6 z7 z8 hd10
                have HN2 := HN2.out
                obtain ⟨q2, hq2⟩ : ∃ q2, eqEv z x = q2 := ⟨_, rfl⟩
                rw [hq2] at HN2 ⊢
                have HN2 := Lib.hid HN2
                clear hq2
                cases q2 with
                | false =>
                  go_wp2_with fail
                  go_roundw
                  case rel =>
                    exact ⟨j + 1, by omega, by go_num, by rw [HN1.out]; simp, by rw [HN2.out]; simp, B10.out⟩
                  case measure => simp [intOf]; omega
                | true =>
                  go_wp2_with fail
                  go_roundw
                  case rel =>
                    exact ⟨j + 1, by omega, by go_num, by rw [HN1.out]; simp, by rw [HN2.out]; simp, B10.out⟩
                  case measure => simp [intOf]; omega
            · have hjk : j = k := by omega
              subst hjk
              have e := HCN.out x
              have tz : ((cntE S x j : Int) != (cntE l x j : Int)) = false := by rw [e]; simp
              clear e
              go_wp2_with fail
              go_roundw
              case rel =>
                exact ⟨m + 1, by omega, by go_num, b8⟩
              case measure => simp [intOf]; omega
        · have hmk : m = k := by omega
          subst hmk
          go_wp2_with fail
          go_ret
          exact ⟨rfl, B5.out.trans (b6.mono B5.out.size)⟩

end Go.Proofs.YtcfgpojogomkhaaGreatDoor

namespace Go.Proofs.YtcfgpojogomkhaaGreatDoor
open Go.RowKit Go.ChangeShapes Go.WideShapes Go.Deep Go.Shelf Go.Sort

/-- What the walk is told of a slice of events. -/
def IsEvs (w : World) (a : Option Addr) (len cap : Nat) (l : List Ev) : Prop :=
  (a = none ∧ len = 0 ∧ cap = 0) ∨ (len = 0 ∧ ∃ x, a = some x) ∨
  (1 ≤ len ∧ ∃ g o, a = some ⟨g, o, none⟩ ∧ g < w.heap.size ∧ l.length = len ∧ Evs w g o l ∧ ∀ x ∈ l, 0 ≤ x.kind ∧ x.kind ≤ 255)

theorem evAt_of {w : World} {g o : Nat} {v : Ev} (h : ∀ j, j < 9 → w.cell? ⟨g, o + j, none⟩ = (encEv v)[j]?) : EvAt w g o v :=
  ⟨h 0 (by omega), h 1 (by omega), h 2 (by omega), h 3 (by omega), h 4 (by omega), h 5 (by omega), h 6 (by omega), h 7 (by omega), h 8 (by omega)⟩
theorem addr_add (g o n : Nat) : (⟨g, o, none⟩ : Addr).add n = ⟨g, o + n, none⟩ := by
  unfold Addr.add
  split
  · rename_i h; subst h; rfl
  · rfl
theorem addr_plain {w : World} {x : Addr} {v : Value} (h : w.cell? x = some v) : x.spot = none := by
  unfold World.cell? at h
  split at h
  · split at h
    · cases h
    · rename_i hs; simpa using hs
  · cases h

theorem open_events {H : Type} {enc : TypeId × Value → H} {w : World} {base : Nat} {spare : Nat → Bool} {held : Bool} {fuel : Nat} {a : Option Addr} {len cap : Nat} {x : DataW H × List MemPlace}
    (h : DataW.trod enc Tryz.prog w base spare held fuel 42 [.slice a len cap] = some x) : ∃ l, IsEvs w a len cap l := by
  rcases open_slice Tryz.underlying42 h with ⟨hcs, _⟩ | ⟨ad, ln, cp, m, n, D, Pl, hcs, _, hl, _, hm, _, hi⟩
  · simp at hcs
    exact ⟨[], .inl hcs⟩
  · simp at hcs
    obtain ⟨rfl, rfl, rfl⟩ := hcs
    by_cases h0 : len = 0
    · exact ⟨[], .inr (.inl ⟨h0, _, rfl⟩)⟩
    · have hlm : len ≤ m := by rw [hm]; split <;> omega
      rw [cellsOfX26] at hi
      have hv : ∀ i, ∃ v : Ev, i < len → (0 ≤ v.kind ∧ v.kind ≤ 255) ∧ ∀ j, j < 9 → w.cell? ((ad.add (i * 9)).add j) = (encEv v)[j]? := fun i => by
        by_cases hil : i < len
        · obtain ⟨cs', hc, ht⟩ := hi i (by omega)
          obtain ⟨v, rfl, hk⟩ := open_event ht
          obtain ⟨_, _, hat⟩ := World.cells?_some hc
          exact ⟨v, fun _ => ⟨hk, hat⟩⟩
        · exact ⟨default, fun h => absurd h hil⟩
      have hl2 : ∀ N, ∃ l : List Ev, l.length = N ∧ ∀ i, i < N → i < len → (0 ≤ (l[i]?.getD default).kind ∧ (l[i]?.getD default).kind ≤ 255) ∧ ∀ j, j < 9 → w.cell? ((ad.add (i * 9)).add j) = (encEv (l[i]?.getD default))[j]? := fun N => by
        induction N with
        | zero => exact ⟨[], rfl, fun i hi => by omega⟩
        | succ N ih =>
          obtain ⟨l, hl, hl2⟩ := ih
          obtain ⟨v, hv⟩ := hv N
          refine ⟨l ++ [v], by simp [hl], fun i hi hil => ?_⟩
          by_cases e : i = N
          · subst e
            rw [List.getElem?_append_right (by omega), hl, Nat.sub_self]
            exact hv hil
          · rw [List.getElem?_append_left (by omega)]
            exact hl2 i (by omega) hil
      obtain ⟨l, hll, hlc⟩ := hl2 len
      have hsp : ad.spot = none := by
        have := (hlc 0 (by omega) (by omega)).2 0 (by omega)
        exact addr_plain (x := (ad.add (0 * 9)).add 0) this
      obtain ⟨g, o, sp⟩ := ad
      subst hsp
      refine ⟨l, .inr (.inr ⟨by omega, g, o, rfl, ?_, hll, fun i hi => evAt_of fun j hj => ?_, fun y hy => ?_⟩)⟩
      · have := (hlc 0 (by omega) (by omega)).2 0 (by omega)
        exact cell_lt (a := (((⟨g, o, none⟩ : Addr).add (0 * 9)).add 0)) this
      · have := (hlc i (by omega) (by omega)).2 j hj
        rwa [addr_add, addr_add] at this
      · obtain ⟨i, hi, rfl⟩ := List.getElem_of_mem hy
        have := (hlc i (by omega) (by omega)).1
        rwa [List.getElem?_eq_getElem hi] at this


theorem sort_empty (a : Option Addr) (c : Nat) (w : World) :
    Calls Tryz.prog 20 #[.slice a 0 c] w fun e w' => ∃ a cap, e = .returned (.tuple #[.slice a 0 cap, .int .i64 0]) ∧ Below w.heap.size w w' := by
  cases a with
  | none => exact sort_nil c w
  | some x => exact sort_zero x c w

set_option maxHeartbeats 1000000 in
set_option maxRecDepth 100000 in
theorem ordered_empty (a : Option Addr) (c : Nat) (w : World) (hE : Env w) : Calls Tryz.prog 8 #[.slice a 0 c] w (BelB w true) := by
  have HA := Lib.hid (alive_ct hE)
  clear hE
  go_enter Tryz.func8, Tryz.ntmps8
  go_wp2_with fail
  refine (HA.out.use (Below.refl _ _)).mono ?_
  rintro e w0 ⟨rfl, b0⟩
  have B0 := Lib.hid b0
  clear b0
  go_wp2_with fail
  refine wp_loop_rounds 1 ?_
  rw [rounds_succ]
  go_wp2_with fail
  refine (sort_empty a c w0).mono ?_
  rintro e w3 ⟨aa, ca, rfl, na⟩
  have B3 := Lib.hid (B0.out.trans (na.mono B0.out.size))
  clear na
  go_wp2_with fail
  refine (sort_empty aa ca w3).mono ?_
  rintro e w4 ⟨ab, cb, rfl, nb⟩
  have B4 := Lib.hid (B3.out.trans (nb.mono B3.out.size))
  clear nb
  go_wp2_with fail
  refine (same_zero aa ab ca cb w4).mono ?_
  rintro e w5 ⟨rfl, rfl⟩
  go_wp2_with fail
  refine wp_loop_rounds 1 ?_
  rw [rounds_succ]
  go_wp2_with fail
  go_ret
  exact ⟨rfl, B4.out⟩

set_option maxHeartbeats 1000000 in
set_option maxRecDepth 100000 in
theorem ordered_long (a : Option Addr) (n c : Nat) (w : World) (hE : Env w) (hn : 100 < n) : Calls Tryz.prog 8 #[.slice a n c] w (BelB w true) := by
  have HA := Lib.hid (alive_ct hE)
  have t1 : decide ((100 : Int) < (n : Int)) = true := by simp; omega
  clear hE
  go_enter Tryz.func8, Tryz.ntmps8
  go_wp2_with fail
  refine (HA.out.use (Below.refl _ _)).mono ?_
  rintro e w0 ⟨rfl, b0⟩
  go_wp2_with fail
  go_ret
  exact ⟨rfl, b0⟩

theorem ordered_any {w : World} (a : Option Addr) (len cap : Nat) (l : List Ev) (h : IsEvs w a len cap l) (W : World) (hw : w = W) (hE : Env W) :
    Calls Tryz.prog 8 #[.slice a len cap] W (BelB W true) := by
  subst hw
  rcases h with ⟨rfl, rfl, rfl⟩ | ⟨rfl, x, rfl⟩ | ⟨h1, g, o, rfl, hg, hl, hV, hk⟩
  · exact ordered_empty _ _ _ hE
  · exact ordered_empty _ _ _ hE
  · by_cases hs : 100 < len
    · exact ordered_long _ _ _ _ hE hs
    · exact ordered_some g o len cap l w hE hl (by omega) h1 hg hV

end Go.Proofs.YtcfgpojogomkhaaGreatDoor
