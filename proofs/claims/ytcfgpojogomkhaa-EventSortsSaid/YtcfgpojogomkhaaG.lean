/-
  The reference's Sort. No condition.
-/
import Derived.Test.YtcfgpojogomkhaaQ
namespace Go.Proofs.Ytcfgpojogomkhaa
open Go.RowKit Go.Shelf Go.Sort

theorem refCmp (p x : Ev) (hp : 0 ≤ p.kind ∧ p.kind ≤ 255) (hx : 0 ≤ x.kind ∧ x.kind ≤ 255) (w : World) :
    Calls Try.prog 12 #[aggEv p, aggEv x] w fun e w' => e = .returned (.int .i64 (cmpEv p x)) ∧ ∃ q os, w' = grow (w.drewN q) os := by
  refine (refCompare_any p.kind p.id p.entry p.target p.date x.kind x.id x.entry x.target x.date p.party p.name p.value x.party x.name x.value p.first x.first w hp.1 hp.2 hx.1 hx.2).mono ?_
  rintro e w' ⟨rfl, o1, o2, o3, rfl⟩
  exact ⟨rfl, 1, #[o1, o2, o3], three_grow w o1 o2 o3⟩

/-- The outer loop. -/
def OutR (w : World) (g n : Nat) (l : List Ev) (i : Value) (wr : World) : Prop :=
  ∃ (k : Nat) (L : List Ev), i = .int .i64 k ∧ 1 ≤ k ∧ k ≤ n ∧ L.Perm l ∧ (L.take k).Pairwise leEv ∧ RowAt wr g 26 (evs L) ∧ Below w.heap.size w wr
/-- The inner loop. -/
def InR (w : World) (g : Nat) (S : List Ev) (x : Ev) (R : List Ev) (jv : Value) (wr : World) : Prop :=
  ∃ j : Nat, jv = .int .i64 j ∧ j ≤ S.length ∧ RowAt wr g 26 (evs (mid S x R j)) ∧ (∀ s ∈ S.drop j, 0 < cmpEv s x) ∧ Below w.heap.size w wr

theorem below_grow {B : Nat} {a w : World} (h : Below B a w) (hB : B ≤ w.heap.size) (n : Nat) (os : Array Obj) : Below B a (grow (w.drewN n) os) := by
  refine ⟨h.os, h.tape, h.output, ?_, fun i hi => ?_⟩
  · rw [size_grow]; exact Nat.le_trans h.size (Nat.le_add_right _ _)
  · show (w.heap ++ os)[i]? = _
    rw [Array.getElem?_append_left (by omega)]; exact h.block i hi
theorem row_grow {w : World} {g : Nat} {t : TypeId} {l : List Value} (h : RowAt w g t l) (n : Nat) (os : Array Obj) : RowAt (grow (w.drewN n) os) g t l :=
  h.of_block (by show (w.heap ++ os)[g]? = _; rw [Array.getElem?_append_left h.lt])

theorem only_setCells {a : World} {g : Nat} (vs : List Value) : ∀ {w : World} (off : Nat), a.grownBy w (some g) → a.grownBy (w.setCells g off vs) (some g) := by
  induction vs with
  | nil => intro w off h; exact h
  | cons v vs ih => intro w off h; exact ih (off + 1) (only_setCell h (.inl rfl) v)
theorem only_setCells2 (w : World) (g o1 o2 : Nat) (xs ps : List Value) : w.grownBy ((w.setCells g o1 xs).setCells g o2 ps).drew (some g) :=
  only_drewN (only_setCells ps o2 (only_setCells xs o1 (only_refl w _))) 1
theorem two_runs (w : World) (g a b : Nat) (x0 x1 x2 x3 x4 x5 x6 x7 x8 p0 p1 p2 p3 p4 p5 p6 p7 p8 : Value) : ((((((((((((((((((w).setCell ⟨g, a, none⟩ x0).setCell ⟨g, a + 1, none⟩ x1).setCell ⟨g, a + 2, none⟩ x2).setCell ⟨g, a + 3, none⟩ x3).setCell ⟨g, a + 4, none⟩ x4).setCell ⟨g, a + 5, none⟩ x5).setCell ⟨g, a + 6, none⟩ x6).setCell ⟨g, a + 7, none⟩ x7).setCell ⟨g, a + 8, none⟩ x8).setCell ⟨g, b, none⟩ p0).setCell ⟨g, b + 1, none⟩ p1).setCell ⟨g, b + 2, none⟩ p2).setCell ⟨g, b + 3, none⟩ p3).setCell ⟨g, b + 4, none⟩ p4).setCell ⟨g, b + 5, none⟩ p5).setCell ⟨g, b + 6, none⟩ p6).setCell ⟨g, b + 7, none⟩ p7).setCell ⟨g, b + 8, none⟩ p8 = (w.setCells g a [x0, x1, x2, x3, x4, x5, x6, x7, x8]).setCells g b [p0, p1, p2, p3, p4, p5, p6, p7, p8] := by
  simp only [World.setCells, Nat.add_assoc]

set_option maxHeartbeats 1000000 in
set_option maxRecDepth 100000 in
theorem refSort_some (g o n c : Nat) (l : List Ev) (w : World) (hl : l.length = n) (hn : n ≤ 1000) (hn1 : 1 ≤ n) (hg : g < w.heap.size) (h : Evs w g o l) (hk : ∀ x ∈ l, 0 ≤ x.kind ∧ x.kind ≤ 255) :
    Calls Try.prog 7 #[.slice (some ⟨g, o, none⟩) n c] w fun e w' => ∃ g' cap, e = .returned (.tuple #[.slice (some ⟨g', 0, none⟩) n cap, .int .i64 0]) ∧ w.heap.size ≤ g' ∧ RowAt w' g' 26 (evs (sortEv l)) ∧ Below w.heap.size w w' := by
  obtain ⟨i0, hi, hz0, hz1, hz2⟩ := info_partsN Try.info26
  have hlit : (w.alloc (.cells #[] 26)).ownsRow w.heap.size 26 9 (.slice (some ⟨w.heap.size, 0, none⟩) 0 0) 0 [] := World.ownsRow_lit w #[] 0 (Nat.le_refl _) (by unfold maxLen; omega) (by simp)
  have HL := Lib.hid hl
  have H := Lib.hid h
  have HK := Lib.hid hk
  clear hl h hk
  have mixed : Try.prog.follows .mixedOrders = true := by kernel_rfl
  go_enter Try.func7, Try.ntmps7
  go_wp2_with (at_builtin; refine wpList_append_own _ rfl (.tmp 10) (.tmp 11) 22 rfl w.heap.size 26 i0 zeroEv 9 96 Try.underlying22 hi hz0 hz1 hz2 rfl (by decide) _ _ _ rfl hlit ⟨g, o, none⟩ n c (evs l) rfl ?c0 ?c1 ?c2 ?c3 ?c4 ?c5 ?_)
  case c0 => rw [evs_length, HL.out]
  case c1 =>
    intro j u hj
    rw [show (⟨g, o, none⟩ : Addr).add j = ⟨g, o + j, none⟩ by simp [Addr.add], World.cell?_alloc_past _ _ _ (by show g < _; omega)]
    exact evs_cell H.out j u hj
  case c2 => exact evs_one l
  case c3 => unfold maxLen; omega
  case c4 => omega
  case c5 => simp
  intro v7 w1 ho hgr _
  have n1 : Below w.heap.size w w1 := ((Below.refl _ _).alloc (Nat.le_refl _) _).grown hgr (by simp) (fun k hk => by simp [Value.ownBlock] at hk; omega)
  have h7 : ∃ g7 c7, v7 = .slice (some ⟨g7, 0, none⟩) n c7 ∧ w.heap.size ≤ g7 ∧ RowAt w1 g7 26 (evs l) := by
    rcases rowAtN_of_owns ho with ⟨_, h, _⟩ | ⟨g, cap, h, h1, h2, h3, h4, h5⟩
    · omega
    · exact ⟨g, cap, h, h1, by simpa using h5⟩
  obtain ⟨g7, c7, rfl, hg7, r7⟩ := h7
  have o0 : OutR w g7 n l (.int .i64 1) w1 := ⟨1, l, rfl, Nat.le_refl _, hn1, List.Perm.refl _, by
    cases l with
    | nil => simp
    | cons x l => simp, r7, n1⟩
  clear ho hgr hlit hi hz0 hz1 hz2 r7 n1
  go_wp2_with fail
  go_loopw [5] (fun i wr => OutR w g7 n l i wr) (fun i _ => n - (intOf i).toNat)
  case atStart => exact o0
  case round =>
    obtain ⟨w2, rfl⟩ : ∃ w2 : World, w2 = wr := ⟨_, rfl⟩
    obtain ⟨k, L, rfl, hk1, hkn, hperm, hsor, rL, bL⟩ := hrel
    have hLn : L.length = n := by rw [hperm.length_eq]; exact HL.out
    by_cases hlt : k < n
    · obtain ⟨S, hS⟩ : ∃ S, S = L.take k := ⟨_, rfl⟩
      obtain ⟨R, hR⟩ : ∃ R, R = L.drop (k + 1) := ⟨_, rfl⟩
      obtain ⟨x, hx⟩ : ∃ x, x = L[k]?.getD default := ⟨_, rfl⟩
      have hSk : S.length = k := by rw [hS]; simp; omega
      have hLe : L = S ++ x :: R := by
        rw [hS, hR, hx, List.getElem?_eq_getElem (by omega)]
        simp
      have hSR : S.length + 1 + R.length = n := by rw [← hLn, hLe]; simp; omega
      have HSS : Hid (S.Pairwise leEv) := by show _; rw [hS]; exact hsor
      have HP : Hid ((S ++ x :: R).Perm l) := by show _; rw [← hLe]; exact hperm
      have HB : Hid (∀ y ∈ S ++ x :: R, 0 ≤ y.kind ∧ y.kind ≤ 255) := by show _; intro y hy; exact HK.out y (HP.out.mem_iff.1 hy)
      have i0 : InR w g7 S x R (.int .i64 (S.length : Int)) w2 := ⟨S.length, rfl, Nat.le_refl _, by rw [mid_full, ← hLe]; exact rL, by simp, bL⟩
      rw [hSk] at i0
      clear hS hR hx rL bL hperm hsor hLe hLn o0
      go_wp2_with fail
      go_loopw [6] (fun i wr => InR w g7 S x R i wr) (fun i _ => (intOf i).toNat)
      case atStart => exact i0
      case round =>
        obtain ⟨w3, rfl⟩ : ∃ w3 : World, w3 = wr := ⟨_, rfl⟩
        obtain ⟨j, rfl, hjS, rj, hgt, bj⟩ := hrel
        have hout : (j = 0 ∨ leEv (S[j - 1]?.getD default) x) → ∀ (q : Nat) (os : Array Obj), OutR w g7 n l (.int .i64 ((S.length : Int) + 1)) (grow (w3.drewN q) os) := fun hle q os =>
          ⟨S.length + 1, mid S x R j, by simp, by omega, by omega, (mid_perm S x R j).trans HP.out, mid_sorted S x R j hjS HSS.out hgt hle, row_grow rj q os, below_grow bj bj.size q os⟩
        rw [hSk] at hout
        have HOUT := Lib.hid hout
        clear hout
        by_cases hj0 : j = 0
        · subst hj0
          go_wp2_with fail
          go_quiet (fail)
          go_wp2_with fail
          go_roundw
          case rel => have := HOUT.out (Or.inl trivial) nq #[]; rwa [grow_empty] at this
          case measure => simp [intOf]; omega
        · obtain ⟨jp, rfl⟩ : ∃ jp, j = jp + 1 := ⟨j - 1, by omega⟩
          obtain ⟨p, hp⟩ : ∃ p, p = S[jp]?.getD default := ⟨_, rfl⟩
          have hxc : ∀ q os, EvAt (grow (w3.drewN q) os) g7 ((jp + 1) * 9) x := fun q os => by
            have := evs_of_row (row_grow rj q os) (jp + 1) (by rw [mid_length _ _ _ _ hjS]; omega)
            rwa [mid_at _ _ _ _ hjS, Nat.zero_add] at this
          have hpc : ∀ q os, EvAt (grow (w3.drewN q) os) g7 (jp * 9) p := fun q os => by
            have := evs_of_row (row_grow rj q os) jp (by rw [mid_length _ _ _ _ hjS]; omega)
            rwa [mid_before _ _ _ _ (by omega), ← hp, Nat.zero_add] at this
          have hcg : ∀ q os, Calls Try.prog 12 #[(.agg #[.int .u8 p.kind, .int .i64 p.id, .int .i64 p.entry, .int .i64 p.target, .int .i64 p.date, .string p.party, .string p.name, .string p.value, .bool p.first]), (.agg #[.int .u8 x.kind, .int .i64 x.id, .int .i64 x.entry, .int .i64 x.target, .int .i64 x.date, .string x.party, .string x.name, .string x.value, .bool x.first])] (grow (w3.drewN q) os) fun e w' => e = .returned (.int .i64 (cmpEv p x)) ∧ ∃ q' os', w' = grow ((grow (w3.drewN q) os).drewN q') os' := fun q os =>
            refCmp p x (HB.out p (by rw [hp, List.getElem?_eq_getElem (by omega)]; simp)) (HB.out x (by simp)) _
          have a0 := fun q os => (hxc q os).1
          have a1 := fun q os => (hxc q os).2.1
          have a2 := fun q os => (hxc q os).2.2.1
          have a3 := fun q os => (hxc q os).2.2.2.1
          have a4 := fun q os => (hxc q os).2.2.2.2.1
          have a5 := fun q os => (hxc q os).2.2.2.2.2.1
          have a6 := fun q os => (hxc q os).2.2.2.2.2.2.1
          have a7 := fun q os => (hxc q os).2.2.2.2.2.2.2.1
          have a8 := fun q os => (hxc q os).2.2.2.2.2.2.2.2
          have b0 := fun q os => (hpc q os).1
          have b1 := fun q os => (hpc q os).2.1
          have b2 := fun q os => (hpc q os).2.2.1
          have b3 := fun q os => (hpc q os).2.2.2.1
          have b4 := fun q os => (hpc q os).2.2.2.2.1
          have b5 := fun q os => (hpc q os).2.2.2.2.2.1
          have b6 := fun q os => (hpc q os).2.2.2.2.2.2.1
          have b7 := fun q os => (hpc q os).2.2.2.2.2.2.2.1
          have b8 := fun q os => (hpc q os).2.2.2.2.2.2.2.2
          have HPP := Lib.hid hp
          clear hxc hpc hp
          have hwp : IntKind.i64.wrap (jp : Int) = (jp : Int) := by rw [IntKind.wrap_i64]; omega
          have jz : (jp : Int) + 1 < (n : Int) := by omega
          have jz1 : (jp : Int) < (n : Int) := by omega
          have p0 : (0 : Int) ≤ (jp : Int) + 1 := by omega
          have e0 : ((jp : Int) + 1).toNat = jp + 1 := by omega
          have HJ := Lib.hid rj
          have HG := Lib.hid hgt
          have HBJ := Lib.hid bj
          clear rj hgt bj
          by_cases hlv : 0 < cmpEv p x
          · go_wp2_with fail
            go_quiet_grown ((go_at_call 12; exact Calls.grown_of (hcg _ _)))
            clear hcg
            have c0 := a0 nq osq
            have c1 := a1 nq osq
            have c2 := a2 nq osq
            have c3 := a3 nq osq
            have c4 := a4 nq osq
            have c5 := a5 nq osq
            have c6 := a6 nq osq
            have c7' := a7 nq osq
            have c8 := a8 nq osq
            have d0 := b0 nq osq
            have d1 := b1 nq osq
            have d2 := b2 nq osq
            have d3 := b3 nq osq
            have d4 := b4 nq osq
            have d5 := b5 nq osq
            have d6 := b6 nq osq
            have d7 := b7 nq osq
            have d8 := b8 nq osq
            clear a0 a1 a2 a3 a4 a5 a6 a7 a8 b0 b1 b2 b3 b4 b5 b6 b7 b8
            have rj4 := row_grow HJ.out nq osq
            have bj4 := below_grow HBJ.out HBJ.out.size nq osq
            generalize grow (w3.drewN nq) osq = w4 at *
            have fz : ∀ i, w4.frozen? ⟨g7, i, none⟩ = false := fun i => rj4.frozen i
            have RJ4 := Lib.hid rj4
            have BJ4 := Lib.hid bj4
            clear rj4 bj4
            go_wp2_with fail
            go_region
            all_goals go_wp2_with fail
            go_roundw
            case measure => simp [intOf]
            case rel =>
              rw [two_runs]
              refine ⟨jp, rfl, by omega, ?_, mid_drop S x jp (by omega) HG.out (by rw [← HPP.out]; exact hlv), below_only BJ4.out (only_setCells2 w4 g7 (jp * 9) ((jp + 1) * 9) (encEv x) (encEv p)) BJ4.out.size hg7⟩
              have r1 := rowAt_put RJ4.out jp (by rw [mid_length _ _ _ _ hjS]; omega) x
              have r2 := rowAt_put r1 (jp + 1) (by rw [List.length_set, mid_length _ _ _ _ hjS]; omega) p
              rw [HPP.out, mid_swap S x R jp (by omega), ← HPP.out] at r2
              exact RowAt.drew r2
          · go_wp2_with fail
            go_quiet_grown ((go_at_call 12; exact Calls.grown_of (hcg _ _)))
            go_wp2_with fail
            go_roundw
            case rel => exact HOUT.out (Or.inr (by unfold leEv; rw [Nat.add_sub_cancel, ← HPP.out]; omega)) nq osq
            case measure => simp [intOf]; omega
    · have hk : k = n := by omega
      subst hk
      have e := sorted_is l L hperm (by rw [List.take_of_length_le (by omega)] at hsor; exact hsor)
      subst e
      go_wp2_with fail
      go_ret2
      exact ⟨g7, c7, rfl, hg7, rL, bL⟩

end Go.Proofs.Ytcfgpojogomkhaa
