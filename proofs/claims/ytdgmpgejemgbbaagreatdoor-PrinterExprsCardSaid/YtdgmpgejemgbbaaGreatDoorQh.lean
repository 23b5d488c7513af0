/-
  The program's sorted, walked. No condition but the size. Both Check of an expression, walked. No condition but the size.
-/
import Derived.Test.YtdgmpgejemgbbaaGreatDoorQg
import Derived.Deep.RegionHeld3
import Derived.Test.YtdgmpgejemgbbaaGreatDoorQc
import Derived.Test.YtdgmpgejemgbbaaGreatDoorQd
import Derived.Test.YtdgmpgejemgbbaaGreatDoorQe
import Derived.Test.YtdgmpgejemgbbaaGreatDoorQf
namespace Go.Proofs.YtdgmpgejemgbbaaGreatDoor
open Go.RowKit

def PsC (n : Nat) (Wg : World) : Prop := ∀ (x : Ex) (cs : List Value) (w : World), ExAt n w cs x → KOk n x → x.size ≤ 1000 → (∃ dd, SmX dd x) → Below Wg.heap.size Wg w →
  Calls Tryz.prog 24 #[.agg cs.toArray] w (U8P w (srtP x.kind x.rat x.name x.date (x.sub.map Ex.srt)))
theorem lfV_is {k : Int} {r n : ByteArray} {d : Int} {l : List Ex} {len : Nat} (hs : shpL k = none) (hl : l.length = len) : lfV k r n d len = srtP k r n d (l.map Ex.srt) := by
  unfold lfV
  split
  · rename_i h
    have : l = [] := List.eq_nil_of_length_eq_zero (by omega)
    subst this
    exact (srt_leaf hs rfl).symm
  · rename_i h
    exact (srt_leaf_no hs (by intro e; rw [List.map_eq_nil_iff] at e; rw [e] at hl; exact h hl.symm)).symm

set_option maxHeartbeats 2000000 in
set_option maxRecDepth 100000 in
theorem psort_leaf (kd : Int) (r nm : ByteArray) (d : Int) (a : Option Addr) (len cap : Nat) (l : List Ex) (w Wg : World) (hk0 : 0 ≤ kd) (hk1 : kd ≤ 255) (hs : shpL kd = none) (hr : r.size ≤ 2500) (hl : l.length = len) (hg : ShpAt Wg) (hb : Below Wg.heap.size Wg w) :
    Calls Tryz.prog 24 #[.agg #[.int .u8 kd, .string r, .string nm, .int .i64 d, .slice a len cap]] w (U8P w (srtP kd r nm d (l.map Ex.srt))) := by
  rw [← lfV_is hs hl]
  obtain ⟨W0, hW0⟩ : ∃ W0, W0 = w.alloc (.cells #[.int .u8 kd, .string r, .string nm, .int .i64 d, .slice a len cap] 25) := ⟨_, rfl⟩
  have hB0 : Below w.heap.size w W0 := by rw [hW0]; exact own_below w _
  have hbx : W0.heap[w.heap.size]? = some (.cells #[.int .u8 kd, .string r, .string nm, .int .i64 d, .slice a len cap] 25) := by rw [hW0]; exact heap_alloc_new w _
  have hbg : Below Wg.heap.size Wg W0 := hb.trans (hB0.mono hb.size)
  obtain ⟨bm, hc, hkk⟩ := hg
  have hlook := (hkk kd hk0 hk1).1 hs W0 hbg
  have hgc : W0.cell? ⟨0, 0, none⟩ = some (.map (some bm)) := ((bcell hbg).1 _ _ (cell_lt (a := ⟨_, 0, none⟩) hc)).trans hc
  have HLF : Hid (∀ W, Calls Tryz.prog 40 #[.agg #[.int .u8 kd, .string r, .string nm, .int .i64 d, .slice a len cap]] W (U8P W (lfV kd r nm d len))) := fun W => leaf_any kd r nm d a len cap W hr
  obtain ⟨R, hR⟩ : ∃ R, R = lfV kd r nm d len := ⟨_, rfl⟩
  rw [← hR] at HLF ⊢
  obtain ⟨c0, c1, c2, c3, c4⟩ := exCells hbx
  have hz : w.heap.size < W0.heap.size := (Array.getElem?_eq_some_iff.1 hbx).1
  have HW0 := Lib.hid hW0
  have HB0 := Lib.hid hB0
  clear hR hW0 hB0 hbx hbg hc hkk hs hl hr hb hk0 hk1
  go_enter Tryz.func24, Tryz.ntmps24
  go_upto_region 1 with (fail)
  rw [← HW0.out]
  clear HW0
  go_wp2_with fail
  refine (HLF.out _).mono ?_
  rintro e w2 ⟨rfl, hb2⟩
  have HB2 := Lib.hid (((HB0.out.alloc HB0.out.size (.cells #[.slice none 0 0, .int .u8 0] 68))).trans (hb2.mono (by have := HB0.out.size; rw [World.size_alloc]; omega)))
  clear hb2
  go_wp2_with fail
  go_ret
  exact ⟨rfl, HB2.out⟩

theorem ine_false {a b : Int} (h : a = b) : (a != b) = false := by simpa using h
theorem ine_true {a b : Int} (h : a ≠ b) : (a != b) = true := by simpa using h
/-- The parts that are right so far. -/
def PsR (W2 : World) (l : List Ex) (ps : List Int) (len : Nat) (iv : Value) (wr : World) : Prop :=
  ∃ k : Nat, k ≤ len ∧ iv = .int .i64 (k : Int) ∧ Hid (∀ i, i < k → ((l.map Ex.srt)[i]?.getD 0) = (ps[i]?.getD 0)) ∧ Below W2.heap.size W2 wr
theorem list_ext_getD {l ps : List Int} (hl : l.length = ps.length) (h : ∀ i, i < l.length → l[i]?.getD 0 = ps[i]?.getD 0) : l = ps := by
  apply List.ext_getElem hl
  intro i h1 h2
  have := h i h1
  rwa [List.getElem?_eq_getElem h1, List.getElem?_eq_getElem h2] at this

set_option maxHeartbeats 4000000 in
set_option maxRecDepth 100000 in
theorem psort_parts {n : Nat} {Wg : World} (ih : PsC n Wg) (kd : Int) (r nm : ByteArray) (d : Int) (a : Option Addr) (len cap : Nat) (l : List Ex) (ps : List Int) (own : Int) (w : World) (hk0 : 0 ≤ kd) (hk1 : kd ≤ 255) (hs : shpL kd = some (ps, own)) (hl : l.length = len) (hlb : len ≤ 1000) (hg : ShpAt Wg) (hb : Below Wg.heap.size Wg w)
    (hko : ∀ y ∈ l, KOk n y) (hzy : ∀ y ∈ l, y.size ≤ 1000) (hse : ∀ y ∈ l, ∃ dd, SmX dd y)
    (hat : len = 0 ∨ ∃ g o, a = some ⟨g, o, none⟩ ∧ g < w.heap.size ∧ ∀ i (hi : i < l.length), ∃ cs', (∀ j, j < 5 → w.cell? ⟨g, o + i * 5 + j, none⟩ = cs'[j]?) ∧ ExAt n w cs' l[i]) :
    Calls Tryz.prog 24 #[.agg #[.int .u8 kd, .string r, .string nm, .int .i64 d, .slice a len cap]] w (U8P w (srtP kd r nm d (l.map Ex.srt))) := by
  obtain ⟨W0, hW0⟩ : ∃ W0, W0 = w.alloc (.cells #[.int .u8 kd, .string r, .string nm, .int .i64 d, .slice a len cap] 25) := ⟨_, rfl⟩
  have hB0 : Below w.heap.size w W0 := by rw [hW0]; exact own_below w _
  have hbx : W0.heap[w.heap.size]? = some (.cells #[.int .u8 kd, .string r, .string nm, .int .i64 d, .slice a len cap] 25) := by rw [hW0]; exact heap_alloc_new w _
  have hbg : Below Wg.heap.size Wg W0 := hb.trans (hB0.mono hb.size)
  obtain ⟨bm, hc, hkk⟩ := hg
  obtain ⟨gs, os, cs, hgs, hlook', hcells⟩ := (hkk kd hk0 hk1).2 ps own hs
  have hlook := hlook' W0 hbg
  have hgc : W0.cell? ⟨0, 0, none⟩ = some (.map (some bm)) := ((bcell hbg).1 _ _ (cell_lt (a := ⟨_, 0, none⟩) hc)).trans hc
  have HPC : Hid (∀ W, Below Wg.heap.size Wg W → ∀ i, i < ps.length → W.cell? ⟨gs, os + i, none⟩ = some (.int .u8 (ps[i]?.getD 0))) := fun W hW i hi => ((bcell hW).1 _ _ hgs).trans (hcells i hi)
  obtain ⟨m, hm⟩ : ∃ m, m = ps.length := ⟨_, rfl⟩
  rw [← hm] at hlook HPC
  have hm3 : m ≤ 3 := by rw [hm]; exact (shpL_pos hs).2
  obtain ⟨bl, ql⟩ : ∃ b, ((len : Int) != (m : Int)) = b := ⟨_, rfl⟩
  obtain ⟨br, qr⟩ : ∃ b, r.toList.isEmpty = b := ⟨_, rfl⟩
  obtain ⟨bn, qn⟩ : ∃ b, nm.toList.isEmpty = b := ⟨_, rfl⟩
  obtain ⟨bd, qd⟩ : ∃ b, ((d : Int) != 0) = b := ⟨_, rfl⟩
  have HQL : Hid (bl = false ↔ len = m) := by show bl = false ↔ _; rw [← ql]; simp; omega
  have HQB : Hid (bareB r nm d = (br && bn && !bd)) := by
    show bareB r nm d = _
    unfold bareB
    rw [← qr, ← qn, ← qd, toList_data, toList_data, bne, Bool.not_not]
  obtain ⟨R, hR⟩ : ∃ R, R = srtP kd r nm d (l.map Ex.srt) := ⟨_, rfl⟩
  rw [← hR]
  have HRR := Lib.hid hR
  have HSH := Lib.hid hs
  obtain ⟨c0, c1, c2, c3, c4⟩ := exCells hbx
  have hz : w.heap.size < W0.heap.size := (Array.getElem?_eq_some_iff.1 hbx).1
  have HW0 := Lib.hid hW0
  have HB0 := Lib.hid hB0
  have HBG := Lib.hid hbg
  have HBX := Lib.hid hbx
  have HM := Lib.hid hm
  have HL := Lib.hid hl
  have HI := Lib.hid ih
  have HKO := Lib.hid hko
  have HZY := Lib.hid hzy
  have HSE := Lib.hid hse
  have HAT := Lib.hid hat
  obtain ⟨W1, hW1⟩ : ∃ W1, W1 = W0.alloc (.cells #[.slice (some ⟨gs, os, none⟩) m cs, .int .u8 own] 68) := ⟨_, rfl⟩
  have hB1 : Below w.heap.size w W1 := by rw [hW1]; exact hB0.alloc hB0.size _
  have hsb : W1.heap[W0.heap.size]? = some (.cells #[.slice (some ⟨gs, os, none⟩) m cs, .int .u8 own] 68) := by rw [hW1]; exact heap_alloc_new W0 _
  have hbx1 : W1.heap[w.heap.size]? = some (.cells #[.int .u8 kd, .string r, .string nm, .int .i64 d, .slice a len cap] 25) := by rw [hW1]; exact (Below.heap_alloc W0 _ _ hz).trans hbx
  have HB1 := Lib.hid hB1
  have HSB := Lib.hid hsb
  have HBX1 := Lib.hid hbx1
  have HG1 : Hid (Below Wg.heap.size Wg W1) := hb.trans (hB1.mono hb.size)
  have HW1 := Lib.hid hW1
  have hz1 : W0.heap.size < W1.heap.size := (Array.getElem?_eq_some_iff.1 hsb).1
  clear hR hW0 hB0 hbx hbg hc hkk hs hl hb hk0 hk1 hlook' hcells hm ih hko hzy hse hat hB1 hsb hbx1 hgs hW1
  go_enter Tryz.func24, Tryz.ntmps24
  go_upto_region 1 with (fail)
  rw [← HW0.out]
  clear HW0
  go_upto_region 2 with (fail)
  rw [← HW1.out]
  clear HW1 c0 c1 c2 c3 c4
  obtain ⟨c0, c1, c2, c3, c4⟩ := exCells HBX1.out
  have s0 : W1.cell? ⟨W0.heap.size, 0, none⟩ = some (.slice (some ⟨gs, os, none⟩) m cs) := exCell HSB.out 0
  have s1 : W1.cell? ⟨W0.heap.size, 1, none⟩ = some (.int .u8 own) := exCell HSB.out 1
  cases bl with
  | true =>
    have e : R = 0 := by
      rw [HRR.out]
      exact srt_ne HSH.out (list_len_ne (by
        rw [List.length_map, HL.out, ← HM.out]
        intro h; have := HQL.out.2 h; cases this))
    have E := Lib.hid e
    clear e
    go_wp2_with fail
    go_ret
    exact ⟨by rw [E.out]; rfl, HB1.out⟩
  | false =>
  cases br with
  | false =>
    have e : R = 0 := by rw [HRR.out]; exact srt_bare HSH.out (by rw [HQB.out]; rfl)
    have E := Lib.hid e
    clear e
    go_wp2_with fail
    go_ret
    exact ⟨by rw [E.out]; rfl, HB1.out⟩
  | true =>
  cases bn with
  | false =>
    have e : R = 0 := by rw [HRR.out]; exact srt_bare HSH.out (by rw [HQB.out]; rfl)
    have E := Lib.hid e
    clear e
    go_wp2_with fail
    go_ret
    exact ⟨by rw [E.out]; rfl, HB1.out⟩
  | true =>
  cases bd with
  | true =>
    have e : R = 0 := by rw [HRR.out]; exact srt_bare HSH.out (by rw [HQB.out]; rfl)
    have E := Lib.hid e
    clear e
    go_wp2_with fail
    go_ret
    exact ⟨by rw [E.out]; rfl, HB1.out⟩
  | false =>
  have hlm : len = m := HQL.out.1 rfl
  have HBA : Hid (bareB r nm d = true) := by show _ = true; rw [HQB.out]; rfl
  have HLM := Lib.hid hlm
  clear hlm
  go_wp2_with fail
  go_loopw [5, 6, 43] (fun _ _ iv wr => PsR W1 l ps len iv wr) (fun _ _ iv _ => len - (intOf iv).toNat)
  case atStart => exact ⟨0, Nat.zero_le _, rfl, Lib.hid (fun i h => absurd h (Nat.not_lt_zero _)), Below.refl _ _⟩
  case round =>
    obtain ⟨w1, rfl⟩ : ∃ w1 : World, w1 = wr := ⟨_, rfl⟩
    obtain ⟨k, hk, rfl, HK, hb⟩ := hrel
    have HB := Lib.hid hb
    have HBW := Lib.hid (HB1.out.trans (hb.mono HB1.out.size))
    have hs0 : w1.cell? ⟨W0.heap.size, 0, none⟩ = some (.slice (some ⟨gs, os, none⟩) m cs) := ((bcell hb).1 _ _ hz1).trans s0
    have hs1 : w1.cell? ⟨W0.heap.size, 1, none⟩ = some (.int .u8 own) := ((bcell hb).1 _ _ hz1).trans s1
    clear hb c0 c1 c2 c3 c4 s0 s1
    by_cases hlt : k < len
    · have hlt2 : k < l.length := by rw [HL.out]; exact hlt
      rcases HAT.out with h0 | ⟨g, o, ha, hg, hel⟩
      · omega
      · subst ha
        obtain ⟨p1, l1, cc, ⟨e0, e1, e2, e3, e4⟩, hx1⟩ := ExAt.elem (x := Ex.mk 0 ByteArray.empty ByteArray.empty 0 l) hg HBW.out hlt2 hel
        have hym : l[k] ∈ l := List.getElem_mem _
        simp only [Ex.sub] at e0 e1 e2 e3 hx1
        have hsk : (l.map Ex.srt)[k]?.getD 0 = l[k].srt := by rw [List.getElem?_map, List.getElem?_eq_getElem hlt2]; rfl
        obtain ⟨y, hy⟩ : ∃ y, y = l[k] := ⟨_, rfl⟩
        rw [← hy] at e0 e1 e2 e3 hx1 hym hsk
        obtain ⟨V, hV⟩ : ∃ V, V = w1.alloc (.cells #[.int .u8 y.kind, .string y.rat, .string y.name, .int .i64 y.date, .slice p1 l1 cc] 25) := ⟨_, rfl⟩
        have hbv : V.heap[w1.heap.size]? = some (.cells #[.int .u8 y.kind, .string y.rat, .string y.name, .int .i64 y.date, .slice p1 l1 cc] 25) := by rw [hV]; exact heap_alloc_new w1 _
        have hBV : Below w1.heap.size w1 V := by rw [hV]; exact own_below w1 _
        have hz0 : W0.heap.size < w1.heap.size := Nat.lt_of_lt_of_le hz1 HB.out.size
        have hgv : Below Wg.heap.size Wg V := HG1.out.trans ((HB.out.trans (hBV.mono HB.out.size)).mono HG1.out.size)
        obtain ⟨p, hp⟩ : ∃ p, p = ps[k]?.getD 0 := ⟨_, rfl⟩
        have hkm : k < m := by rw [← HLM.out]; exact hlt
        have SBf : ∀ W, Below V.heap.size V W → W.cell? ⟨w1.heap.size, 0, none⟩ = some (.int .u8 y.kind) ∧ W.cell? ⟨w1.heap.size, 1, none⟩ = some (.string y.rat) ∧ W.cell? ⟨w1.heap.size, 2, none⟩ = some (.string y.name) ∧ W.cell? ⟨w1.heap.size, 3, none⟩ = some (.int .i64 y.date) ∧ W.cell? ⟨w1.heap.size, 4, none⟩ = some (.slice p1 l1 cc) ∧
            W.cell? ⟨W0.heap.size, 0, none⟩ = some (.slice (some ⟨gs, os, none⟩) m cs) ∧ W.cell? ⟨gs, os + k, none⟩ = some (.int .u8 p) := fun W hW => by
          obtain ⟨q0, q1, q2, q3, q4⟩ := exCells ((hW.block _ (Array.getElem?_eq_some_iff.1 hbv).1).trans hbv)
          have hVW : Below w1.heap.size w1 W := hBV.trans (hW.mono hBV.size)
          exact ⟨q0, q1, q2, q3, q4, ((bcell hVW).1 _ _ hz0).trans hs0, by rw [hp]; exact HPC.out W (hgv.trans (hW.mono hgv.size)) k hkm⟩
        have hcall : ∀ W, Below V.heap.size V W → Calls Tryz.prog 24 #[.agg #[.int .u8 y.kind, .string y.rat, .string y.name, .int .i64 y.date, .slice p1 l1 cc]] W (U8P W y.srt) := fun W hW => by
          have hVW : Below w1.heap.size w1 W := hBV.trans (hW.mono hBV.size)
          have := HI.out y _ W (ExAt.below hVW hx1) (HKO.out y hym) (HZY.out y hym) (HSE.out y hym) (hgv.trans (hW.mono hgv.size))
          rwa [← Ex.srt_is] at this
        obtain ⟨s, hs⟩ : ∃ s, s = y.srt := ⟨_, rfl⟩
        rw [← hs] at hcall hsk
        have HSF := Lib.hid SBf
        have HCL := Lib.hid hcall
        have HSK := Lib.hid hsk
        have HP := Lib.hid hp
        have HV := Lib.hid hV
        have HBV := Lib.hid hBV
        have HC0 : Hid (Below V.heap.size V V) := Below.refl _ V
        have HC : Hid (Below V.heap.size V V.drew) := (Below.refl _ V).drew
        have hi0 : (0 : Int) ≤ (k : Int) := by omega
        have hi1 : (k : Int) < (m : Int) := by omega
        by_cases hsp : s = p
        · have qsp : ((s : Int) != (p : Int)) = false := ine_false hsp
          have HSP := Lib.hid hsp
          clear hel hx1 hym hy hbv hBV hgv SBf hcall hsk hs hp hV hsp hs0 hs1
          go_upto_region 9 with (fail)
          rw [← HV.out]
          clear HV e0 e1 e2 e3 e4
          obtain ⟨q0, q1, q2, q3, q4, q5, q6⟩ := HSF.out V HC0.out
          go_region_held3 (fun W => W.cell? ⟨w1.heap.size, 0, none⟩ = some (.int .u8 y.kind) ∧ W.cell? ⟨w1.heap.size, 1, none⟩ = some (.string y.rat) ∧ W.cell? ⟨w1.heap.size, 2, none⟩ = some (.string y.name) ∧ W.cell? ⟨w1.heap.size, 3, none⟩ = some (.int .i64 y.date) ∧ W.cell? ⟨w1.heap.size, 4, none⟩ = some (.slice p1 l1 cc) ∧
            W.cell? ⟨W0.heap.size, 0, none⟩ = some (.slice (some ⟨gs, os, none⟩) m cs) ∧ W.cell? ⟨gs, os + k, none⟩ = some (.int .u8 p))
            ((first | with_reducible exact HSF.out _ HC.out | with_reducible exact HSF.out _ HC0.out))
            ((go_at_call 24; refine (HCL.out _ HC.out).mono ?_; rintro e u ⟨rfl, hb⟩; have HC := Lib.hid (HC.out.trans (hb.mono HC.out.size)); clear hb))
          have HNX := Lib.hid ((HB.out.trans (HBV.out.mono HB.out.size)).trans (HC.out.mono (Nat.le_trans HB.out.size HBV.out.size)))
          clear q0 q1 q2 q3 q4 q5 q6
          go_wp2_with fail
          go_roundw
          case rel => exact ⟨k + 1, by omega, by go_num, Lib.hid (fun i hi => by
            rcases Nat.lt_or_ge i k with h | h
            · exact HK.out i h
            · obtain rfl : i = k := by omega
              rw [HSK.out, ← HP.out]; exact HSP.out), HNX.out⟩
          case measure => simp [intOf] <;> omega
        · have qsp : ((s : Int) != (p : Int)) = true := ine_true hsp
          have e : R = 0 := by
            rw [HRR.out]
            exact srt_ne HSH.out (list_at_ne (i := k) (by rw [HSK.out, ← HP.out]; exact hsp))
          have E := Lib.hid e
          clear hel hx1 hym hy hbv hBV hgv SBf hcall hsk hs hp hV hsp hs0 hs1 e
          go_upto_region 9 with (fail)
          rw [← HV.out]
          clear HV e0 e1 e2 e3 e4
          obtain ⟨q0, q1, q2, q3, q4, q5, q6⟩ := HSF.out V HC0.out
          go_region_held3 (fun W => W.cell? ⟨w1.heap.size, 0, none⟩ = some (.int .u8 y.kind) ∧ W.cell? ⟨w1.heap.size, 1, none⟩ = some (.string y.rat) ∧ W.cell? ⟨w1.heap.size, 2, none⟩ = some (.string y.name) ∧ W.cell? ⟨w1.heap.size, 3, none⟩ = some (.int .i64 y.date) ∧ W.cell? ⟨w1.heap.size, 4, none⟩ = some (.slice p1 l1 cc) ∧
            W.cell? ⟨W0.heap.size, 0, none⟩ = some (.slice (some ⟨gs, os, none⟩) m cs) ∧ W.cell? ⟨gs, os + k, none⟩ = some (.int .u8 p))
            ((first | with_reducible exact HSF.out _ HC.out | with_reducible exact HSF.out _ HC0.out))
            ((go_at_call 24; refine (HCL.out _ HC.out).mono ?_; rintro e u ⟨rfl, hb⟩; have HC := Lib.hid (HC.out.trans (hb.mono HC.out.size)); clear hb))
          have HNX := Lib.hid (HB1.out.trans (((HB.out.trans (HBV.out.mono HB.out.size)).trans (HC.out.mono (Nat.le_trans HB.out.size HBV.out.size))).mono HB1.out.size))
          clear q0 q1 q2 q3 q4 q5 q6
          go_wp2_with fail
          go_ret
          exact ⟨by rw [E.out]; rfl, HNX.out⟩
    · have e : R = own := by
        rw [HRR.out]
        refine srt_yes HSH.out HBA.out (list_ext_getD (by rw [List.length_map, HL.out, HLM.out, HM.out]) (fun i hi => HK.out i ?_))
        rw [List.length_map, HL.out] at hi; omega
      have E := Lib.hid e
      clear e
      go_wp2_with fail
      go_ret
      exact ⟨by rw [E.out]; rfl, HBW.out⟩

theorem psort_any {Wg : World} (hg : ShpAt Wg) : ∀ n, PsC n Wg := by
  intro n
  induction n with
  | zero => intro x cs w h; exact h.elim
  | succ n ih =>
    intro x cs w h hk hz hsm hb
    obtain ⟨hkr, hko⟩ := hk
    obtain ⟨k, r, nm, d, l⟩ := x
    have hsl := (Ex.mk k r nm d l).sub_len
    obtain ⟨a, len, cap, rfl, hlen, hat⟩ := h
    obtain ⟨hrz, hse⟩ := sm_parts hsm
    cases hs : shpL k with
    | none => exact psort_leaf k r nm d a len cap l w Wg hkr.1 hkr.2 hs hrz.1 hlen hg hb
    | some q =>
      obtain ⟨ps, own⟩ := q
      exact psort_parts ih k r nm d a len cap l ps own w hkr.1 hkr.2 hs hlen (by omega) hg hb hko (fun y hy => by have := Ex.sub_size (x := Ex.mk k r nm d l) hy; omega) hse hat

end Go.Proofs.YtdgmpgejemgbbaaGreatDoor

namespace Go.Proofs.YtdgmpgejemgbbaaGreatDoor
open Go.RowKit

theorem rsort_any : ∀ n, RsC n := by
  intro n
  induction n with
  | zero => intro x cs w h; exact h.elim
  | succ n ih =>
    intro x cs w h hz hsm
    obtain ⟨k, r, nm, d, l⟩ := x
    show Calls Tryz.prog 32 #[.agg cs.toArray] w (IntP w (srtP k r nm d (l.map Ex.srt)))
    by_cases h1 : k = 1
    · subst h1; exact rsort_1 ih r nm d l cs w h hz hsm
    by_cases h2 : k = 2
    · subst h2; exact rsort_2 ih r nm d l cs w h hz hsm
    by_cases h3 : k = 3
    · subst h3; exact rsort_3 ih r nm d l cs w h hz hsm
    by_cases h4 : k < 4
    · exact rsort_lo ih k h4 h1 h2 h3 r nm d l cs w h hz hsm
    by_cases h8 : k ≤ 8
    · exact rsort_r ih k (by omega) h8 r nm d l cs w h hz hsm
    by_cases h9 : k = 9
    · subst h9; exact rsort_9 ih r nm d l cs w h hz hsm
    by_cases h11 : k = 11
    · subst h11; exact rsort_11 ih r nm d l cs w h hz hsm
    by_cases h12 : k = 12
    · subst h12; exact rsort_12 ih r nm d l cs w h hz hsm
    by_cases h13 : k = 13
    · subst h13; exact rsort_13 ih r nm d l cs w h hz hsm
    by_cases h14 : k = 14
    · subst h14; exact rsort_14 ih r nm d l cs w h hz hsm
    by_cases h15 : k = 15
    · subst h15; exact rsort_15 ih r nm d l cs w h hz hsm
    exact rsort_hi ih k (by omega) r nm d l cs w h hz hsm

/-- What Check answers. -/
def chkX (x : Ex) : Int := if 500 < x.size ∨ 60 < x.depth then 4 else if x.srt = 0 then 8 else 0
/-- What stands in memory where an expression is looked at. -/
structure ExIn (n : Nat) (x : Ex) (cs : List Value) (w Wg : World) : Prop where
  at_ : ExAt n w cs x
  kok : KOk n x
  size : x.size ≤ 1000
  small : SmX 80 x
  shp : ShpAt Wg
  old : Below Wg.heap.size Wg w
theorem ExIn.below {n : Nat} {x : Ex} {cs : List Value} {w w' Wg : World} (h : ExIn n x cs w Wg) (hb : Below w.heap.size w w') : ExIn n x cs w' Wg :=
  ⟨ExAt.below hb h.at_, h.kok, h.size, h.small, h.shp, h.old.trans (hb.mono h.old.size)⟩

set_option maxHeartbeats 2000000 in
set_option maxRecDepth 100000 in
theorem rchkx_any (n : Nat) (x : Ex) (cs : List Value) (w Wg : World) (h : ExIn n x cs w Wg) : Calls Tryz.prog 16 #[.agg cs.toArray] w (IntP w (chkX x)) := by
  have hsh := h.at_.shape
  obtain ⟨a, len, cap, rfl, _⟩ := hsh
  obtain ⟨W0, hW0⟩ : ∃ W0, W0 = w.alloc (.cells #[.int .u8 x.kind, .string x.rat, .string x.name, .int .i64 x.date, .slice a len cap] 25) := ⟨_, rfl⟩
  have hB0 : Below w.heap.size w W0 := by rw [hW0]; exact own_below w _
  have hbx : W0.heap[w.heap.size]? = some (.cells #[.int .u8 x.kind, .string x.rat, .string x.name, .int .i64 x.date, .slice a len cap] 25) := by rw [hW0]; exact heap_alloc_new w _
  have h0 := h.below hB0
  have hdp := SmX.depth h.small
  have HC : ∀ W, Below W0.heap.size W0 W → _ := fun W hW => exCells ((hW.block _ (Array.getElem?_eq_some_iff.1 hbx).1).trans hbx)
  have HSZ : Hid (∀ W, Below W0.heap.size W0 W → Calls Tryz.prog 30 #[.agg #[.int .u8 x.kind, .string x.rat, .string x.name, .int .i64 x.date, .slice a len cap]] W (IntP W (x.size : Int))) := fun W hW => rsizex_any n x _ W (ExAt.below hW h0.at_) h.size
  have HDP : Hid (∀ W, Below W0.heap.size W0 W → Calls Tryz.prog 31 #[.agg #[.int .u8 x.kind, .string x.rat, .string x.name, .int .i64 x.date, .slice a len cap]] W (IntP W (x.depth : Int))) := fun W hW => rdepth_any n x _ W (ExAt.below hW h0.at_) h.size (by omega)
  have HST : Hid (∀ W, Below W0.heap.size W0 W → Calls Tryz.prog 32 #[.agg #[.int .u8 x.kind, .string x.rat, .string x.name, .int .i64 x.date, .slice a len cap]] W (IntP W x.srt)) := fun W hW => by
    have := rsort_any n x _ W (ExAt.below hW h0.at_) h.size ⟨_, h.small⟩
    rwa [← Ex.srt_is] at this
  obtain ⟨R, hR⟩ : ∃ R, R = chkX x := ⟨_, rfl⟩
  rw [← hR]
  have HRR := Lib.hid hR
  have HW0 := Lib.hid hW0
  have HB0 := Lib.hid hB0
  have HCC := Lib.hid HC
  obtain ⟨c0, c1, c2, c3, c4⟩ := HC W0 (Below.refl _ _)
  obtain ⟨sz, hsz⟩ : ∃ q, q = x.size := ⟨_, rfl⟩
  obtain ⟨dp, hdpe⟩ : ∃ q, q = x.depth := ⟨_, rfl⟩
  obtain ⟨st, hst⟩ : ∃ q, q = x.srt := ⟨_, rfl⟩
  have hcx : R = if 500 < sz ∨ 60 < dp then 4 else if st = 0 then 8 else 0 := by rw [hR, hsz, hdpe, hst]; rfl
  have hszb : sz ≤ 1000 := by rw [hsz]; exact h.size
  rw [← hsz] at HSZ
  rw [← hdpe] at HDP hdp
  rw [← hst] at HST
  have HCX := Lib.hid hcx
  clear hR hW0 hB0 HC h0 h hbx hsz hdpe hst hcx
  by_cases h5 : 500 < sz
  · have e : R = 4 := by rw [HCX.out, if_pos (.inl h5)]
    have E := Lib.hid e
    clear e
    go_enter Tryz.func16, Tryz.ntmps16
    go_wp2_with fail
    rw [← HW0.out]
    refine (HSZ.out _ (Below.refl _ _)).mono ?_
    rintro e w1 ⟨rfl, hb⟩
    have HB := Lib.hid (HB0.out.trans (hb.mono HB0.out.size))
    clear hb c0 c1 c2 c3 c4
    have d5 : decide ((500 : Int) < (sz : Int)) = true := by simp; omega
    go_wp2_with fail
    go_ret
    exact ⟨by rw [E.out]; rfl, HB.out⟩
  · by_cases h6 : 60 < dp
    · have e : R = 4 := by rw [HCX.out, if_pos (.inr h6)]
      have E := Lib.hid e
      clear e
      go_enter Tryz.func16, Tryz.ntmps16
      go_wp2_with fail
      rw [← HW0.out]
      refine (HSZ.out _ (Below.refl _ _)).mono ?_
      rintro e w1 ⟨rfl, hb⟩
      have HB1 := Lib.hid hb
      clear hb c0 c1 c2 c3 c4
      obtain ⟨c0, c1, c2, c3, c4⟩ := HCC.out w1 HB1.out
      have d5 : decide ((500 : Int) < (sz : Int)) = false := by simp; omega
      go_wp2_with fail
      refine (HDP.out _ HB1.out).mono ?_
      rintro e w2 ⟨rfl, hb⟩
      have HB := Lib.hid (HB0.out.trans ((HB1.out.trans (hb.mono HB1.out.size)).mono HB0.out.size))
      clear hb c0 c1 c2 c3 c4
      have d6 : decide ((60 : Int) < (dp : Int)) = true := by simp; omega
      go_wp2_with fail
      go_ret
      exact ⟨by rw [E.out]; rfl, HB.out⟩
    · have e : R = if st = 0 then 8 else 0 := by rw [HCX.out, if_neg (by omega)]
      have E := Lib.hid e
      clear e
      go_enter Tryz.func16, Tryz.ntmps16
      go_wp2_with fail
      rw [← HW0.out]
      refine (HSZ.out _ (Below.refl _ _)).mono ?_
      rintro e w1 ⟨rfl, hb⟩
      have HB1 := Lib.hid hb
      clear hb c0 c1 c2 c3 c4
      obtain ⟨c0, c1, c2, c3, c4⟩ := HCC.out w1 HB1.out
      have d5 : decide ((500 : Int) < (sz : Int)) = false := by simp; omega
      go_wp2_with fail
      refine (HDP.out _ HB1.out).mono ?_
      rintro e w2 ⟨rfl, hb⟩
      have HB2 := Lib.hid (HB1.out.trans (hb.mono HB1.out.size))
      clear hb c0 c1 c2 c3 c4
      obtain ⟨c0, c1, c2, c3, c4⟩ := HCC.out w2 HB2.out
      have d6 : decide ((60 : Int) < (dp : Int)) = false := by simp; omega
      go_wp2_with fail
      refine (HST.out _ HB2.out).mono ?_
      rintro e w3 ⟨rfl, hb⟩
      have HB := Lib.hid (HB0.out.trans ((HB2.out.trans (hb.mono HB2.out.size)).mono HB0.out.size))
      clear hb c0 c1 c2 c3 c4
      by_cases h0 : st = 0
      · have q : ((st : Int) == 0) = true := ieq_true h0
        have e : R = 8 := by rw [E.out, if_pos h0]
        have E2 := Lib.hid e
        clear e h0
        go_wp2_with fail
        go_ret
        exact ⟨by rw [E2.out]; rfl, HB.out⟩
      · have q : ((st : Int) == 0) = false := ieq_false h0
        have e : R = 0 := by rw [E.out, if_neg h0]
        have E2 := Lib.hid e
        clear e h0
        go_wp2_with fail
        go_ret
        exact ⟨by rw [E2.out]; rfl, HB.out⟩

set_option maxHeartbeats 2000000 in
set_option maxRecDepth 100000 in
theorem pchkx_any (n : Nat) (x : Ex) (cs : List Value) (w Wg : World) (h : ExIn n x cs w Wg) : Calls Tryz.prog 12 #[.agg cs.toArray] w (IntP w (chkX x)) := by
  have hsh := h.at_.shape
  obtain ⟨a, len, cap, rfl, _⟩ := hsh
  obtain ⟨W0, hW0⟩ : ∃ W0, W0 = w.alloc (.cells #[.int .u8 x.kind, .string x.rat, .string x.name, .int .i64 x.date, .slice a len cap] 25) := ⟨_, rfl⟩
  have hB0 : Below w.heap.size w W0 := by rw [hW0]; exact own_below w _
  have hbx : W0.heap[w.heap.size]? = some (.cells #[.int .u8 x.kind, .string x.rat, .string x.name, .int .i64 x.date, .slice a len cap] 25) := by rw [hW0]; exact heap_alloc_new w _
  have h0 := h.below hB0
  have hdp := SmX.depth h.small
  have HC : ∀ W, Below W0.heap.size W0 W → _ := fun W hW => exCells ((hW.block _ (Array.getElem?_eq_some_iff.1 hbx).1).trans hbx)
  have HSZ : Hid (∀ W, Below W0.heap.size W0 W → Calls Tryz.prog 22 #[.agg #[.int .u8 x.kind, .string x.rat, .string x.name, .int .i64 x.date, .slice a len cap]] W (IntP W (x.size : Int))) := fun W hW => psizex_any n x _ W (ExAt.below hW h0.at_) h.size
  obtain ⟨M, hM⟩ : ∃ M, M = min x.depth 61 := ⟨_, rfl⟩
  have HDP : Hid (∀ W, Below W0.heap.size W0 W → Calls Tryz.prog 23 #[.agg #[.int .u8 x.kind, .string x.rat, .string x.name, .int .i64 x.date, .slice a len cap], .int .i64 60] W (IntP W (M : Int))) := fun W hW => by
    have q := pdepth_any n x _ 60 W (ExAt.below hW h0.at_) h.size (by omega) (by omega)
    rw [hM]; exact q
  have HST : Hid (∀ W, Below W0.heap.size W0 W → Calls Tryz.prog 24 #[.agg #[.int .u8 x.kind, .string x.rat, .string x.name, .int .i64 x.date, .slice a len cap]] W (U8P W x.srt)) := fun W hW => by
    have := psort_any h.shp n x _ W (ExAt.below hW h0.at_) h.kok h.size ⟨_, h.small⟩ (h0.old.trans (hW.mono h0.old.size))
    rwa [← Ex.srt_is] at this
  obtain ⟨R, hR⟩ : ∃ R, R = chkX x := ⟨_, rfl⟩
  rw [← hR]
  have HRR := Lib.hid hR
  have HW0 := Lib.hid hW0
  have HB0 := Lib.hid hB0
  have HCC := Lib.hid HC
  obtain ⟨c0, c1, c2, c3, c4⟩ := HC W0 (Below.refl _ _)
  obtain ⟨sz, hsz⟩ : ∃ q, q = x.size := ⟨_, rfl⟩
  obtain ⟨dp, hdpe⟩ : ∃ q, q = x.depth := ⟨_, rfl⟩
  obtain ⟨st, hst⟩ : ∃ q, q = x.srt := ⟨_, rfl⟩
  have hcx : R = if 500 < sz ∨ 60 < dp then 4 else if st = 0 then 8 else 0 := by rw [hR, hsz, hdpe, hst]; rfl
  have hszb : sz ≤ 1000 := by rw [hsz]; exact h.size
  rw [← hsz] at HSZ
  rw [← hdpe] at hdp hM
  have HM := Lib.hid hM
  have hM61 : M ≤ 61 := by omega
  rw [← hst] at HST
  have HCX := Lib.hid hcx
  clear hM hR hW0 hB0 HC h0 h hbx hsz hdpe hst hcx
  by_cases h5 : 500 < sz
  · have e : R = 4 := by rw [HCX.out, if_pos (.inl h5)]
    have E := Lib.hid e
    clear e
    go_enter Tryz.func12, Tryz.ntmps12
    go_wp2_with fail
    rw [← HW0.out]
    refine (HSZ.out _ (Below.refl _ _)).mono ?_
    rintro e w1 ⟨rfl, hb⟩
    have HB := Lib.hid (HB0.out.trans (hb.mono HB0.out.size))
    clear hb c0 c1 c2 c3 c4
    have d5 : decide ((500 : Int) < (sz : Int)) = true := by simp; omega
    go_wp2_with fail
    go_ret
    exact ⟨by rw [E.out]; rfl, HB.out⟩
  · by_cases h6 : 60 < dp
    · have e : R = 4 := by rw [HCX.out, if_pos (.inr h6)]
      have E := Lib.hid e
      clear e
      go_enter Tryz.func12, Tryz.ntmps12
      go_wp2_with fail
      rw [← HW0.out]
      refine (HSZ.out _ (Below.refl _ _)).mono ?_
      rintro e w1 ⟨rfl, hb⟩
      have HB1 := Lib.hid hb
      clear hb c0 c1 c2 c3 c4
      obtain ⟨c0, c1, c2, c3, c4⟩ := HCC.out w1 HB1.out
      have d5 : decide ((500 : Int) < (sz : Int)) = false := by simp; omega
      go_wp2_with fail
      refine (HDP.out _ HB1.out).mono ?_
      rintro e w2 ⟨rfl, hb⟩
      have HB := Lib.hid (HB0.out.trans ((HB1.out.trans (hb.mono HB1.out.size)).mono HB0.out.size))
      clear hb c0 c1 c2 c3 c4
      have d6 : decide ((60 : Int) < (M : Int)) = true := by have := HM.out; simp; omega
      go_wp2_with fail
      go_ret
      exact ⟨by rw [E.out]; rfl, HB.out⟩
    · have e : R = if st = 0 then 8 else 0 := by rw [HCX.out, if_neg (by omega)]
      have E := Lib.hid e
      clear e
      go_enter Tryz.func12, Tryz.ntmps12
      go_wp2_with fail
      rw [← HW0.out]
      refine (HSZ.out _ (Below.refl _ _)).mono ?_
      rintro e w1 ⟨rfl, hb⟩
      have HB1 := Lib.hid hb
      clear hb c0 c1 c2 c3 c4
      obtain ⟨c0, c1, c2, c3, c4⟩ := HCC.out w1 HB1.out
      have d5 : decide ((500 : Int) < (sz : Int)) = false := by simp; omega
      go_wp2_with fail
      refine (HDP.out _ HB1.out).mono ?_
      rintro e w2 ⟨rfl, hb⟩
      have HB2 := Lib.hid (HB1.out.trans (hb.mono HB1.out.size))
      clear hb c0 c1 c2 c3 c4
      obtain ⟨c0, c1, c2, c3, c4⟩ := HCC.out w2 HB2.out
      have d6 : decide ((60 : Int) < (M : Int)) = false := by have := HM.out; simp; omega
      go_wp2_with fail
      refine (HST.out _ HB2.out).mono ?_
      rintro e w3 ⟨rfl, hb⟩
      have HB := Lib.hid (HB0.out.trans ((HB2.out.trans (hb.mono HB2.out.size)).mono HB0.out.size))
      clear hb c0 c1 c2 c3 c4
      by_cases h0 : st = 0
      · have q : ((st : Int) == 0) = true := ieq_true h0
        have e : R = 8 := by rw [E.out, if_pos h0]
        have E2 := Lib.hid e
        clear e h0
        go_wp2_with fail
        go_ret
        exact ⟨by rw [E2.out]; rfl, HB.out⟩
      · have q : ((st : Int) == 0) = false := ieq_false h0
        have e : R = 0 := by rw [E.out, if_neg h0]
        have E2 := Lib.hid e
        clear e h0
        go_wp2_with fail
        go_ret
        exact ⟨by rw [E2.out]; rfl, HB.out⟩

end Go.Proofs.YtdgmpgejemgbbaaGreatDoor
