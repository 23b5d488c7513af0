/-
  novationlaw17.EventNames walked. Condition: what the package-level variables hold.
-/
import Derived.Test.YtcfgpojogomkhaaGreatDoorXm
import Derived.Test.YtcfgpojogomkhaaGreatDoorXk
namespace Go.Proofs.YtcfgpojogomkhaaGreatDoor
open Go.RowKit Go.Shelf Go.Sort

def exZ : Ev := ⟨0, 0, 0, 0, 0, ⟨#[]⟩, ⟨#[]⟩, ⟨#[]⟩, false⟩
def bads : List Ev := [exZ, ⟨6, 2, 0, 1, 0, ⟨#[]⟩, ⟨#[]⟩, ⟨#[]⟩, false⟩, ⟨5, 1, 0, 1, 0, ⟨#[]⟩, ⟨#[]⟩, ⟨#[]⟩, false⟩, ⟨5, 2, 0, 2, 0, ⟨#[]⟩, ⟨#[]⟩, ⟨#[]⟩, false⟩, ⟨5, 2, 0, 1, 0, ⟨#[]⟩, ⟨#[]⟩, ⟨#[]⟩, true⟩,
  ⟨5, 1073741825, 0, 1, 0, ⟨#[]⟩, ⟨#[]⟩, ⟨#[]⟩, false⟩, ⟨5, 2, -1, 1, 0, ⟨#[]⟩, ⟨#[]⟩, ⟨#[]⟩, false⟩, ⟨5, 2, 1125899906842625, 1, 0, ⟨#[]⟩, ⟨#[]⟩, ⟨#[]⟩, false⟩, ⟨1, 1, 0, 0, 0, ⟨#[]⟩, ⟨#[97]⟩, ⟨#[50, 47, 52]⟩, false⟩,
  ⟨1, 1, 0, 0, 0, ⟨#[]⟩, ⟨#[]⟩, ⟨#[49]⟩, false⟩, ⟨1, 1, 0, 0, 100000, ⟨#[]⟩, ⟨#[97]⟩, ⟨#[49]⟩, false⟩, ⟨2, 1, 0, 0, 0, ⟨#[]⟩, ⟨#[97]⟩, ⟨#[]⟩, false⟩, ⟨2, 1, 0, 0, 0, ⟨#[98]⟩, ⟨#[97]⟩, ⟨#[49]⟩, false⟩, ⟨3, 2, 0, 1, 0, ⟨#[]⟩, ⟨#[]⟩, ⟨#[]⟩, false⟩, ⟨4, 2, 0, 1, 0, ⟨#[]⟩, ⟨#[97]⟩, ⟨#[]⟩, false⟩]
theorem bads_no : (bads.all fun x => !valB x && decide (x.value.size ≤ 100000)) = true := by kernel_rfl
theorem bad_no (k : Nat) (h : k < 15) : valB (bads[k]?.getD default) = false ∧ (bads[k]?.getD default).value.size ≤ 100000 := by
  have hk : k < bads.length := h
  have := List.all_eq_true.1 bads_no (bads[k]) (List.getElem_mem hk)
  rw [List.getElem?_eq_getElem hk]
  simpa using this

theorem check_bad_ct {x : Ev} {w : World} (hs : x.value.size ≤ 100000) (hv : valB x = false) : Ct w 16 #[evV x] (.int .i64 8) := by
  have := check_ct x w hs
  rw [hv] at this
  exact this
theorem text_bad_ct {x : Ev} {w : World} (hs : x.value.size ≤ 100000) (hv : valB x = false) : Ct w 10 #[evV x] (.tuple #[.string ⟨#[]⟩, .int .i64 8]) := fun W _ => text_no x W hs hv
def ex1b : Ev := ⟨1, 1, 49, 0, 46340, ⟨#[]⟩, ⟨#[65, 67, 77, 69]⟩, ⟨#[49, 48, 49, 47, 52]⟩, false⟩
theorem sort_three : sortEv [ex1, ex1b, ex1] = [ex1b, ex1, ex1] := by
  refine (sorted_is [ex1, ex1b, ex1] [ex1b, ex1, ex1] (List.Perm.swap _ _ _) ?_).symm
  have h1 : leEv ex1b ex1 := by unfold leEv; decide
  have h2 : leEv ex1 ex1 := by unfold leEv; rw [cmpEv_self]; decide
  simp [h1, h2]
theorem made_evs (n : Nat) : (madeCells zeroEv.cells (n * 9)).toList = evs (List.replicate n exZ) := by
  apply List.ext_getElem?
  intro i
  by_cases h : i < n * 9
  · have e : i = i / 9 * 9 + i % 9 := by omega
    have hi : i / 9 < (List.replicate n exZ).length := by simp; omega
    have h2 := evs_get (List.replicate n exZ) (i / 9) (i % 9) hi (by omega)
    rw [← e] at h2
    rw [h2]
    have hx : (List.replicate n exZ)[i / 9]?.getD default = exZ := by
      rw [List.getElem?_replicate, if_pos (by omega)]; rfl
    rw [hx]
    have hm : i % 9 < 9 := by omega
    rw [Array.getElem?_toList]
    unfold madeCells
    have hz : zeroEv.cells.size = 9 := rfl
    rw [Array.getElem?_map, Array.getElem?_range, if_pos h, hz]
    show some (zeroEv.cells[i % 9]!) = _
    generalize i % 9 = m at hm
    match m, hm with
    | 0, _ => rfl
    | 1, _ => rfl
    | 2, _ => rfl
    | 3, _ => rfl
    | 4, _ => rfl
    | 5, _ => rfl
    | 6, _ => rfl
    | 7, _ => rfl
    | 8, _ => rfl
  · rw [List.getElem?_eq_none (by unfold madeCells; simp; omega), List.getElem?_eq_none (by rw [evs_length]; simp; omega)]
theorem made_row {w : World} {base g n N : Nat} {t : TypeId} {cs : Array Value} (h : w.ownsRow base t 9 (.slice (some ⟨g, 0, none⟩) n n) n (madeCells cs N).toList) (hN : N = n * 9) (hc : zeroEv = .agg cs) : RowAt w g t (evs (List.replicate n exZ)) := by
  have e : cs = zeroEv.cells := by rw [hc]; rfl
  rw [e, hN, made_evs] at h
  rcases rowAtN_of_owns h with ⟨h, _⟩ | ⟨g', cap, h, _, _, _, _, hr⟩
  · cases h
  · cases h
    exact hr
/-- The boxes of both events, the sorted row. -/
structure NmW (w W : World) (g5 g6 g1 : Nat) : Prop where
  a : W.heap[g5]? = some (.cells #[.int .u8 1, .int .i64 1, .int .i64 50, .int .i64 0, .int .i64 46340, .string ⟨#[]⟩, .string ⟨#[65, 67, 77, 69]⟩, .string ⟨#[49, 48, 49, 47, 52]⟩, .bool false] 24)
  b : W.heap[g6]? = some (.cells #[.int .u8 1, .int .i64 1, .int .i64 49, .int .i64 0, .int .i64 46340, .string ⟨#[]⟩, .string ⟨#[65, 67, 77, 69]⟩, .string ⟨#[49, 48, 49, 47, 52]⟩, .bool false] 24)
  r : RowAt W g1 24 (evs [ex1b, ex1, ex1])
  h : Below w.heap.size w W
theorem NmW.next {w W W' : World} {g5 g6 g1 : Nat} (t : NmW w W g5 g6 g1) (hb : Below W.heap.size W W') : NmW w W' g5 g6 g1 :=
  ⟨(objNext (B := 0) ⟨Nat.zero_le _, t.a⟩ hb).2, (objNext (B := 0) ⟨Nat.zero_le _, t.b⟩ hb).2, t.r.below hb t.r.lt, t.h.trans (hb.mono t.h.size)⟩

theorem fresh_one (W : World) (o1 o2 : Obj) : ((W.alloc o1).alloc o2).heap[W.heap.size]? = some o1 := heap_two W o1 o2
theorem fresh_two (W : World) (o1 o2 : Obj) : ((W.alloc o1).alloc o2).heap[W.heap.size + 1]? = some o2 := by
  have := objHere (W.alloc o1) o2
  simpa using this
theorem put9_other {w : World} {g k : Nat} {O : Obj} (h : w.heap[k]? = some O) (hne : k ≠ g) (b0 b1 b2 b3 b4 b5 b6 b7 b8 : Value) :
    (((((((((w.setCell ⟨g, 0, none⟩ b0).setCell ⟨g, 1, none⟩ b1).setCell ⟨g, 2, none⟩ b2).setCell ⟨g, 3, none⟩ b3).setCell ⟨g, 4, none⟩ b4).setCell ⟨g, 5, none⟩ b5).setCell ⟨g, 6, none⟩ b6).setCell ⟨g, 7, none⟩ b7).setCell ⟨g, 8, none⟩ b8).heap[k]? = some O := by
  rw [Below.heap_setCell _ _ _ _ hne, Below.heap_setCell _ _ _ _ hne, Below.heap_setCell _ _ _ _ hne, Below.heap_setCell _ _ _ _ hne, Below.heap_setCell _ _ _ _ hne, Below.heap_setCell _ _ _ _ hne, Below.heap_setCell _ _ _ _ hne, Below.heap_setCell _ _ _ _ hne, Below.heap_setCell _ _ _ _ hne]
  exact h

set_option maxHeartbeats 4000000 in
set_option maxRecDepth 100000 in
theorem names_any (w : World) (hE : Env w) : Calls Tryz.prog 7 #[] w (BelB w true) := by
  have HA := Lib.hid (alive_ct hE)
  have R0 := rf0 hE
  have R1 := rf1 hE
  have R2 := rf2 hE
  have R3 := rf3 hE
  have R4 := rf4 hE
  have R5 := rf5 hE
  have R6 := rf6 hE
  have R7 := rf7 hE
  have R8 := rf8 hE
  have R9 := rf9 hE
  have R10 := rf10 hE
  have R11 := rf11 hE
  have D5 := rd_ex5 hE
  have D6 := rd_ex6 hE
  clear hE
  go_enter Tryz.func7, Tryz.ntmps7
  go_upto_region 2 with (fail)
  go_cut [30, 31, 32] (fun s30 s31 s32 wx => s30 = .slice (some ⟨w.heap.size, 0, none⟩) 15 15 ∧ s31 = .int .i64 15 ∧ s32 = .int .i64 0 ∧ RowAt wx w.heap.size 24 (evs bads) ∧ Below w.heap.size w wx)
  case first =>
    go_wp2_with fail
    go_meet
    exact ⟨rfl, rfl, rfl, rowAt_alloc rfl rfl, own_below _ _⟩
  case rest =>
  obtain ⟨v0, rfl⟩ : ∃ v0 : World, v0 = wc := ⟨_, rfl⟩
  obtain ⟨rfl, rfl, rfl, hr, hb⟩ := hcut
  have HR := Lib.hid (fun i (hi : i < 15) => evs_row0 hr i hi)
  have hg := hr.lt
  have HB := Lib.hid hb
  clear hr hb
  go_wp2_with fail
  go_loopw [1, 32] (fun a i wr => a = .bool true ∧ LawR v0 15 i wr) (fun _ i _ => 15 - (intOf i).toNat)
  case atStart => exact ⟨rfl, 0, Nat.zero_le _, rfl, Below.refl _ _⟩
  case round =>
    obtain ⟨v1, rfl⟩ : ∃ v1 : World, v1 = wr := ⟨_, rfl⟩
    obtain ⟨rfl, k, hk, rfl, b1⟩ := hrel
    by_cases hlt : k < 15
    · obtain ⟨x, hx⟩ : ∃ x, x = bads[k]?.getD default := ⟨_, rfl⟩
      have hn := bad_no k hlt
      rw [← hx] at hn
      have a : EvAt v1 w.heap.size (k * 9) x := by rw [hx]; exact evAt_below (HR.out k hlt) b1 hg
      obtain ⟨a0, a1, a2, a3, a4, a5, a6, a7, a8⟩ := a
      have HC := Lib.hid (check_bad_ct (w := v1) hn.2 hn.1)
      have B1 := Lib.hid b1
      clear hx hn b1
      go_wp2_with fail
      refine (HC.out.use (own_below _ _)).mono ?_
      rintro e w2 ⟨rfl, b2⟩
      have B2 := Lib.hid (B1.out.trans (((own_below _ _).trans (b2.mono (by simp))).mono B1.out.size))
      clear b2
      go_wp2_with fail
      go_roundw
      case rel => exact ⟨rfl, k + 1, by omega, by go_num, B2.out⟩
      case measure => simp [intOf]; omega
    · have hk : k = 15 := by omega
      subst hk
      have B1 := Lib.hid (HB.out.trans (b1.mono HB.out.size))
      clear b1
      go_wp2_with fail
      refine (R0.out.use B1.out).mono ?_
      rintro e w2 ⟨rfl, b2⟩
      have B2 := Lib.hid (B1.out.trans (b2.mono B1.out.size))
      clear b2
      go_wp2_with fail
      refine (R1.out.use B2.out).mono ?_
      rintro e w3 ⟨rfl, b3⟩
      have B3 := Lib.hid (B2.out.trans (b3.mono B2.out.size))
      clear b3
      go_wp2_with fail
      refine (R2.out.use B3.out).mono ?_
      rintro e w4 ⟨rfl, b4⟩
      have B4 := Lib.hid (B3.out.trans (b4.mono B3.out.size))
      clear b4
      go_wp2_with fail
      refine (R3.out.use B4.out).mono ?_
      rintro e w5 ⟨rfl, b5⟩
      have B5 := Lib.hid (B4.out.trans (b5.mono B4.out.size))
      clear b5
      go_wp2_with fail
      refine (R4.out.use B5.out).mono ?_
      rintro e w6 ⟨rfl, b6⟩
      have B6 := Lib.hid (B5.out.trans (b6.mono B5.out.size))
      clear b6
      go_wp2_with fail
      refine (R5.out.use B6.out).mono ?_
      rintro e w7 ⟨rfl, b7⟩
      have B7 := Lib.hid (B6.out.trans (b7.mono B6.out.size))
      clear b7
      go_wp2_with fail
      refine (R6.out.use B7.out).mono ?_
      rintro e w8 ⟨rfl, b8⟩
      have B8 := Lib.hid (B7.out.trans (b8.mono B7.out.size))
      clear b8
      go_wp2_with fail
      refine (R7.out.use B8.out).mono ?_
      rintro e w9 ⟨rfl, b9⟩
      have B9 := Lib.hid (B8.out.trans (b9.mono B8.out.size))
      clear b9
      go_wp2_with fail
      refine (R8.out.use B9.out).mono ?_
      rintro e w10 ⟨rfl, b10⟩
      have B10 := Lib.hid (B9.out.trans (b10.mono B9.out.size))
      clear b10
      go_wp2_with fail
      refine (R9.out.use B10.out).mono ?_
      rintro e w11 ⟨rfl, b11⟩
      have B11 := Lib.hid (B10.out.trans (b11.mono B10.out.size))
      clear b11
      go_wp2_with fail
      refine (R10.out.use B11.out).mono ?_
      rintro e w12 ⟨rfl, b12⟩
      have B12 := Lib.hid (B11.out.trans (b12.mono B11.out.size))
      clear b12
      go_wp2_with fail
      refine (R11.out.use B12.out).mono ?_
      rintro e w13 ⟨rfl, b13⟩
      have B13 := Lib.hid (B12.out.trans (b13.mono B12.out.size))
      clear b13
      go_wp2_with fail
      refine (D5.out.use B13.out).mono ?_
      rintro e w14 ⟨rfl, b14⟩
      have B14 := Lib.hid (B13.out.trans (b14.mono B13.out.size))
      clear b14
      go_wp2_with fail
      refine (D6.out.use B14.out).mono ?_
      rintro e w15 ⟨rfl, b15⟩
      have B15 := Lib.hid (B14.out.trans (b15.mono B14.out.size))
      clear b15
      go_upto_region 9 with (fail)
      go_cut [5, 6] (fun s5 s6 wx => ∃ g5 g6, s5 = .pointer (some ⟨g5, 0, none⟩) ∧ s6 = .pointer (some ⟨g6, 0, none⟩) ∧ g5 ≠ g6 ∧ w.heap.size ≤ g6 ∧ wx.heap[g5]? = some (.cells #[.int .u8 1, .int .i64 1, .int .i64 50, .int .i64 0, .int .i64 46340, .string ⟨#[]⟩, .string ⟨#[65, 67, 77, 69]⟩, .string ⟨#[49, 48, 49, 47, 52]⟩, .bool false] 24) ∧ wx.heap[g6]? = some (.cells #[.int .u8 1, .int .i64 1, .int .i64 50, .int .i64 0, .int .i64 46340, .string ⟨#[]⟩, .string ⟨#[65, 67, 77, 69]⟩, .string ⟨#[49, 48, 49, 47, 52]⟩, .bool false] 24) ∧ Below w.heap.size w wx)
      case first =>
        go_wp2_with fail
        refine (fixing_any w15).mono ?_
        rintro e w16 ⟨rfl, b16⟩
        have B16 := Lib.hid (B15.out.trans (b16.mono B15.out.size))
        clear b16
        go_wp2_with fail
        refine (fixing_any w16).mono ?_
        rintro e w17 ⟨rfl, b17⟩
        have B17 := Lib.hid (B16.out.trans (b17.mono B16.out.size))
        clear b17
        have x1 := fresh_one w17 (.cells #[.int .u8 0, .int .i64 0, .int .i64 0, .int .i64 0, .int .i64 0, .string ⟨#[]⟩, .string ⟨#[]⟩, .string ⟨#[]⟩, .bool false] 24) (.cells #[.int .u8 0, .int .i64 0, .int .i64 0, .int .i64 0, .int .i64 0, .string ⟨#[]⟩, .string ⟨#[]⟩, .string ⟨#[]⟩, .bool false] 24)
        have x2 := fresh_two w17 (.cells #[.int .u8 0, .int .i64 0, .int .i64 0, .int .i64 0, .int .i64 0, .string ⟨#[]⟩, .string ⟨#[]⟩, .string ⟨#[]⟩, .bool false] 24) (.cells #[.int .u8 0, .int .i64 0, .int .i64 0, .int .i64 0, .int .i64 0, .string ⟨#[]⟩, .string ⟨#[]⟩, .string ⟨#[]⟩, .bool false] 24)
        obtain ⟨a0, a1, a2, a3, a4, a5, a6, a7, a8⟩ := zcells x1
        have af := zfrozen x1
        have y2 := put9_other x2 (show w17.heap.size + 1 ≠ w17.heap.size by omega) (.int .u8 1) (.int .i64 1) (.int .i64 50) (.int .i64 0) (.int .i64 46340) (.string ⟨#[]⟩) (.string ⟨#[65, 67, 77, 69]⟩) (.string ⟨#[49, 48, 49, 47, 52]⟩) (.bool false)
        obtain ⟨c0, c1, c2, c3, c4, c5, c6, c7, c8⟩ := zcells y2
        have cf := zfrozen y2
        have y1 := put9_heap x1 (.int .u8 1) (.int .i64 1) (.int .i64 50) (.int .i64 0) (.int .i64 46340) (.string ⟨#[]⟩) (.string ⟨#[65, 67, 77, 69]⟩) (.string ⟨#[49, 48, 49, 47, 52]⟩) (.bool false)
        have X1 := Lib.hid x1
        have Y1 := Lib.hid y1
        have Y2 := Lib.hid y2
        clear x1 x2 y1 y2
        unfold evV ex1
        dsimp only
        go_wp2_with fail
        go_meet
        exact ⟨_, _, rfl, rfl, by omega, by have := B17.out.size; omega, fresh_one _ _ _, fresh_two _ _ _, (B17.out.alloc B17.out.size _).alloc (Nat.le_trans B17.out.size (by simp)) _⟩
      case rest =>
      obtain ⟨g5, g6, rfl, rfl, hne, hle, ha, hb, hbel⟩ := hcut
      obtain ⟨v2, rfl⟩ : ∃ v2 : World, v2 = wc := ⟨_, rfl⟩
      obtain ⟨c0, c1, c2, c3, c4, c5, c6, c7, c8⟩ := zcells hb
      have cf := zfrozen hb
      have ha3 : (v2.setCell ⟨g6, 2, none⟩ (.int .i64 49)).heap[g5]? = some (.cells #[.int .u8 1, .int .i64 1, .int .i64 50, .int .i64 0, .int .i64 46340, .string ⟨#[]⟩, .string ⟨#[65, 67, 77, 69]⟩, .string ⟨#[49, 48, 49, 47, 52]⟩, .bool false] 24) := by rw [Below.heap_setCell _ _ _ _ hne]; exact ha
      have hb3 : (v2.setCell ⟨g6, 2, none⟩ (.int .i64 49)).heap[g6]? = some (.cells #[.int .u8 1, .int .i64 1, .int .i64 49, .int .i64 0, .int .i64 46340, .string ⟨#[]⟩, .string ⟨#[65, 67, 77, 69]⟩, .string ⟨#[49, 48, 49, 47, 52]⟩, .bool false] 24) := by
        have := objSet hb 2 (.int .i64 49)
        simpa using this
      have hbel3 : Below w.heap.size w (v2.setCell ⟨g6, 2, none⟩ (.int .i64 49)) := hbel.setCell hle _
      have HA3 := Lib.hid ha3
      have HB3 := Lib.hid hb3
      have HBL3 := Lib.hid hbel3
      clear ha hb hbel ha3 hb3 hbel3
      go_upto_region 11 with (fail)
      generalize v2.setCell ⟨g6, 2, none⟩ (Value.int IntKind.i64 49) = v3 at HA3 HB3 HBL3 ⊢
      clear c0 c1 c2 c3 c4 c5 c6 c7 c8 cf
      obtain ⟨a0, a1, a2, a3, a4, a5, a6, a7, a8⟩ := zcells HA3.out
      obtain ⟨c0, c1, c2, c3, c4, c5, c6, c7, c8⟩ := zcells HB3.out
      go_wp2_with fail
      refine (sort_some v3.heap.size 0 3 3 [ex1, ex1b, ex1] _ rfl (by omega) (by omega) (by simp) (evs_of_row (rowAt_alloc rfl rfl))).mono ?_
      rintro e w18 ⟨g1, k1, rfl, hg1, r1, b18⟩
      rw [sort_three] at r1
      have T18 : Hid (NmW w w18 g5 g6 g1) := ⟨(objNext (B := 0) ⟨Nat.zero_le _, (objNext (B := 0) ⟨Nat.zero_le _, HA3.out⟩ (own_below _ _)).2⟩ b18).2, (objNext (B := 0) ⟨Nat.zero_le _, (objNext (B := 0) ⟨Nat.zero_le _, HB3.out⟩ (own_below _ _)).2⟩ b18).2, r1, (HBL3.out.alloc HBL3.out.size _).trans (b18.mono (Nat.le_trans HBL3.out.size (by simp)))⟩
      clear a0 a1 a2 a3 a4 a5 a6 a7 a8 c0 c1 c2 c3 c4 c5 c6 c7 c8
      clear r1 b18 hg1
      obtain ⟨i9, hi9, hz9, hz91, hz92⟩ := info_partsN Tryz.info24
      go_wp2_with (at_make; refine wpList_make_full _ rfl _ _ 42 rfl w18.heap.size 24 i9 zeroEv 9 Tryz.underlying42 hi9 hz9 hz91 .i64 .i64 _ _ 1001 rfl rfl ?b0 ?b1 ?b2 ?b3 ?b4 ?_)
      case b0 => rfl
      case b1 => rfl
      case b2 => rw [hz92]; omega
      case b3 => unfold maxLen; omega
      case b4 => exact Nat.le_refl _
      intro w19 hown19 hgr19
      have T19 := Lib.hid (T18.out.next ((Below.refl _ _).grown hgr19 (Nat.le_refl _) (fun k hk => by cases hk)))
      clear hown19 hgr19
      go_wp2_with fail
      refine (sort_long _ 1001 1001 w19 (by omega) (by omega)).mono ?_
      rintro e w19' ⟨rfl, rfl⟩
      go_wp2_with (at_make; refine wpList_make_full _ rfl _ _ 42 rfl w19'.heap.size 24 i9 zeroEv 9 Tryz.underlying42 hi9 hz9 hz91 .i64 .i64 _ _ 1000 rfl rfl ?b0 ?b1 ?b2 ?b3 ?b4 ?_)
      case b0 => rfl
      case b1 => rfl
      case b2 => rw [hz92]; omega
      case b3 => unfold maxLen; omega
      case b4 => exact Nat.le_refl _
      intro w20 hown20 hgr20
      have T20 := Lib.hid (T19.out.next ((Below.refl _ _).grown hgr20 (Nat.le_refl _) (fun k hk => by cases hk)))
      have r20 := made_row hown20 (by omega) (by assumption)
      have R20 := Lib.hid r20
      clear hown20 hgr20 r20
      go_wp2_with fail
      refine (sort_some w19'.heap.size 0 1000 1000 (List.replicate 1000 exZ) w20 (by simp) (by omega) (by omega) R20.out.lt (evs_of_row R20.out)).mono ?_
      rintro e w21 ⟨g2, k2, rfl, _, _, b21⟩
      have T21 := Lib.hid (T20.out.next b21)
      have HX := Lib.hid (text_bad_ct (x := exZ) (w := w21) (Nat.zero_le _) (by kernel_rfl))
      clear b21 R20 hi9 hz9 hz91 hz92
      go_wp2_with fail
      refine (HX.out.use (Below.refl _ _)).mono ?_
      rintro e w22 ⟨rfl, b22⟩
      have T22 := Lib.hid (T21.out.next b22)
      clear b22
      go_wp2_with fail
      refine (HA.out.use T22.out.h).mono ?_
      rintro e w23 ⟨rfl, b23⟩
      have T23 := Lib.hid (T22.out.next b23)
      clear b23
      obtain ⟨a0, a1, a2, a3, a4, a5, a6, a7, a8⟩ := zcells T23.out.a
      obtain ⟨c0, c1, c2, c3, c4, c5, c6, c7, c8⟩ := zcells T23.out.b
      go_wp2_with fail
      refine (same_ev g1 0 w23.heap.size 0 k1 3 3 [ex1b, ex1, ex1] _ rfl (by omega) (evs_of_row (T23.out.r.alloc _)) (evs_of_row (rowAt_alloc rfl rfl))).mono ?_
      rintro e w24 ⟨rfl, q24, rfl⟩
      go_wp2_with fail
      go_ret
      exact ⟨rfl, below_drewN (T23.out.h.alloc T23.out.h.size _) q24⟩

end Go.Proofs.YtcfgpojogomkhaaGreatDoor
