/-
  The program's event.Parse walked: words of a form. Condition: the callees' contracts, as hypotheses.
-/
import Derived.Test.YtcfgpojogomkhaaGreatDoorWd
namespace Go.Proofs.YtcfgpojogomkhaaGreatDoor
open Go.RowKit

set_option maxHeartbeats 8000000 in
set_option maxRecDepth 100000 in
theorem parse_go (s : ByteArray) (ws : List ByteArray) (n m : Nat) (w : World) (k v1 v2 f : Int) (sw x0 x1 x2 : ByteArray) (hn : ws.length = n) (hnm : n = 3 + m) (hm : sw.size = m) (hm10 : m ≤ 10) (hm1 : 1 ≤ m)
    (h0 : ws[0]? = some x0) (h1 : ws[1]? = some x1) (h2 : ws[2]? = some x2) (hx0 : x0.size ≤ maxLen)
    (HS : Hid (SpC w s ws n)) (hk : kdF x0.data.toList = k) (hk0 : k ≠ 0) (hw : wdF k = sw.data.toList)
    (HC1 : Hid (Ct w 32 #[.string x1] (.int .i64 v1))) (HC2 : Hid (Ct w 32 #[.string x2] (.int .i64 v2)))
    (E : Nat → Ev) (HE0 : Hid (E 0 = ⟨k, v1, v2, 0, 0, ⟨#[]⟩, ⟨#[]⟩, ⟨#[]⟩, false⟩))
    (HR : Hid (∀ j (hj : j < sw.size), ∃ x, ws[3 + j]? = some x ∧ RoundOk w sw[j].toNat x (E j) (E (j + 1))))
    (HCK : Hid (Ct w 16 #[evV (E m)] (.int .i64 f))) :
    Calls Tryz.prog 12 #[.string s] w (PaP w (E m) f (GoodW sw ws m)) := by
  subst hm
  have hwl : wdF k = sw.data.toList := hw
  have esw : (⟨sw.data.toList.toArray⟩ : ByteArray) = sw := by apply ByteArray.ext; simp
  have HL : Hid (∀ W b, W.ownsMap Tryz.prog 9 selfR b 5 formsD → (Instr.lookup 60 (.map (some b)) (.string x0) true).run Tryz.prog W = .ok (.tuple #[.agg #[.int .u8 k, .string sw], .bool true]) W) := fun W b h => by
    rw [forms_look h x0 hx0, hk, hw, decide_eq_true hk0]
    show Result.ok (Value.tuple #[.agg #[.int .u8 k, .string (⟨sw.data.toList.toArray⟩ : ByteArray)], .bool true]) W = _
    rw [esw]
  have hn3 : 3 ≤ n := by omega
  have HN := Lib.hid hn
  have HNM := Lib.hid hnm
  have HK0 := Lib.hid hk0
  clear hk hw hwl esw hn hk0
  go_enter Tryz.func12, Tryz.ntmps12
  go_wp2_with fail
  refine (HS.out _ (own_below _ _)).mono ?_
  rintro e w1 ⟨rfl, hw1⟩
  have B1 : Hid (Below w.heap.size w w1) := by rw [hw1]; exact (own_below _ _).alloc (by simp) _
  obtain ⟨r, hr⟩ : ∃ r, r = w.heap.size + 1 := ⟨_, rfl⟩
  have hrow : RowAt w1 r 9 (ws.map Value.string) := by rw [hw1, hr]; exact rowAt_alloc (by simp) (by simp)
  have hz : w1.heap[w.heap.size]? = some (.cells #[.int .u8 0, .int .i64 0, .int .i64 0, .int .i64 0, .int .i64 0, .string ⟨#[]⟩, .string ⟨#[]⟩, .string ⟨#[]⟩, .bool false] 24) := by rw [hw1]; exact heap_two _ _ _
  have hs1 : w1.heap.size = w.heap.size + 2 := by rw [hw1]; simp
  rw [show (w.alloc (.cells #[.int .u8 0, .int .i64 0, .int .i64 0, .int .i64 0, .int .i64 0, .string ⟨#[]⟩, .string ⟨#[]⟩, .string ⟨#[]⟩, .bool false] 24)).heap.size = r by rw [hr]; simp]
  have k0 : w1.cell? ⟨r, 0, none⟩ = some (.string x0) := by rw [hrow.cell (by simp; have := HN.out; omega)]; simp [h0]
  have hrl : r < w1.heap.size := hrow.lt
  have HROW := Lib.hid hrow
  have HZ := Lib.hid hz
  have hrn : r ≠ w1.heap.size := by omega
  have kA : ∀ o, (w1.alloc o).cell? ⟨r, 0, none⟩ = some (.string x0) := fun o => by rw [World.cell?_alloc_past _ _ _ hrl]; exact k0
  have HS1 := Lib.hid hs1
  have HH1 : Hid (ws[1]? = some x1) := h1
  have HH2 : Hid (ws[2]? = some x2) := h2
  clear hw1 hrow hz hs1 hr h0 h1 h2 hnm
  go_upto_region 2 with (fail)
  go_cut [5, 6] (fun s5 s6 wx => ∃ g, s5 = .pointer (some ⟨g, 0, none⟩) ∧ s6 = .bool true ∧ w1.heap.size ≤ g ∧ RowAt wx g 58 [.int .u8 k, .string sw] ∧ Below w1.heap.size w1 wx)
  case first =>
    go_region_with ((go_at_call 31; go_must (refine (forms_any _).mono ?_; rintro e wf ⟨rfl, how, bf⟩; (first | (have how : wf.ownsMap Tryz.prog 9 selfR w1.heap.size 5 formsD := how; have hl1 := HL.out _ _ how; have hl2 := fun c t => HL.out _ _ (how.alloc (.cells c t))) | (have how : wf.ownsMap Tryz.prog 9 selfR (w1.heap.size + 1) 5 formsD := (by simpa using how); have hl1 := HL.out _ _ how; have hl2 := fun c t => HL.out _ _ (how.alloc (.cells c t)))); (first | have k1 := ((bcell bf).1 _ _ hrl).trans k0 | have k1 := ((bcell bf).1 _ _ (Nat.lt_of_lt_of_le hrl (by simp))).trans (kA _)); have hrf : r < wf.heap.size := Nat.lt_of_lt_of_le (Nat.lt_of_lt_of_le hrl (by simp)) bf.size; have k1A : ∀ o, (wf.alloc o).cell? ⟨r, 0, none⟩ = some (.string x0) := fun o => (by rw [World.cell?_alloc_past _ _ _ hrf]; exact k1); (first | (have B5 : Below w1.heap.size w1 wf := ((Below.refl _ w1).drew).trans bf) | (have B5 : Below w1.heap.size w1 wf := (((Below.refl _ w1).alloc (Nat.le_refl _) _).drew).trans (bf.mono (by simp)); have R5 := forms_row bf; have c5a : wf.cell? ⟨w1.heap.size, 0, none⟩ = some (.int .u8 0) := R5.cell (i := 0) (by simp); have c5b : wf.cell? ⟨w1.heap.size, 1, none⟩ = some (.string ⟨#[]⟩) := R5.cell (i := 1) (by simp); have c5c := R5.frozen 0; have c5d := R5.frozen 1)))))
    all_goals
      go_wp2_with fail
      go_meet
      first
        | exact ⟨_, rfl, rfl, Nat.le_refl _, (R5.set 0 _).set 1 _, (B5.setCell (Nat.le_refl _) _).setCell (Nat.le_refl _) _⟩
        | exact ⟨_, rfl, rfl, B5.size, rowAt_alloc rfl rfl, B5.alloc B5.size _⟩
  case rest =>
  obtain ⟨wb, rfl⟩ : ∃ wb : World, wb = wc := ⟨_, rfl⟩
  obtain ⟨g, rfl, rfl, hg, hr5, b5⟩ := hcut
  have d0 : wb.cell? ⟨g, 0, none⟩ = some (.int .u8 k) := hr5.cell (i := 0) (by simp)
  have d1 : wb.cell? ⟨g, 1, none⟩ = some (.string sw) := hr5.cell (i := 1) (by simp)
  have hgl : g < wb.heap.size := hr5.lt
  have ROW2 := HROW.out.below b5 hrl
  have hr2 : r < wb.heap.size := ROW2.lt
  have e1 : wb.cell? ⟨r, 1, none⟩ = some (.string x1) := by rw [ROW2.cell (by simp; have := HN.out; have := HNM.out; omega)]; simp [HH1.out]
  have e2 : wb.cell? ⟨r, 2, none⟩ = some (.string x2) := by rw [ROW2.cell (by simp; have := HN.out; have := HNM.out; omega)]; simp [HH2.out]
  have B5 : Hid (Below w.heap.size w wb) := B1.out.trans (b5.mono B1.out.size)
  have hz : wb.heap[w.heap.size]? = some (.cells #[.int .u8 0, .int .i64 0, .int .i64 0, .int .i64 0, .int .i64 0, .string ⟨#[]⟩, .string ⟨#[]⟩, .string ⟨#[]⟩, .bool false] 24) := by rw [b5.block _ (by rw [HS1.out]; omega)]; exact HZ.out
  have HZ2 := Lib.hid hz
  have HROW2 := Lib.hid ROW2
  clear hr5 b5 hz HZ HROW kA k0 HL hg hrn hrl B1 ROW2
  have t1 : ((n : Int) != 3 + (sw.size : Int)) = false := by rw [HNM.out]; simp
  go_upto_region 5 with (fail)
  go_cut [7] (fun s7 wx => ∃ q, s7 = .pointer (some ⟨q, 0, none⟩) ∧ wb.heap.size ≤ q ∧ wx.heap[q]? = some (.cells #[.int .u8 k, .int .i64 v1, .int .i64 v2, .int .i64 0, .int .i64 0, .string ⟨#[]⟩, .string ⟨#[]⟩, .string ⟨#[]⟩, .bool false] 24) ∧ Below wb.heap.size wb wx)
  case first =>
    have HALL : Hid (∀ W : World, Below wb.heap.size wb W → W.cell? ⟨g, 0, none⟩ = some (.int .u8 k) ∧ W.cell? ⟨r, 1, none⟩ = some (.string x1) ∧ W.cell? ⟨r, 2, none⟩ = some (.string x2) ∧ Below wb.heap.size wb W) := fun W h => ⟨((bcell h).1 _ _ hgl).trans d0, ((bcell h).1 _ _ hr2).trans e1, ((bcell h).1 _ _ hr2).trans e2, h⟩
    have HUSE : Hid (∀ W : World, (W.cell? ⟨g, 0, none⟩ = some (.int .u8 k) ∧ W.cell? ⟨r, 1, none⟩ = some (.string x1) ∧ W.cell? ⟨r, 2, none⟩ = some (.string x2) ∧ Below wb.heap.size wb W) → Below w.heap.size w W) := fun W h => B5.out.trans (h.2.2.2.mono B5.out.size)
    have HNXT : Hid (∀ W W' : World, (W.cell? ⟨g, 0, none⟩ = some (.int .u8 k) ∧ W.cell? ⟨r, 1, none⟩ = some (.string x1) ∧ W.cell? ⟨r, 2, none⟩ = some (.string x2) ∧ Below wb.heap.size wb W) → Below W.heap.size W W' → Below wb.heap.size wb W') := fun W W' h h' => h.2.2.2.trans (h'.mono h.2.2.2.size)
    have HALC : Hid (∀ (W : World) (O : Obj), (W.cell? ⟨g, 0, none⟩ = some (.int .u8 k) ∧ W.cell? ⟨r, 1, none⟩ = some (.string x1) ∧ W.cell? ⟨r, 2, none⟩ = some (.string x2) ∧ Below wb.heap.size wb W) → Below wb.heap.size wb (W.alloc O)) := fun W O h => h.2.2.2.alloc h.2.2.2.size O
    have h1n : ¬((n : Int) ≤ 1) := by omega
    have h2n : ¬((n : Int) ≤ 2) := by omega
    have HA0 : Hid (∀ O : Obj, Below wb.heap.size wb (wb.alloc O).drew) := fun O => (own_below wb O).drew
    have HD0 : Hid (Below wb.heap.size wb wb.drew) := (Below.refl _ wb).drew
    go_region_held (fun W => W.cell? ⟨g, 0, none⟩ = some (.int .u8 k) ∧ W.cell? ⟨r, 1, none⟩ = some (.string x1) ∧ W.cell? ⟨r, 2, none⟩ = some (.string x2) ∧ Below wb.heap.size wb W)
      ((first | with_reducible exact HALL.out _ (put9_below bn Z.1 _ _ _ _ _ _ _ _ _) | with_reducible exact HALL.out _ bn | with_reducible exact HALL.out _ (HALC.out _ _ (by assumption)) | with_reducible exact HALL.out _ HD0.out | with_reducible exact HALL.out _ (HA0.out _) | with_reducible exact HALL.out _ (Below.alloc bn (Below.size bn) _)))
      ((go_at_call 32; go_must ((first | with_reducible refine (HC1.out.use (HUSE.out _ (by assumption))).mono ?_ | with_reducible refine (HC2.out.use (HUSE.out _ (by assumption))).mono ?_); rintro e wf ⟨rfl, bf⟩; have bn := HNXT.out _ _ (by assumption) bf; (first | (with_reducible have Z := objNext Z bf) | (with_reducible have Z := objNewD bf) | (with_reducible have Z := objNew bo bf) | skip); have bo := bn; (first | (obtain ⟨z0, z1, z2, z3, z4, z5, z6, z7, z8⟩ := zcells Z.2; have zf := zfrozen Z.2) | skip))))
    all_goals
      go_wp2_with fail
      go_meet
      first
        | exact ⟨_, rfl, Z.1, put9_heap Z.2 _ _ _ _ _ _ _ _ _, put9_below bn Z.1 _ _ _ _ _ _ _ _ _⟩
        | exact ⟨_, rfl, bn.size, objHere _ _, bn.alloc bn.size _⟩
  case rest =>
  obtain ⟨wd, rfl⟩ : ∃ wd : World, wd = wc := ⟨_, rfl⟩
  obtain ⟨q, rfl, hq, ho, bq⟩ := hcut
  have HQ := Lib.hid hq
  have HST : Hid (PaR wb q E sw ws sw.size (.int .i64 0) wd) := ⟨0, Nat.zero_le _, rfl, by rw [HE0.out]; exact ho, bq, fun i x c hi => absurd hi (Nat.not_lt_zero _)⟩
  have hne : ¬n = 3 := by have := HNM.out; omega
  have hns : n - 3 = sw.size := by have := HNM.out; omega
  clear ho bq hq t1 d0 e1 e2
  go_wp2_with fail
  go_loopw [48] (fun v W => PaR wb q E sw ws sw.size v W) (fun v _ => sw.size - (intOf v).toNat)
  case atStart => exact HST.out
  case round =>
    obtain ⟨j, hj, rfl, ho, bj, hg⟩ := hrel
    have BJ := Lib.hid bj
    have HG := Lib.hid hg
    have kd1 : wr.cell? ⟨g, 1, none⟩ = some (.string sw) := ((bcell bj).1 _ _ hgl).trans d1
    by_cases hlt : j < sw.size
    · obtain ⟨x, hx, hround⟩ := HR.out j hlt
      have kx : wr.cell? ⟨r, 3 + j, none⟩ = some (.string x) := by
        rw [(HROW2.out.below bj hr2).cell (by simp; have := HN.out; have := HNM.out; omega)]; simp [hx]
      have HX : Hid (ws[3 + j]? = some x) := hx
      obtain ⟨Ej, hEj⟩ : ∃ a, a = E j := ⟨_, rfl⟩
      rw [← hEj] at ho hround
      obtain ⟨K, i, e, t, d, p, nm, v, fi⟩ := Ej
      unfold evO at ho
      dsimp only at ho
      obtain ⟨q0, q1, q2, q3, q4, q5, q6, q7, q8⟩ := zcells ho
      have qf := zfrozen ho
      have HO := Lib.hid ho
      have HUSE : Hid (Below w.heap.size w wr) := B5.out.trans (bj.mono B5.out.size)
      clear ho bj hg hEj hx
      cases hround with
      | name hc h =>
        have NX : Hid (PaR wb q E sw ws sw.size (.int .i64 ((j : Int) + 1)) (wr.setCell ⟨q, 6, none⟩ (.string x))) := ⟨j + 1, hlt, by simp, by rw [h]; simpa [evO] using objSet HO.out 6 (.string x), BJ.out.setCell HQ.out _, HG.out.next hlt HX.out (by omega)⟩
        clear h
        go_wp2_with fail
        go_roundw
        case rel => exact NX.out
        case measure => simp [intOf]; omega
      | party hc h =>
        have NX : Hid (PaR wb q E sw ws sw.size (.int .i64 ((j : Int) + 1)) (wr.setCell ⟨q, 5, none⟩ (.string x))) := ⟨j + 1, hlt, by simp, by rw [h]; simpa [evO] using objSet HO.out 5 (.string x), BJ.out.setCell HQ.out _, HG.out.next hlt HX.out (by omega)⟩
        clear h
        go_wp2_with fail
        go_roundw
        case rel => exact NX.out
        case measure => simp [intOf]; omega
      | date hc D hd h =>
        have NX : Hid (∀ W, Below wr.heap.size wr W → PaR wb q E sw ws sw.size (.int .i64 ((j : Int) + 1)) (W.setCell ⟨q, 4, none⟩ (.int .i64 D))) := fun W hW => ⟨j + 1, hlt, by simp, by rw [h]; simpa [evO] using objSet (objNext (B := 0) ⟨Nat.zero_le _, HO.out⟩ hW).2 4 (.int .i64 D), (BJ.out.trans (hW.mono BJ.out.size)).setCell HQ.out _, HG.out.next hlt HX.out (by omega)⟩
        clear h
        go_wp2_with fail
        refine (hd.out _ HUSE.out).mono ?_
        rintro e w2 ⟨he, b2⟩
        have NX2 := Lib.hid (NX.out _ b2)
        have ho2 := (objNext (B := 0) ⟨Nat.zero_le _, HO.out⟩ b2).2
        obtain ⟨y0, y1, y2, y3, y4, y5, y6, y7, y8⟩ := zcells ho2
        have yf := zfrozen ho2
        clear b2 NX ho2
        rcases he with rfl | ⟨rfl, qq, hqq, rfl⟩
        · go_wp2_with fail
          go_roundw
          case rel => exact NX2.out
          case measure => simp [intOf]; omega
        · have tq : (qq != 0) = true := by simp; omega
          go_wp2_with fail
          go_roundw
          case rel => exact NX2.out
          case measure => simp [intOf]; omega
      | value hc h =>
        have NX : Hid (PaR wb q E sw ws sw.size (.int .i64 ((j : Int) + 1)) (wr.setCell ⟨q, 7, none⟩ (.string x))) := ⟨j + 1, hlt, by simp, by rw [h]; simpa [evO] using objSet HO.out 7 (.string x), BJ.out.setCell HQ.out _, HG.out.next hlt HX.out (by omega)⟩
        clear h
        go_wp2_with fail
        go_roundw
        case rel => exact NX.out
        case measure => simp [intOf]; omega
      | target hc v hv h =>
        have NX : Hid (∀ W, Below wr.heap.size wr W → PaR wb q E sw ws sw.size (.int .i64 ((j : Int) + 1)) (W.setCell ⟨q, 3, none⟩ (.int .i64 v))) := fun W hW => ⟨j + 1, hlt, by simp, by rw [h]; simpa [evO] using objSet (objNext (B := 0) ⟨Nat.zero_le _, HO.out⟩ hW).2 3 (.int .i64 v), (BJ.out.trans (hW.mono BJ.out.size)).setCell HQ.out _, HG.out.next hlt HX.out (by omega)⟩
        clear h
        go_wp2_with fail
        refine (hv.out.use HUSE.out).mono ?_
        rintro e w2 ⟨rfl, b2⟩
        have NX2 := Lib.hid (NX.out _ b2)
        have ho2 := (objNext (B := 0) ⟨Nat.zero_le _, HO.out⟩ b2).2
        obtain ⟨y0, y1, y2, y3, y4, y5, y6, y7, y8⟩ := zcells ho2
        have yf := zfrozen ho2
        clear b2 NX ho2
        go_wp2_with fail
        go_roundw
        case rel => exact NX2.out
        case measure => simp [intOf]; omega
      | yes hc hx h =>
        have NX : Hid (PaR wb q E sw ws sw.size (.int .i64 ((j : Int) + 1)) (wr.setCell ⟨q, 8, none⟩ (.bool true))) := ⟨j + 1, hlt, by simp, by rw [h]; simpa [evO] using objSet HO.out 8 (.bool true), BJ.out.setCell HQ.out _, HG.out.next hlt HX.out (fun _ => by left; exact hx)⟩
        have HSD := Lib.hid (fun W => side_yes W)
        have ty : (x.toList == [121, 101, 115]) = true := by rw [hx, Lib.toList_data]; decide
        have tn : ([121, 101, 115] == x.toList) = true := by rw [hx, Lib.toList_data]; decide
        clear h hx
        go_wp2_with fail
        refine (HSD.out _).mono ?_
        rintro e w2 ⟨rfl, rfl⟩
        go_wp2_with fail
        go_roundw
        case rel => exact NX.out
        case measure => simp [intOf]; omega
      | no hc hx h =>
        have NX : Hid (PaR wb q E sw ws sw.size (.int .i64 ((j : Int) + 1)) (wr.setCell ⟨q, 8, none⟩ (.bool false))) := ⟨j + 1, hlt, by simp, by rw [h]; simpa [evO] using objSet HO.out 8 (.bool false), BJ.out.setCell HQ.out _, HG.out.next hlt HX.out (fun _ => by right; exact hx)⟩
        have HSD := Lib.hid (fun W => side_no W)
        have ty : (x.toList == [121, 101, 115]) = false := by rw [hx, Lib.toList_data]; decide
        have tn : ([110, 111] == x.toList) = true := by rw [hx, Lib.toList_data]; decide
        clear h hx
        go_wp2_with fail
        refine (HSD.out _).mono ?_
        rintro e w2 ⟨rfl, rfl⟩
        go_wp2_with fail
        go_roundw
        case rel => exact NX.out
        case measure => simp [intOf]; omega
      | bad hc hx hx2 =>
        have hbad : Hid (¬GoodW sw ws sw.size) := fun hgd => by
          rcases hgd j x sw[j] hlt HX.out (Lib.data_getElem? sw j hlt) hc with h | h
          · exact hx h
          · exact hx2 h
        have HSD := Lib.hid (fun W => side_no W)
        have ty : (x.toList == [121, 101, 115]) = false := by have h := list_neq hx; rw [Lib.toList_data yesB] at h; exact h
        have tn : ([110, 111] == x.toList) = false := by have h := list_neq (Ne.symm hx2); rw [Lib.toList_data noB] at h; exact h
        clear hx hx2
        go_wp2_with fail
        refine (HSD.out _).mono ?_
        rintro e w2 ⟨rfl, rfl⟩
        have hz8 : (wr.setCell ⟨q, 8, none⟩ (.bool false)).heap[w.heap.size]? = some (.cells #[.int .u8 0, .int .i64 0, .int .i64 0, .int .i64 0, .int .i64 0, .string ⟨#[]⟩, .string ⟨#[]⟩, .string ⟨#[]⟩, .bool false] 24) := by
          have hlz := objLt HZ2.out
          have := HQ.out
          rw [Below.heap_setCell _ _ _ _ (show w.heap.size ≠ q by omega), BJ.out.block _ hlz]
          exact HZ2.out
        have hb8 : Hid (Below w.heap.size w (wr.setCell ⟨q, 8, none⟩ (.bool false))) := HUSE.out.setCell (by have := HQ.out; have := B5.out.size; show w.heap.size ≤ q; omega) _
        generalize wr.setCell ⟨q, 8, none⟩ (Value.bool false) = W8 at hz8 hb8 ⊢
        obtain ⟨y0, y1, y2, y3, y4, y5, y6, y7, y8⟩ := zcells hz8
        have yf := zfrozen hz8
        have HZ8 := Lib.hid hz8
        clear hz8
        go_wp2_with fail
        refine bodyPost_ret (results_row_tmp rfl _ _ w.heap.size 24 _ _ rfl (put9_heap HZ8.out _ _ _ _ _ _ _ _ _) Tryz.underlying24 rfl rfl) rfl ?_
        exact ⟨put9_below hb8.out (Nat.le_refl _) _ _ _ _ _ _ _ _ _, .inl ⟨hbad.out, rfl⟩⟩
    · obtain rfl : j = sw.size := by omega
      obtain ⟨Ej, hEj⟩ : ∃ a, a = E sw.size := ⟨_, rfl⟩
      rw [← hEj] at ho HCK
      obtain ⟨K, i, e, t, d, p, nm, v, fi⟩ := Ej
      unfold evO at ho
      unfold evV at HCK
      dsimp only at ho HCK
      have HE := Lib.hid hEj
      obtain ⟨q0, q1, q2, q3, q4, q5, q6, q7, q8⟩ := zcells ho
      have qf := zfrozen ho
      have HO := Lib.hid ho
      have HUSE : Hid (Below w.heap.size w wr) := B5.out.trans (bj.mono B5.out.size)
      clear ho bj hg hEj
      go_wp2_with fail
      refine (HCK.out.use HUSE.out).mono ?_
      rintro e w2 ⟨rfl, b2⟩
      have ho2 := (objNext (B := 0) ⟨Nat.zero_le _, HO.out⟩ b2).2
      have hlz := objLt HZ2.out
      have hz2 : w2.heap[w.heap.size]? = some (.cells #[.int .u8 0, .int .i64 0, .int .i64 0, .int .i64 0, .int .i64 0, .string ⟨#[]⟩, .string ⟨#[]⟩, .string ⟨#[]⟩, .bool false] 24) := by
        rw [b2.block _ (Nat.lt_of_lt_of_le hlz BJ.out.size), BJ.out.block _ hlz]
        exact HZ2.out
      obtain ⟨y0, y1, y2, y3, y4, y5, y6, y7, y8⟩ := zcells ho2
      have yf := zfrozen ho2
      obtain ⟨o0, o1, o2, o3, o4, o5, o6, o7, o8⟩ := zcells hz2
      have off := zfrozen hz2
      have HZ8 := Lib.hid hz2
      have HB8 : Hid (Below w.heap.size w w2) := HUSE.out.trans (b2.mono HUSE.out.size)
      clear ho2 hz2 b2 hlz
      by_cases hf : f = 0
      · subst hf
        go_wp2_with fail
        refine bodyPost_ret (results_row_tmp rfl _ _ w.heap.size 24 _ _ rfl (put9_heap HZ8.out _ _ _ _ _ _ _ _ _) Tryz.underlying24 rfl rfl) rfl ?_
        exact ⟨put9_below HB8.out (Nat.le_refl _) _ _ _ _ _ _ _ _ _, .inr (.inl ⟨HG.out, rfl, by rw [← HE.out]; rfl⟩)⟩
      · have tf : (f != 0) = true := by simp [hf]
        have HF := Lib.hid hf
        clear hf
        go_wp2_with fail
        refine bodyPost_ret (results_row_tmp rfl _ _ w.heap.size 24 _ _ rfl (put9_heap HZ8.out _ _ _ _ _ _ _ _ _) Tryz.underlying24 rfl rfl) rfl ?_
        exact ⟨put9_below HB8.out (Nat.le_refl _) _ _ _ _ _ _ _ _ _, .inr (.inr ⟨HG.out, HF.out, rfl⟩)⟩

end Go.Proofs.YtcfgpojogomkhaaGreatDoor
