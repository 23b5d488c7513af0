/-
  The law PrinterNames: its sums, walked. No condition.
-/
import Derived.Test.YtijkefflpojmhaaDoorNba
namespace Go.Proofs.YtijkefflpojmhaaDoor
open Go.RowKit

theorem sum_1 {Wg : World} (hs : ShpAt Wg) (W : World) (g1 g2 : Nat) (hb : Below Wg.heap.size Wg W) (h1 : W.heap[g1]? = some (.cells #[.int .u8 1, .string ⟨#[49]⟩, .string ⟨#[]⟩, .int .i64 0, .slice none 0 0, .int .u8 1, .string ⟨#[50]⟩, .string ⟨#[]⟩, .int .i64 0, .slice none 0 0] 25)) (h2 : W.heap[g2]? = some (.cells #[.int .u8 5, .string ⟨#[]⟩, .string ⟨#[]⟩, .int .i64 0, .slice (some ⟨g1, 0, none⟩) 2 2, .int .u8 1, .string ⟨#[51]⟩, .string ⟨#[]⟩, .int .i64 0, .slice none 0 0] 25)) :
    Calls Tryd.prog 12 #[.agg #[.int .u8 5, .string ⟨#[]⟩, .string ⟨#[]⟩, .int .i64 0, .slice (some ⟨g2, 0, none⟩) 2 2], .string (ByteArray.mk #[49, 32, 45, 32, 50, 32, 45, 32, 51])] W (BelB W true) :=
  nexpr_lit hs (t := (ByteArray.mk #[49, 32, 45, 32, 50, 32, 45, 32, 51])) s1_lit (by decide) W hb _ (exAt_pair 5 h2 (exAt_pair 5 h1 (exAt_leaf 0 W 1 ⟨#[49]⟩ ⟨#[]⟩ 0) (exAt_leaf 0 W 1 ⟨#[50]⟩ ⟨#[]⟩ 0)) (exAt_leaf 1 W 1 ⟨#[51]⟩ ⟨#[]⟩ 0))
theorem sum_2 {Wg : World} (hs : ShpAt Wg) (W : World) (g1 g2 : Nat) (hb : Below Wg.heap.size Wg W) (h1 : W.heap[g1]? = some (.cells #[.int .u8 1, .string ⟨#[50]⟩, .string ⟨#[]⟩, .int .i64 0, .slice none 0 0, .int .u8 1, .string ⟨#[51]⟩, .string ⟨#[]⟩, .int .i64 0, .slice none 0 0] 25)) (h2 : W.heap[g2]? = some (.cells #[.int .u8 1, .string ⟨#[49]⟩, .string ⟨#[]⟩, .int .i64 0, .slice none 0 0, .int .u8 5, .string ⟨#[]⟩, .string ⟨#[]⟩, .int .i64 0, .slice (some ⟨g1, 0, none⟩) 2 2] 25)) :
    Calls Tryd.prog 12 #[.agg #[.int .u8 5, .string ⟨#[]⟩, .string ⟨#[]⟩, .int .i64 0, .slice (some ⟨g2, 0, none⟩) 2 2], .string (ByteArray.mk #[49, 32, 45, 32, 40, 50, 32, 45, 32, 51, 41])] W (BelB W true) :=
  nexpr_lit hs (t := (ByteArray.mk #[49, 32, 45, 32, 40, 50, 32, 45, 32, 51, 41])) s2_lit (by decide) W hb _ (exAt_pair 5 h2 (exAt_leaf 1 W 1 ⟨#[49]⟩ ⟨#[]⟩ 0) (exAt_pair 5 h1 (exAt_leaf 0 W 1 ⟨#[50]⟩ ⟨#[]⟩ 0) (exAt_leaf 0 W 1 ⟨#[51]⟩ ⟨#[]⟩ 0)))
theorem sum_3 {Wg : World} (hs : ShpAt Wg) (W : World) (g1 g2 : Nat) (hb : Below Wg.heap.size Wg W) (h1 : W.heap[g1]? = some (.cells #[.int .u8 1, .string ⟨#[50]⟩, .string ⟨#[]⟩, .int .i64 0, .slice none 0 0, .int .u8 1, .string ⟨#[51]⟩, .string ⟨#[]⟩, .int .i64 0, .slice none 0 0] 25)) (h2 : W.heap[g2]? = some (.cells #[.int .u8 1, .string ⟨#[49]⟩, .string ⟨#[]⟩, .int .i64 0, .slice none 0 0, .int .u8 6, .string ⟨#[]⟩, .string ⟨#[]⟩, .int .i64 0, .slice (some ⟨g1, 0, none⟩) 2 2] 25)) :
    Calls Tryd.prog 12 #[.agg #[.int .u8 4, .string ⟨#[]⟩, .string ⟨#[]⟩, .int .i64 0, .slice (some ⟨g2, 0, none⟩) 2 2], .string (ByteArray.mk #[49, 32, 43, 32, 50, 32, 42, 32, 51])] W (BelB W true) :=
  nexpr_lit hs (t := (ByteArray.mk #[49, 32, 43, 32, 50, 32, 42, 32, 51])) s3_lit (by decide) W hb _ (exAt_pair 4 h2 (exAt_leaf 1 W 1 ⟨#[49]⟩ ⟨#[]⟩ 0) (exAt_pair 6 h1 (exAt_leaf 0 W 1 ⟨#[50]⟩ ⟨#[]⟩ 0) (exAt_leaf 0 W 1 ⟨#[51]⟩ ⟨#[]⟩ 0)))
theorem sum_4 {Wg : World} (hs : ShpAt Wg) (W : World) (g1 g2 : Nat) (hb : Below Wg.heap.size Wg W) (h1 : W.heap[g1]? = some (.cells #[.int .u8 1, .string ⟨#[49]⟩, .string ⟨#[]⟩, .int .i64 0, .slice none 0 0, .int .u8 1, .string ⟨#[50]⟩, .string ⟨#[]⟩, .int .i64 0, .slice none 0 0] 25)) (h2 : W.heap[g2]? = some (.cells #[.int .u8 4, .string ⟨#[]⟩, .string ⟨#[]⟩, .int .i64 0, .slice (some ⟨g1, 0, none⟩) 2 2, .int .u8 1, .string ⟨#[51]⟩, .string ⟨#[]⟩, .int .i64 0, .slice none 0 0] 25)) :
    Calls Tryd.prog 12 #[.agg #[.int .u8 6, .string ⟨#[]⟩, .string ⟨#[]⟩, .int .i64 0, .slice (some ⟨g2, 0, none⟩) 2 2], .string (ByteArray.mk #[40, 49, 32, 43, 32, 50, 41, 32, 42, 32, 51])] W (BelB W true) :=
  nexpr_lit hs (t := (ByteArray.mk #[40, 49, 32, 43, 32, 50, 41, 32, 42, 32, 51])) s4_lit (by decide) W hb _ (exAt_pair 6 h2 (exAt_pair 4 h1 (exAt_leaf 0 W 1 ⟨#[49]⟩ ⟨#[]⟩ 0) (exAt_leaf 0 W 1 ⟨#[50]⟩ ⟨#[]⟩ 0)) (exAt_leaf 1 W 1 ⟨#[51]⟩ ⟨#[]⟩ 0))
theorem sum_5 {Wg : World} (hs : ShpAt Wg) (W : World) (g1 g2 : Nat) (hb : Below Wg.heap.size Wg W) (h1 : W.heap[g1]? = some (.cells #[.int .u8 1, .string ⟨#[50]⟩, .string ⟨#[]⟩, .int .i64 0, .slice none 0 0, .int .u8 1, .string ⟨#[51]⟩, .string ⟨#[]⟩, .int .i64 0, .slice none 0 0] 25)) (h2 : W.heap[g2]? = some (.cells #[.int .u8 1, .string ⟨#[49]⟩, .string ⟨#[]⟩, .int .i64 0, .slice none 0 0, .int .u8 6, .string ⟨#[]⟩, .string ⟨#[]⟩, .int .i64 0, .slice (some ⟨g1, 0, none⟩) 2 2] 25)) :
    Calls Tryd.prog 12 #[.agg #[.int .u8 6, .string ⟨#[]⟩, .string ⟨#[]⟩, .int .i64 0, .slice (some ⟨g2, 0, none⟩) 2 2], .string (ByteArray.mk #[49, 32, 42, 32, 40, 50, 32, 42, 32, 51, 41])] W (BelB W true) :=
  nexpr_lit hs (t := (ByteArray.mk #[49, 32, 42, 32, 40, 50, 32, 42, 32, 51, 41])) s5_lit (by decide) W hb _ (exAt_pair 6 h2 (exAt_leaf 1 W 1 ⟨#[49]⟩ ⟨#[]⟩ 0) (exAt_pair 6 h1 (exAt_leaf 0 W 1 ⟨#[50]⟩ ⟨#[]⟩ 0) (exAt_leaf 0 W 1 ⟨#[51]⟩ ⟨#[]⟩ 0)))
theorem sum_6 {Wg : World} (hs : ShpAt Wg) (W : World) (g1 g2 : Nat) (hb : Below Wg.heap.size Wg W) (h1 : W.heap[g1]? = some (.cells #[.int .u8 1, .string ⟨#[49]⟩, .string ⟨#[]⟩, .int .i64 0, .slice none 0 0, .int .u8 1, .string ⟨#[50]⟩, .string ⟨#[]⟩, .int .i64 0, .slice none 0 0] 25)) (h2 : W.heap[g2]? = some (.cells #[.int .u8 6, .string ⟨#[]⟩, .string ⟨#[]⟩, .int .i64 0, .slice (some ⟨g1, 0, none⟩) 2 2, .int .u8 1, .string ⟨#[51]⟩, .string ⟨#[]⟩, .int .i64 0, .slice none 0 0] 25)) :
    Calls Tryd.prog 12 #[.agg #[.int .u8 6, .string ⟨#[]⟩, .string ⟨#[]⟩, .int .i64 0, .slice (some ⟨g2, 0, none⟩) 2 2], .string (ByteArray.mk #[49, 32, 42, 32, 50, 32, 42, 32, 51])] W (BelB W true) :=
  nexpr_lit hs (t := (ByteArray.mk #[49, 32, 42, 32, 50, 32, 42, 32, 51])) s6_lit (by decide) W hb _ (exAt_pair 6 h2 (exAt_pair 6 h1 (exAt_leaf 0 W 1 ⟨#[49]⟩ ⟨#[]⟩ 0) (exAt_leaf 0 W 1 ⟨#[50]⟩ ⟨#[]⟩ 0)) (exAt_leaf 1 W 1 ⟨#[51]⟩ ⟨#[]⟩ 0))
set_option maxHeartbeats 40000000 in
set_option maxRecDepth 100000 in
theorem names_law (w : World) (hs : ShpAt w) (hp : PtsAt w) : Calls Tryd.prog 5 #[] w (BelB w true) := by
  have HN := Lib.hid number_any
  have HPR := Lib.hid pair_any
  have HSW := Lib.hid (wd_call hs)
  have HZR := Lib.hid zeros_any
  have HQ1 := Lib.hid q_pays
  have HQ2 := Lib.hid q_Pays
  have HQ3 := Lib.hid q_none
  have HQ4 := Lib.hid q_1a
  have HQ5 := Lib.hid (pexpr_bare hs)
  have HLONG := Lib.hid (pexpr_long hs)
  have HP2 := Lib.hid pair2_any
  have HS1 := Lib.hid (sum_1 hs)
  have HS2 := Lib.hid (sum_2 hs)
  have HS3 := Lib.hid (sum_3 hs)
  have HS4 := Lib.hid (sum_4 hs)
  have HS5 := Lib.hid (sum_5 hs)
  have HS6 := Lib.hid (sum_6 hs)
  go_enter Tryd.func5, Tryd.ntmps5
  go_wp2_with fail
  refine (HN.out _ _).mono ?_
  rintro e w1 ⟨rfl, hb⟩
  have HB1 := Lib.hid hb
  clear hb
  go_wp2_with fail
  refine (HN.out _ _).mono ?_
  rintro e w2 ⟨rfl, hb⟩
  have HB2 := Lib.hid (HB1.out.trans (hb.mono HB1.out.size))
  clear hb
  go_wp2_with fail
  refine (HN.out _ _).mono ?_
  rintro e w3 ⟨rfl, hb⟩
  have HB3 := Lib.hid (HB2.out.trans (hb.mono HB2.out.size))
  clear hb
  go_upto_region 3 with (fail)
  obtain ⟨W4, hW4⟩ : ∃ W4, W4 = ((w3.alloc (.cells #[.int .u8 1, .string ⟨#[49]⟩, .string ⟨#[]⟩, .int .i64 0, .slice none 0 0] 25)).alloc (.cells #[.int .u8 1, .string ⟨#[50]⟩, .string ⟨#[]⟩, .int .i64 0, .slice none 0 0] 25)).alloc (.cells #[.int .u8 1, .string ⟨#[51]⟩, .string ⟨#[]⟩, .int .i64 0, .slice none 0 0] 25) := ⟨_, rfl⟩
  have hT := three_blocks w3 (.cells #[.int .u8 1, .string ⟨#[49]⟩, .string ⟨#[]⟩, .int .i64 0, .slice none 0 0] 25) (.cells #[.int .u8 1, .string ⟨#[50]⟩, .string ⟨#[]⟩, .int .i64 0, .slice none 0 0] 25) (.cells #[.int .u8 1, .string ⟨#[51]⟩, .string ⟨#[]⟩, .int .i64 0, .slice none 0 0] 25)
  rw [← hW4] at hT
  rw [← hW4]
  have hB4 : Below w3.heap.size w3 W4 := by rw [hW4]; exact ((own_below w3 _).alloc (by simp) _).alloc (by simp; omega) _
  have HB4 := Lib.hid (HB3.out.trans (hB4.mono HB3.out.size))
  have HSB : Hid (∀ W, Below W4.heap.size W4 W → W.cell? ⟨w3.heap.size, 0, none⟩ = some (.int .u8 1) ∧ W.cell? ⟨w3.heap.size, 1, none⟩ = some (.string ⟨#[49]⟩) ∧ W.cell? ⟨w3.heap.size, 2, none⟩ = some (.string ⟨#[]⟩) ∧ W.cell? ⟨w3.heap.size, 3, none⟩ = some (.int .i64 0) ∧ W.cell? ⟨w3.heap.size, 4, none⟩ = some (.slice none 0 0) ∧ W.cell? ⟨w3.heap.size + 1, 0, none⟩ = some (.int .u8 1) ∧ W.cell? ⟨w3.heap.size + 1, 1, none⟩ = some (.string ⟨#[50]⟩) ∧ W.cell? ⟨w3.heap.size + 1, 2, none⟩ = some (.string ⟨#[]⟩) ∧ W.cell? ⟨w3.heap.size + 1, 3, none⟩ = some (.int .i64 0) ∧ W.cell? ⟨w3.heap.size + 1, 4, none⟩ = some (.slice none 0 0) ∧ W.cell? ⟨w3.heap.size + 1 + 1, 0, none⟩ = some (.int .u8 1) ∧ W.cell? ⟨w3.heap.size + 1 + 1, 1, none⟩ = some (.string ⟨#[51]⟩) ∧ W.cell? ⟨w3.heap.size + 1 + 1, 2, none⟩ = some (.string ⟨#[]⟩) ∧ W.cell? ⟨w3.heap.size + 1 + 1, 3, none⟩ = some (.int .i64 0) ∧ W.cell? ⟨w3.heap.size + 1 + 1, 4, none⟩ = some (.slice none 0 0)) := fun W hW => by
    have q1 := exCells ((hW.block _ (Array.getElem?_eq_some_iff.1 hT.1).1).trans hT.1)
    have q2 := exCells ((hW.block _ (Array.getElem?_eq_some_iff.1 hT.2.1).1).trans hT.2.1)
    have q3 := exCells ((hW.block _ (Array.getElem?_eq_some_iff.1 hT.2.2).1).trans hT.2.2)
    exact ⟨q1.1, q1.2.1, q1.2.2.1, q1.2.2.2.1, q1.2.2.2.2, q2.1, q2.2.1, q2.2.2.1, q2.2.2.2.1, q2.2.2.2.2, q3.1, q3.2.1, q3.2.2.1, q3.2.2.2.1, q3.2.2.2.2⟩
  have HC0 : Hid (Below W4.heap.size W4 W4) := Below.refl _ _
  have HC : Hid (Below W4.heap.size W4 W4.drew) := (Below.refl _ _).drew
  have HSH := Lib.hid hs
  have HPT := Lib.hid hp
  have HG : Hid True := trivial
  clear hT hB4 hW4 hs hp
  go_cut [5] (fun v wx => v = .bool true ∧ Below W4.heap.size W4 wx)
  case first => as_aux_lemma =>
    go_region_held3 (fun W => W.cell? ⟨w3.heap.size, 0, none⟩ = some (.int .u8 1) ∧ W.cell? ⟨w3.heap.size, 1, none⟩ = some (.string ⟨#[49]⟩) ∧ W.cell? ⟨w3.heap.size, 2, none⟩ = some (.string ⟨#[]⟩) ∧ W.cell? ⟨w3.heap.size, 3, none⟩ = some (.int .i64 0) ∧ W.cell? ⟨w3.heap.size, 4, none⟩ = some (.slice none 0 0) ∧ W.cell? ⟨w3.heap.size + 1, 0, none⟩ = some (.int .u8 1) ∧ W.cell? ⟨w3.heap.size + 1, 1, none⟩ = some (.string ⟨#[50]⟩) ∧ W.cell? ⟨w3.heap.size + 1, 2, none⟩ = some (.string ⟨#[]⟩) ∧ W.cell? ⟨w3.heap.size + 1, 3, none⟩ = some (.int .i64 0) ∧ W.cell? ⟨w3.heap.size + 1, 4, none⟩ = some (.slice none 0 0) ∧ W.cell? ⟨w3.heap.size + 1 + 1, 0, none⟩ = some (.int .u8 1) ∧ W.cell? ⟨w3.heap.size + 1 + 1, 1, none⟩ = some (.string ⟨#[51]⟩) ∧ W.cell? ⟨w3.heap.size + 1 + 1, 2, none⟩ = some (.string ⟨#[]⟩) ∧ W.cell? ⟨w3.heap.size + 1 + 1, 3, none⟩ = some (.int .i64 0) ∧ W.cell? ⟨w3.heap.size + 1 + 1, 4, none⟩ = some (.slice none 0 0))
      ((first | with_reducible exact HSB.out _ HC.out | with_reducible exact HSB.out _ HC0.out))
      ((first
        | (go_at_call 14
           with_reducible refine (HPR.out _ _ _ _ _ _ _ _ _ _ _ _).mono ?_
           rintro e u ⟨g, rfl, hg, hb⟩
           have HC := Lib.hid (HC.out.trans (hb.mono HC.out.size))
           try have HGo := Lib.hid ((hb.block _ (Array.getElem?_eq_some_iff.1 HG.out).1).trans HG.out)
           have HG := Lib.hid hg
           clear hb hg)
        | (go_at_call 12
           first
             | (with_reducible refine (HS1.out _ _ _ (HB4.out.trans (HC.out.mono HB4.out.size)) HGo.out HG.out).mono ?_)
             | (with_reducible refine (HS2.out _ _ _ (HB4.out.trans (HC.out.mono HB4.out.size)) HGo.out HG.out).mono ?_)
             | (with_reducible refine (HS3.out _ _ _ (HB4.out.trans (HC.out.mono HB4.out.size)) HGo.out HG.out).mono ?_)
             | (with_reducible refine (HS4.out _ _ _ (HB4.out.trans (HC.out.mono HB4.out.size)) HGo.out HG.out).mono ?_)
             | (with_reducible refine (HS5.out _ _ _ (HB4.out.trans (HC.out.mono HB4.out.size)) HGo.out HG.out).mono ?_)
             | (with_reducible refine (HS6.out _ _ _ (HB4.out.trans (HC.out.mono HB4.out.size)) HGo.out HG.out).mono ?_)
           rintro e u ⟨rfl, hb⟩
           have HC := Lib.hid (HC.out.trans (hb.mono HC.out.size))
           have HG : Hid True := trivial
           clear hb)))
    first
      | (go_step; go_meet; exact ⟨rfl, HC.out⟩)
      | (go_meet; exact ⟨rfl, HC.out⟩)
      | (go_wp2_with fail; go_meet; exact ⟨rfl, HC.out⟩)
      | (go_wp2_with fail; go_step; go_meet; exact ⟨rfl, HC.out⟩)
  case rest =>
    obtain ⟨rfl, hbc⟩ := hcut
    have HC5 := Lib.hid hbc
    clear hbc HC HC0
    obtain ⟨a0, a1, a2, a3, a4, b0, b1, b2, b3, b4, c0, c1, c2, c3, c4⟩ := HSB.out _ HC5.out
    go_wp2_with fail
    refine (HPR.out _ _ _ _ _ _ _ _ _ _ _ _).mono ?_
    rintro e w6 ⟨g4, rfl, hg4, hb⟩
    have HC6 := Lib.hid (HC5.out.trans (hb.mono HC5.out.size))
    have HG4 := Lib.hid hg4
    clear hb hg4 a0 a1 a2 a3 a4 b0 b1 b2 b3 b4 c0 c1 c2 c3 c4
    go_wp2_with fail
    refine (HPR.out _ _ _ _ _ _ _ _ _ _ _ _).mono ?_
    rintro e w7 ⟨gL, rfl, hgL, hb⟩
    have HC7 := Lib.hid (HC6.out.trans (hb.mono HC6.out.size))
    have HG47 := Lib.hid ((hb.block _ (Array.getElem?_eq_some_iff.1 HG4.out).1).trans HG4.out)
    have HGL := Lib.hid hgL
    clear hb hgL HG4
    go_upto_region 5 with (fail)
    obtain ⟨W8, hW8⟩ : ∃ W8, W8 = w7.alloc (.cells #[.int .u8 11, .string ⟨#[]⟩, .string ⟨#[]⟩, .int .i64 0, .slice (some ⟨gL, 0, none⟩) 2 2] 25) := ⟨_, rfl⟩
    have hbx8 : W8.heap[w7.heap.size]? = some (.cells #[.int .u8 11, .string ⟨#[]⟩, .string ⟨#[]⟩, .int .i64 0, .slice (some ⟨gL, 0, none⟩) 2 2] 25) := by rw [hW8]; exact alloc_at _ _
    have hB8 : Below w7.heap.size w7 W8 := by rw [hW8]; exact own_below w7 _
    rw [← hW8]
    have HC8 := Lib.hid (HC7.out.trans (hB8.mono HC7.out.size))
    have HG48 := Lib.hid ((hB8.block _ (Array.getElem?_eq_some_iff.1 HG47.out).1).trans HG47.out)
    have HGL8 := Lib.hid ((hB8.block _ (Array.getElem?_eq_some_iff.1 HGL.out).1).trans HGL.out)
    have HS8 : Hid (∀ W, Below W8.heap.size W8 W → W.cell? ⟨w7.heap.size, 0, none⟩ = some (.int .u8 11) ∧ W.cell? ⟨w7.heap.size, 1, none⟩ = some (.string ⟨#[]⟩) ∧ W.cell? ⟨w7.heap.size, 2, none⟩ = some (.string ⟨#[]⟩) ∧ W.cell? ⟨w7.heap.size, 3, none⟩ = some (.int .i64 0) ∧ W.cell? ⟨w7.heap.size, 4, none⟩ = some (.slice (some ⟨gL, 0, none⟩) 2 2) ∧ W.cell? ⟨w3.heap.size, 0, none⟩ = some (.int .u8 1) ∧ W.cell? ⟨w3.heap.size, 1, none⟩ = some (.string ⟨#[49]⟩) ∧ W.cell? ⟨w3.heap.size, 2, none⟩ = some (.string ⟨#[]⟩) ∧ W.cell? ⟨w3.heap.size, 3, none⟩ = some (.int .i64 0) ∧ W.cell? ⟨w3.heap.size, 4, none⟩ = some (.slice none 0 0) ∧ W.cell? ⟨w3.heap.size + 1, 0, none⟩ = some (.int .u8 1) ∧ W.cell? ⟨w3.heap.size + 1, 1, none⟩ = some (.string ⟨#[50]⟩) ∧ W.cell? ⟨w3.heap.size + 1, 2, none⟩ = some (.string ⟨#[]⟩) ∧ W.cell? ⟨w3.heap.size + 1, 3, none⟩ = some (.int .i64 0) ∧ W.cell? ⟨w3.heap.size + 1, 4, none⟩ = some (.slice none 0 0)) := fun W hW => by
      have q1 := exCells ((hW.block _ (Array.getElem?_eq_some_iff.1 hbx8).1).trans hbx8)
      obtain ⟨a0, a1, a2, a3, a4, b0, b1, b2, b3, b4, _⟩ := HSB.out W (HC8.out.trans (hW.mono HC8.out.size))
      exact ⟨q1.1, q1.2.1, q1.2.2.1, q1.2.2.2.1, q1.2.2.2.2, a0, a1, a2, a3, a4, b0, b1, b2, b3, b4⟩
    have HBG : Hid (Below w.heap.size w W8) := HB4.out.trans (HC8.out.mono HB4.out.size)
    have HC0 : Hid (Below W8.heap.size W8 W8) := Below.refl _ _
    have HC : Hid (Below W8.heap.size W8 W8.drew) := (Below.refl _ _).drew
    have HCA : Hid (∀ o, Below W8.heap.size W8 (W8.alloc o).drew) := fun o => (own_below W8 o).drew
    clear hW8 hbx8 hB8
    go_cut [7] (fun z wx => z = .bool true ∧ Below W8.heap.size W8 wx)
    case first =>
      go_region_held3 (fun W => W.cell? ⟨w7.heap.size, 0, none⟩ = some (.int .u8 11) ∧ W.cell? ⟨w7.heap.size, 1, none⟩ = some (.string ⟨#[]⟩) ∧ W.cell? ⟨w7.heap.size, 2, none⟩ = some (.string ⟨#[]⟩) ∧ W.cell? ⟨w7.heap.size, 3, none⟩ = some (.int .i64 0) ∧ W.cell? ⟨w7.heap.size, 4, none⟩ = some (.slice (some ⟨gL, 0, none⟩) 2 2) ∧ W.cell? ⟨w3.heap.size, 0, none⟩ = some (.int .u8 1) ∧ W.cell? ⟨w3.heap.size, 1, none⟩ = some (.string ⟨#[49]⟩) ∧ W.cell? ⟨w3.heap.size, 2, none⟩ = some (.string ⟨#[]⟩) ∧ W.cell? ⟨w3.heap.size, 3, none⟩ = some (.int .i64 0) ∧ W.cell? ⟨w3.heap.size, 4, none⟩ = some (.slice none 0 0) ∧ W.cell? ⟨w3.heap.size + 1, 0, none⟩ = some (.int .u8 1) ∧ W.cell? ⟨w3.heap.size + 1, 1, none⟩ = some (.string ⟨#[50]⟩) ∧ W.cell? ⟨w3.heap.size + 1, 2, none⟩ = some (.string ⟨#[]⟩) ∧ W.cell? ⟨w3.heap.size + 1, 3, none⟩ = some (.int .i64 0) ∧ W.cell? ⟨w3.heap.size + 1, 4, none⟩ = some (.slice none 0 0))
        ((first | with_reducible exact HS8.out _ HC.out | with_reducible exact HS8.out _ HC0.out | with_reducible exact HS8.out _ (HCA.out _) | with_reducible exact HS8.out _ (below_al HC.out (Nat.le_refl _) _) | with_reducible exact HS8.out _ (below_al (below_al HC.out (Nat.le_refl _) _) (Nat.le_refl _) _)))
        ((first
          | (go_at_call 14
             with_reducible refine (HPR.out 7 _ _ _ _ _ _ _ _ _ _ _).mono ?_
             rintro e u7 ⟨g7, rfl, hg, hb⟩
             first
               | (have HX := Lib.hid ((hb.block W8.heap.size (by simp)).trans (alloc_at W8 _))
                  have HNL := HX
                  have HC := Lib.hid ((HCA.out _).trans (hb.mono (HCA.out _).size)))
               | (have HC := Lib.hid (HC.out.trans (hb.mono HC.out.size)))
             have HG7 := Lib.hid hg
             clear hb hg)
          | (go_at_call 14
             with_reducible refine (HPR.out 8 _ _ _ _ _ _ _ _ _ _ _).mono ?_
             rintro e u8 ⟨g8, rfl, hg, hb⟩
             first
               | (have HNL := Lib.hid ((hb.block _ (Array.getElem?_eq_some_iff.1 HNL.out).1).trans HNL.out)
                  have HB78 : Hid (Below u7.heap.size u7 u8) := Lib.hid hb)
               | (have HB78 : Hid (Below u7.heap.size u7 u8) := Lib.hid hb)
               | (have HNL := Lib.hid ((hb.block u7.heap.size (by simp)).trans (alloc_at u7 _))
                  have HB78 : Hid (Below u7.heap.size u7 u8) := Lib.hid ((own_below u7 _).trans (hb.mono (own_below u7 _).size)))
             have HC := Lib.hid (HC.out.trans (HB78.out.mono HC.out.size))
             have HG7 := Lib.hid ((HB78.out.block _ (Array.getElem?_eq_some_iff.1 HG7.out).1).trans HG7.out)
             have HG8 := Lib.hid hg
             clear hb hg)
          | (go_at_call 12
             have KB : ∀ (W : World) {g : Nat} {o : Obj}, Below W8.heap.size W8 W → W8.heap[g]? = some o → W.heap[g]? = some o := fun W g o h q => (h.block _ (Array.getElem?_eq_some_iff.1 q).1).trans q
             have K8 : ∀ (o : Obj) {g : Nat} {q : Obj}, u8.heap[g]? = some q → (u8.alloc o).heap[g]? = some q := fun o g q h => ((own_below u8 o).block _ (Array.getElem?_eq_some_iff.1 h).1).trans h
             have K9 : ∀ (p o : Obj) {g : Nat} {q : Obj}, (u8.alloc p).heap[g]? = some q → ((u8.alloc p).alloc o).heap[g]? = some q := fun p o g q h => ((own_below (u8.alloc p) o).block _ (Array.getElem?_eq_some_iff.1 h).1).trans h
             have A9 : ∀ (p o : Obj), ((u8.alloc p).alloc o).heap[u8.heap.size + 1]? = some o := fun p o => by
               have := alloc_at (u8.alloc p) o
               rwa [World.size_alloc] at this
             have HCB := below_al HC.out (Nat.le_refl _)
             first
               | (with_reducible refine (HSW.out _ _ _ _ _ _ _ (HBG.out.trans ((HCB _).mono HBG.out.size)) (KB _ (HCB _) HG48.out) (KB _ (HCB _) HGL8.out) (K8 _ HNL.out) (K8 _ HG7.out) (K8 _ HG8.out) (alloc_at u8 _)).mono ?_
                  rintro e u ⟨rfl, hb⟩
                  have HC := Lib.hid ((HCB _).trans (hb.mono (HCB _).size)))
               | (with_reducible refine (HSW.out _ _ _ _ _ _ _ (HBG.out.trans ((below_al (HCB _) (Nat.le_refl _) _).mono HBG.out.size)) (KB _ (below_al (HCB _) (Nat.le_refl _) _) HG48.out) (KB _ (below_al (HCB _) (Nat.le_refl _) _) HGL8.out) (K9 _ _ (alloc_at u8 _)) (K9 _ _ (K8 _ HG7.out)) (K9 _ _ (K8 _ HG8.out)) (A9 _ _)).mono ?_
                  rintro e u ⟨rfl, hb⟩
                  have HC := Lib.hid ((below_al (HCB _) (Nat.le_refl _) _).trans (hb.mono (below_al (HCB _) (Nat.le_refl _) _).size)))
             clear hb KB K8 K9 A9 HCB)))
      all_goals
        first
          | (go_step; go_meet; exact ⟨rfl, HC.out⟩)
          | (go_meet; exact ⟨rfl, HC.out⟩)
          | (go_wp2_with fail; go_meet; exact ⟨rfl, HC.out⟩)
          | (go_wp2_with fail; go_step; go_meet; exact ⟨rfl, HC.out⟩)
    case rest =>
      obtain ⟨rfl, hbc⟩ := hcut
      have HC9 := Lib.hid hbc
      clear hbc HC HC0 HCA
      have HP9 := Lib.hid HC9.out
      obtain ⟨V3, hV3⟩ : ∃ V, V = ((wc.alloc (.cells #[.int .u8 1, .string ⟨#[]⟩, .string ⟨#[]⟩, .string ⟨#[]⟩, .int .u8 0, .string ⟨#[]⟩, .string ⟨#[]⟩, .int .i64 0, .slice none 0 0, .int .i64 0, .slice none 0 0, .slice none 0 0] 29)).alloc (.cells #[.int .i64 0, .int .i64 31] 3)).alloc (.cells #[.int .u8 1, .string ⟨#[]⟩, .string ⟨#[]⟩, .string ⟨#[]⟩, .int .u8 0, .string ⟨#[]⟩, .string ⟨#[]⟩, .int .i64 0, .slice none 0 0, .int .i64 0, .slice none 0 0, .slice none 0 0] 29) := ⟨_, rfl⟩
      have h3 := three_blocks wc (.cells #[.int .u8 1, .string ⟨#[]⟩, .string ⟨#[]⟩, .string ⟨#[]⟩, .int .u8 0, .string ⟨#[]⟩, .string ⟨#[]⟩, .int .i64 0, .slice none 0 0, .int .i64 0, .slice none 0 0, .slice none 0 0] 29) (.cells #[.int .i64 0, .int .i64 31] 3) (.cells #[.int .u8 1, .string ⟨#[]⟩, .string ⟨#[]⟩, .string ⟨#[]⟩, .int .u8 0, .string ⟨#[]⟩, .string ⟨#[]⟩, .int .i64 0, .slice none 0 0, .int .i64 0, .slice none 0 0, .slice none 0 0] 29)
      rw [← hV3] at h3
      have hs3 : V3.heap.size = wc.heap.size + 1 + 1 + 1 := by rw [hV3]; simp
      have hb3 : Below wc.heap.size wc V3 := by rw [hV3]; exact ((own_below wc _).alloc (by simp) _).alloc (by simp; omega) _
      have hbo := own_below V3 (.cells #[.int .u8 1, .string ⟨#[]⟩, .string ⟨#[]⟩, .string ⟨#[]⟩, .int .u8 0, .string ⟨#[]⟩, .string ⟨#[]⟩, .int .i64 0, .slice none 0 0, .int .i64 0, .slice none 0 0, .slice none 0 0, .int .u8 8, .string ⟨#[98, 121]⟩, .string ⟨#[]⟩, .string ⟨#[110]⟩, .int .u8 0, .string ⟨#[]⟩, .string ⟨#[]⟩, .int .i64 0, .slice none 0 0, .int .i64 0, .slice (some ⟨wc.heap.size + 1, 0, none⟩) 2 2, .slice (some ⟨wc.heap.size + 1 + 1, 0, none⟩) 1 1] 29)
      have hgo := alloc_at V3 (.cells #[.int .u8 1, .string ⟨#[]⟩, .string ⟨#[]⟩, .string ⟨#[]⟩, .int .u8 0, .string ⟨#[]⟩, .string ⟨#[]⟩, .int .i64 0, .slice none 0 0, .int .i64 0, .slice none 0 0, .slice none 0 0, .int .u8 8, .string ⟨#[98, 121]⟩, .string ⟨#[]⟩, .string ⟨#[110]⟩, .int .u8 0, .string ⟨#[]⟩, .string ⟨#[]⟩, .int .i64 0, .slice none 0 0, .int .i64 0, .slice (some ⟨wc.heap.size + 1, 0, none⟩) 2 2, .slice (some ⟨wc.heap.size + 1 + 1, 0, none⟩) 1 1] 29)
      rw [hs3] at hgo
      have hgd := (hbo.block _ (Array.getElem?_eq_some_iff.1 h3.2.1).1).trans h3.2.1
      have hgz := (hbo.block _ (Array.getElem?_eq_some_iff.1 h3.2.2).1).trans h3.2.2
      have HAT := Lib.hid (ctAt_two (y := zeC) (z := clC) hgo (ctAt_bare 2 _ 1 0 ⟨#[]⟩ ⟨#[]⟩ ⟨#[]⟩) (ctAt_call (y := zeC) hgd hgz (ctAt_bare 1 _ 1 0 ⟨#[]⟩ ⟨#[]⟩ ⟨#[]⟩) 8 0 ⟨#[98, 121]⟩ ⟨#[]⟩ ⟨#[110]⟩) 7 0 ⟨#[65]⟩ ⟨#[]⟩ ⟨#[116, 111]⟩)
      have HBO := Lib.hid (HC9.out.trans ((hb3.trans (hbo.mono hb3.size)).mono HC9.out.size))
      have HPK := Lib.hid (print_lit HSH.out HPT.out pkC_ok.1 pkC_ok.2.1 pkC_ok.2.2 pkC_chk pk_txt (by decide) _ (HBG.out.trans (HBO.out.mono HBG.out.size)) _ HAT.out)
      have HV3 := Lib.hid hV3
      clear hV3 h3 hs3 hb3 hbo hgo hgd hgz
      go_wp2_with fail
      rw [← HV3.out]
      with_reducible refine HPK.out.mono ?_
      rintro e wd ⟨rfl, hb⟩
      have HCA := Lib.hid (HBO.out.trans (hb.mono HBO.out.size))
      clear hb
      have qP : (pkS.toList == [99, 104, 111, 105, 99, 101, 32, 34, 116, 111, 34, 32, 98, 121, 32, 65, 32, 123, 10, 32, 32, 110, 111, 116, 104, 105, 110, 103, 10, 125, 32, 101, 108, 115, 101, 32, 123, 10, 32, 32, 99, 97, 108, 108, 32, 110, 32, 98, 121, 32, 34, 98, 121, 34, 32, 111, 110, 32, 49, 57, 48, 48, 45, 48, 49, 45, 48, 49, 44, 32, 49, 57, 48, 48, 45, 48, 50, 45, 48, 49, 32, 123, 10, 32, 32, 32, 32, 110, 111, 116, 104, 105, 110, 103, 10, 32, 32, 125, 10, 125]) = true := by rw [toList_data]; rfl
      go_wp2_with fail
      refine (HQ1.out _).mono ?_
      rintro e we ⟨rfl, hb⟩
      have HCB := Lib.hid (HCA.out.trans (hb.mono HCA.out.size))
      clear hb
      go_wp2_with fail
      refine (HQ2.out _).mono ?_
      rintro e wf ⟨rfl, hb⟩
      have HCC := Lib.hid (HCB.out.trans (hb.mono HCB.out.size))
      clear hb
      go_wp2_with fail
      refine (HQ3.out _).mono ?_
      rintro e wg ⟨rfl, hb⟩
      have HCD := Lib.hid (HCC.out.trans (hb.mono HCC.out.size))
      clear hb
      go_wp2_with fail
      refine (HQ4.out _).mono ?_
      rintro e wh ⟨rfl, hb⟩
      have HCE := Lib.hid (HCD.out.trans (hb.mono HCD.out.size))
      clear hb
      go_wp2_with fail
      refine (HQ5.out _ (HBG.out.trans (HCE.out.mono HBG.out.size))).mono ?_
      rintro e wi ⟨rfl, hb⟩
      have HCF := Lib.hid (HCE.out.trans (hb.mono HCE.out.size))
      clear hb
      go_wp2_with fail
      refine (HZR.out _).mono ?_
      rintro e wj ⟨gz, rfl, hrow, hb⟩
      have HCG := Lib.hid (HCF.out.trans (hb.mono HCF.out.size))
      have hcv := zr_conv hrow
      obtain ⟨zs, hzs⟩ : ∃ z : ByteArray, z = ⟨(List.replicate 999 48).toArray⟩ := ⟨_, rfl⟩
      have hzz : zs.size = 999 := by rw [ba_size (show zs.data.toList = List.replicate 999 48 by rw [hzs]), List.length_replicate]
      rw [← hzs] at hcv
      have hzn : zs.size ≤ 1000 := by omega
      have HZS : Hid (ByteArray.mk #[49] ++ zs = bgT 999) := by show _ = _; rw [hzs]; rfl
      clear hb hrow hzz hzs
      go_wp2_with fail
      obtain ⟨bz, hbz⟩ : ∃ z : ByteArray, z = ByteArray.mk #[49] ++ zs := ⟨_, rfl⟩
      have HBZ : Hid (bz = bgT 999) := by show _ = _; rw [hbz]; exact HZS.out
      obtain ⟨V, hV⟩ : ∃ V, V = (wj.alloc (.cells #[.int .u8 1, .string bz, .string ⟨#[]⟩, .int .i64 0, .slice none 0 0] 25)).alloc (.cells #[.int .u8 1, .string bz, .string ⟨#[]⟩, .int .i64 0, .slice none 0 0] 25) := ⟨_, rfl⟩
      rw [← hbz, ← hV]
      have hv1 : V.heap[wj.heap.size + 1]? = some (.cells #[.int .u8 1, .string bz, .string ⟨#[]⟩, .int .i64 0, .slice none 0 0] 25) := by
        rw [hV]
        have := alloc_at (wj.alloc (.cells #[.int .u8 1, .string bz, .string ⟨#[]⟩, .int .i64 0, .slice none 0 0] 25)) (.cells #[.int .u8 1, .string bz, .string ⟨#[]⟩, .int .i64 0, .slice none 0 0] 25)
        rwa [World.size_alloc] at this
      have hv0 : V.heap[wj.heap.size]? = some (.cells #[.int .u8 1, .string bz, .string ⟨#[]⟩, .int .i64 0, .slice none 0 0] 25) := by
        rw [hV]
        exact ((own_below (wj.alloc (.cells #[.int .u8 1, .string bz, .string ⟨#[]⟩, .int .i64 0, .slice none 0 0] 25)) _).block _ (by simp)).trans (alloc_at wj _)
      have hvB : Below wj.heap.size wj V := by rw [hV]; exact (own_below wj _).alloc (by simp) _
      have hvs : V.heap.size = wj.heap.size + 1 + 1 := by rw [hV]; simp
      clear hcv hzn hbz hV HZS
      go_loopw [143] (fun iv wr => ∃ (k : Nat) (c0 c1 c2 c3 c4 : Value), k ≤ 20 ∧ iv = .int .i64 (k : Int) ∧ wr.heap[wj.heap.size]? = some (.cells #[.int .u8 1, .string bz, .string ⟨#[]⟩, .int .i64 0, .slice none 0 0] 25) ∧ wr.heap[wj.heap.size + 1]? = some (.cells #[c0, c1, c2, c3, c4] 25) ∧ ExOn (fun g => wj.heap.size + 1 + 1 ≤ g ∧ g < wr.heap.size) (k + 1) wr [c0, c1, c2, c3, c4] (chT (exR bz) k) ∧ Below wj.heap.size wj wr) (fun iv _ => 20 - (intOf iv).toNat)
      case atStart => exact ⟨0, _, _, _, _, _, Nat.zero_le _, rfl, hv0, hv1, exOn_leaf _ 0 _ 1 bz ⟨#[]⟩ 0, hvB⟩
      case round =>
        obtain ⟨w1, rfl⟩ : ∃ w1 : World, w1 = wr := ⟨_, rfl⟩
        obtain ⟨k, d0, d1, d2, d3, d4, hk, rfl, hbg, hsm, hex, hbb⟩ := hrel
        obtain ⟨p0, p1, p2, p3, p4⟩ := exCells hbg
        obtain ⟨q0, q1, q2, q3, q4⟩ := exCells hsm
        have HBG1 := Lib.hid hbg
        have HSM1 := Lib.hid hsm
        have HEX := Lib.hid hex
        have HBB := Lib.hid hbb
        clear hbg hsm hex hbb hv0 hv1 hvB hvs
        by_cases hlt : k < 20
        · have hk0 : (0 : Int) ≤ (k : Int) := by omega
          have hk1 : (k : Int) < 20 := by omega
          go_wp2_with fail
          refine (HP2.out _ _ _ _ _ _ _ _ _ _ _ _).mono ?_
          rintro e u ⟨g, rfl, hg, hge, hb⟩
          have hsu := (hb.block _ (Array.getElem?_eq_some_iff.1 HSM1.out).1).trans HSM1.out
          have hbu := (hb.block _ (Array.getElem?_eq_some_iff.1 HBG1.out).1).trans HBG1.out
          have fr : ∀ i, u.frozen? ⟨wj.heap.size + 1, i, none⟩ = false := Lib.frozen_of_heap hsu
          have HL := Lib.hid (fun h => lg_round HBB.out HEX.out hsu hbu hg hge (Array.getElem?_eq_some_iff.1 HSM1.out).1 hb h)
          obtain ⟨r0, r1, r2, r3, r4⟩ := exCells hsu
          clear hsu hbu hg hge hb p0 p1 p2 p3 p4 q0 q1 q2 q3 q4
          go_wp2_with fail
          go_roundw
          case rel => exact HL.out hlt
          case measure => simp [intOf] <;> omega
        · obtain rfl : k = 20 := by omega
          have HAT2 : Hid (ExAt 21 w1 [d0, d1, d2, d3, d4] (chT (exR (bgT 999)) 20)) := by
            show ExAt 21 w1 [d0, d1, d2, d3, d4] (chT (exR (bgT 999)) 20)
            rw [← HBZ.out]
            exact ExOn.at (fun g h => h.2) HEX.out
          have HCH := Lib.hid (HCG.out.trans (HBB.out.mono HCG.out.size))
          clear p0 p1 p2 p3 p4
          go_wp2_with fail
          refine (HLONG.out _ (HBG.out.trans (HCH.out.mono HBG.out.size)) [d0, d1, d2, d3, d4] HAT2.out).mono ?_
          rintro e wl ⟨rfl, hb⟩
          have HCI := Lib.hid (HCH.out.trans (hb.mono HCH.out.size))
          clear hb q0 q1 q2 q3 q4
          go_wp2_with fail
          refine (alive14 HSH.out HPT.out _ (HBG.out.trans (HCI.out.mono HBG.out.size))).mono ?_
          rintro e wm ⟨rfl, hb⟩
          have HCJ := Lib.hid (HCI.out.trans (hb.mono HCI.out.size))
          clear hb
          go_wp2_with fail
          go_ret
          exact ⟨rfl, HBG.out.trans (HCJ.out.mono HBG.out.size)⟩

end Go.Proofs.YtijkefflpojmhaaDoor
