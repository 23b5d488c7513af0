/-
  The program's Div, Sub, Compare of rationals, walked. No condition. The program's Div, Sub, Compare of rationals, by value. No condition. novationlaw07.MoneyRounds returns true at every number, currency and mode. Condition: what the package-level variables hold. novationlaw07.MoneyRounds returns true at every number, currency and mode: the ways joined. Condition: what the package-level variables hold.
-/
import Derived.Test.YtnikhbdjlipcbaaGreatDoorVz
import Derived.Test.YtnikhbdjlipcbaaGreatDoorXa
namespace Go.Proofs.YtnikhbdjlipcbaaGreatDoor
open Go.RowKit Go.Shelf

set_option maxHeartbeats 8000000 in
set_option maxRecDepth 100000 in
theorem rdiv_go (a b n0 n1 d0 d1 r1 r2 r : ByteArray) (f1 f2 fm : Int) (w : World) (t0 : (n1.toList == [48]) = false)
    (HBO : Hid (∀ W, Calls Tryz.prog 41 #[.string a, .string b] W (BothP W n0 n1 d0 d1 0)))
    (HK1 : Hid (KeepAt 43 n0 n1 d0 d1 n0 d1 r1 0 f1))
    (HK2 : Hid (KeepAt 43 n0 n1 d0 d1 d0 n1 r2 f1 f2))
    (HM : Hid (MadeAt n0 n1 d0 d1 r1 r2 r f2 fm)) :
    Calls Tryz.prog 18 #[.string a, .string b] w (StE w r fm) := by
  go_enter Tryz.func18, Tryz.ntmps18
  go_wp2_with fail
  refine (HBO.out _).mono ?_
  rintro e w1 ⟨g, rfl, hg, hp, hb⟩
  have HP := Lib.hid hp
  have HB := Lib.hid hb
  have HGL := Lib.hid hg
  have e4 := (pair_cells hp).2.2.2.2
  have e1 := (pair_cells hp).2.1
  clear hp hb hg
  go_wp2_with fail
  clear e4 e1
  refine (keep_any g _ w1).mono ?_
  rintro e w2 ⟨rfl, hq0, hf0, hb0⟩
  have hp2 : PairB w2 g n0 n1 d0 d1 0 := heap_below HP.out hb0
  have HB2 : Hid (Below w.heap.size w w2) := HB.out.trans (hb0.mono HB.out.size)
  obtain ⟨bp0, hbp⟩ : ∃ bp, bp = w1.heap.size := ⟨_, rfl⟩
  rw [← hbp] at hq0 hf0 ⊢
  have HP0 := Lib.hid hp2
  have HALL : Hid (∀ (W : World) (f' : Int), PairB W g n0 n1 d0 d1 f' → W.cell? ⟨g, 0, none⟩ = some (.string n0) ∧ W.cell? ⟨g, 1, none⟩ = some (.string n1) ∧ W.cell? ⟨g, 2, none⟩ = some (.string d0) ∧ W.cell? ⟨g, 3, none⟩ = some (.string d1)) := fun W f' h => ⟨(pair_cells h).1, (pair_cells h).2.1, (pair_cells h).2.2.1, (pair_cells h).2.2.2.1⟩
  have HPD : Hid (PairB w2.drew g n0 n1 d0 d1 0) := hp2
  have HBD : Hid (Below w.heap.size w w2.drew) := HB2.out.drew
  have HQ0_D : Hid (PtrB w2.drew bp0 g) := hq0
  have HF0_D : Hid (FunB w2.drew (bp0 + 1) 43) := hf0
  have HC1 := Lib.hid (HK1.out _ g bp0 (bp0 + 1) HPD.out HQ0_D.out HF0_D.out)
  clear hp2 hq0 hf0 hb0 hbp HP HB
  go_upto_region 5 with (fail)
  go_region_held3 (fun W => W.cell? ⟨g, 0, none⟩ = some (.string n0) ∧ W.cell? ⟨g, 1, none⟩ = some (.string n1) ∧ W.cell? ⟨g, 2, none⟩ = some (.string d0) ∧ W.cell? ⟨g, 3, none⟩ = some (.string d1))
    ((first | with_reducible exact HALL.out _ _ HPM.out | with_reducible exact HALL.out _ _ HP2.out | with_reducible exact HALL.out _ _ HP1.out | with_reducible exact HALL.out _ _ HPD.out | with_reducible exact HALL.out _ _ HP0.out))
    ((first
      | (go_at_call 75; (with_reducible refine HC1.out.mono ?_); rintro e wa1 ⟨rfl, hpa, hga⟩; have HQ0_1 := Lib.hid (HQ0_D.out.kept HPD.out hga); have HF0_1 := Lib.hid (HF0_D.out.kept HPD.out hga); have HB1 : Hid (Below w.heap.size w wa1) := below_only HBD.out hga HBD.out.size HGL.out; have HP1 := Lib.hid hpa; have HC2 := Lib.hid (HK2.out _ g bp0 (bp0 + 1) HP1.out HQ0_1.out HF0_1.out); clear hpa hga)
      | (go_at_call 75; (with_reducible refine HC2.out.mono ?_); rintro e wa2 ⟨rfl, hpa, hga⟩; have HQ0_2 := Lib.hid (HQ0_1.out.kept HP1.out hga); have HF0_2 := Lib.hid (HF0_1.out.kept HP1.out hga); have HB2 : Hid (Below w.heap.size w wa2) := below_only HB1.out hga HB1.out.size HGL.out; have HP2 := Lib.hid hpa; have HC3 := Lib.hid (HM.out _ g HP2.out); clear hpa hga)
      | (go_at_call 44; (with_reducible refine HC3.out.mono ?_); rintro e wm ⟨rfl, hbc⟩; have HBM : Hid (Below w.heap.size w wm) := HB2.out.trans (hbc.mono HB2.out.size); have HPM : Hid (PairB wm g n0 n1 d0 d1 f2) := heap_below HP2.out hbc; clear hbc)))
  all_goals
    go_wp2_with fail
    go_ret2
    exact ⟨rfl, HBM.out⟩

set_option maxHeartbeats 8000000 in
set_option maxRecDepth 100000 in
theorem rsub_go (a b n0 n1 d0 d1 r1 r2 r3 r4 r : ByteArray) (f1 f2 f3 f4 fm : Int) (w : World)
    (HBO : Hid (∀ W, Calls Tryz.prog 41 #[.string a, .string b] W (BothP W n0 n1 d0 d1 0)))
    (HK1 : Hid (KeepAt 43 n0 n1 d0 d1 n0 d1 r1 0 f1))
    (HK2 : Hid (KeepAt 43 n0 n1 d0 d1 n1 d0 r2 f1 f2))
    (HK3 : Hid (KeepAt 45 n0 n1 d0 d1 r1 r2 r3 f2 f3))
    (HK4 : Hid (KeepAt 43 n0 n1 d0 d1 d0 d1 r4 f3 f4))
    (HM : Hid (MadeAt n0 n1 d0 d1 r3 r4 r f4 fm)) :
    Calls Tryz.prog 19 #[.string a, .string b] w (StE w r fm) := by
  go_enter Tryz.func19, Tryz.ntmps19
  go_wp2_with fail
  refine (HBO.out _).mono ?_
  rintro e w1 ⟨g, rfl, hg, hp, hb⟩
  have HP := Lib.hid hp
  have HB := Lib.hid hb
  have HGL := Lib.hid hg
  clear hp hb hg
  go_wp2_with fail
  refine (keep_any g _ w1).mono ?_
  rintro e w2 ⟨rfl, hq0, hf0, hb0⟩
  have hp2 : PairB w2 g n0 n1 d0 d1 0 := heap_below HP.out hb0
  have HB2 : Hid (Below w.heap.size w w2) := HB.out.trans (hb0.mono HB.out.size)
  obtain ⟨bp0, hbp⟩ : ∃ bp, bp = w1.heap.size := ⟨_, rfl⟩
  rw [← hbp] at hq0 hf0 ⊢
  have HQ0x := Lib.hid hq0
  have HF0x := Lib.hid hf0
  have HP2x := Lib.hid hp2
  clear hp2 hq0 hf0 hb0 hbp HP HB
  go_wp2_with fail
  refine (keep_any g _ w2).mono ?_
  rintro e w3 ⟨rfl, hq1, hf1, hb1⟩
  have hp3 : PairB w3 g n0 n1 d0 d1 0 := heap_below HP2x.out hb1
  have HB3 : Hid (Below w.heap.size w w3) := HB2.out.trans (hb1.mono HB2.out.size)
  obtain ⟨bp1, hbp⟩ : ∃ bp, bp = w2.heap.size := ⟨_, rfl⟩
  rw [← hbp] at hq1 hf1 ⊢
  have HP0 := Lib.hid hp3
  have HALL : Hid (∀ (W : World) (f' : Int), PairB W g n0 n1 d0 d1 f' → W.cell? ⟨g, 0, none⟩ = some (.string n0) ∧ W.cell? ⟨g, 1, none⟩ = some (.string n1) ∧ W.cell? ⟨g, 2, none⟩ = some (.string d0) ∧ W.cell? ⟨g, 3, none⟩ = some (.string d1)) := fun W f' h => ⟨(pair_cells h).1, (pair_cells h).2.1, (pair_cells h).2.2.1, (pair_cells h).2.2.2.1⟩
  have HPD : Hid (PairB w3.drew g n0 n1 d0 d1 0) := hp3
  have HBD : Hid (Below w.heap.size w w3.drew) := HB3.out.drew
  have HQ0_D : Hid (PtrB w3.drew bp0 g) := heap_below HQ0x.out hb1.drew
  have HF0_D : Hid (FunB w3.drew (bp0 + 1) 43) := heap_below HF0x.out hb1.drew
  have HQ1_D : Hid (PtrB w3.drew bp1 g) := hq1
  have HF1_D : Hid (FunB w3.drew (bp1 + 1) 45) := hf1
  have HC1 := Lib.hid (HK1.out _ g bp0 (bp0 + 1) HPD.out HQ0_D.out HF0_D.out)
  clear hp3 hq1 hf1 hb1 hbp HP2x HQ0x HF0x
  go_upto_region 3 with (fail)
  go_region_held3 (fun W => W.cell? ⟨g, 0, none⟩ = some (.string n0) ∧ W.cell? ⟨g, 1, none⟩ = some (.string n1) ∧ W.cell? ⟨g, 2, none⟩ = some (.string d0) ∧ W.cell? ⟨g, 3, none⟩ = some (.string d1))
    ((first | with_reducible exact HALL.out _ _ HPM.out | with_reducible exact HALL.out _ _ HP4.out | with_reducible exact HALL.out _ _ HP3.out | with_reducible exact HALL.out _ _ HP2.out | with_reducible exact HALL.out _ _ HP1.out | with_reducible exact HALL.out _ _ HPD.out | with_reducible exact HALL.out _ _ HP0.out))
    ((first
      | (go_at_call 75; (with_reducible refine HC1.out.mono ?_); rintro e wa1 ⟨rfl, hpa, hga⟩; have HQ0_1 := Lib.hid (HQ0_D.out.kept HPD.out hga); have HF0_1 := Lib.hid (HF0_D.out.kept HPD.out hga); have HQ1_1 := Lib.hid (HQ1_D.out.kept HPD.out hga); have HF1_1 := Lib.hid (HF1_D.out.kept HPD.out hga); have HB1 : Hid (Below w.heap.size w wa1) := below_only HBD.out hga HBD.out.size HGL.out; have HP1 := Lib.hid hpa; have HC2 := Lib.hid (HK2.out _ g bp0 (bp0 + 1) HP1.out HQ0_1.out HF0_1.out); clear hpa hga)
      | (go_at_call 75; (with_reducible refine HC2.out.mono ?_); rintro e wa2 ⟨rfl, hpa, hga⟩; have HQ0_2 := Lib.hid (HQ0_1.out.kept HP1.out hga); have HF0_2 := Lib.hid (HF0_1.out.kept HP1.out hga); have HQ1_2 := Lib.hid (HQ1_1.out.kept HP1.out hga); have HF1_2 := Lib.hid (HF1_1.out.kept HP1.out hga); have HB2 : Hid (Below w.heap.size w wa2) := below_only HB1.out hga HB1.out.size HGL.out; have HP2 := Lib.hid hpa; have HC3 := Lib.hid (HK3.out _ g bp1 (bp1 + 1) HP2.out HQ1_2.out HF1_2.out); clear hpa hga)
      | (go_at_call 75; (with_reducible refine HC3.out.mono ?_); rintro e wa3 ⟨rfl, hpa, hga⟩; have HQ0_3 := Lib.hid (HQ0_2.out.kept HP2.out hga); have HF0_3 := Lib.hid (HF0_2.out.kept HP2.out hga); have HQ1_3 := Lib.hid (HQ1_2.out.kept HP2.out hga); have HF1_3 := Lib.hid (HF1_2.out.kept HP2.out hga); have HB3 : Hid (Below w.heap.size w wa3) := below_only HB2.out hga HB2.out.size HGL.out; have HP3 := Lib.hid hpa; have HC4 := Lib.hid (HK4.out _ g bp0 (bp0 + 1) HP3.out HQ0_3.out HF0_3.out); clear hpa hga)
      | (go_at_call 75; (with_reducible refine HC4.out.mono ?_); rintro e wa4 ⟨rfl, hpa, hga⟩; have HQ0_4 := Lib.hid (HQ0_3.out.kept HP3.out hga); have HF0_4 := Lib.hid (HF0_3.out.kept HP3.out hga); have HQ1_4 := Lib.hid (HQ1_3.out.kept HP3.out hga); have HF1_4 := Lib.hid (HF1_3.out.kept HP3.out hga); have HB4 : Hid (Below w.heap.size w wa4) := below_only HB3.out hga HB3.out.size HGL.out; have HP4 := Lib.hid hpa; have HC5 := Lib.hid (HM.out _ g HP4.out); clear hpa hga)
      | (go_at_call 44; (with_reducible refine HC5.out.mono ?_); rintro e wm ⟨rfl, hbc⟩; have HBM : Hid (Below w.heap.size w wm) := HB4.out.trans (hbc.mono HB4.out.size); have HPM : Hid (PairB wm g n0 n1 d0 d1 f4) := heap_below HP4.out hbc; clear hbc)))
  all_goals
    go_wp2_with fail
    go_ret2
    exact ⟨rfl, HBM.out⟩

set_option maxHeartbeats 8000000 in
set_option maxRecDepth 100000 in
theorem rcmp_go (a b n0 n1 d0 d1 r1 r2 : ByteArray) (q : Int) (w : World)
    (HBO : Hid (∀ W, Calls Tryz.prog 41 #[.string a, .string b] W (BothP W n0 n1 d0 d1 0)))
    (HK1 : Hid (KeepAt 43 n0 n1 d0 d1 n0 d1 r1 0 0))
    (HK2 : Hid (KeepAt 43 n0 n1 d0 d1 n1 d0 r2 0 0))
    (HC : Hid (∀ W, Calls Tryz.prog 47 #[.string r1, .string r2] W (CmE W q))) :
    Calls Tryz.prog 21 #[.string a, .string b] w (CmE w q) := by
  go_enter Tryz.func21, Tryz.ntmps21
  go_wp2_with fail
  refine (HBO.out _).mono ?_
  rintro e w1 ⟨g, rfl, hg, hp, hb⟩
  have HP := Lib.hid hp
  have HB := Lib.hid hb
  have HGL := Lib.hid hg
  clear hp hb hg
  go_wp2_with fail
  refine (keep_any g _ w1).mono ?_
  rintro e w2 ⟨rfl, hq0, hf0, hb0⟩
  have hp2 : PairB w2 g n0 n1 d0 d1 0 := heap_below HP.out hb0
  have HB2 : Hid (Below w.heap.size w w2) := HB.out.trans (hb0.mono HB.out.size)
  obtain ⟨bp0, hbp⟩ : ∃ bp, bp = w1.heap.size := ⟨_, rfl⟩
  rw [← hbp] at hq0 hf0 ⊢
  have HP0 := Lib.hid hp2
  have HALL : Hid (∀ (W : World) (f' : Int), PairB W g n0 n1 d0 d1 f' → W.cell? ⟨g, 0, none⟩ = some (.string n0) ∧ W.cell? ⟨g, 1, none⟩ = some (.string n1) ∧ W.cell? ⟨g, 2, none⟩ = some (.string d0) ∧ W.cell? ⟨g, 3, none⟩ = some (.string d1)) := fun W f' h => ⟨(pair_cells h).1, (pair_cells h).2.1, (pair_cells h).2.2.1, (pair_cells h).2.2.2.1⟩
  have HPD : Hid (PairB w2.drew g n0 n1 d0 d1 0) := hp2
  have HBD : Hid (Below w.heap.size w w2.drew) := HB2.out.drew
  have HQ0_D : Hid (PtrB w2.drew bp0 g) := hq0
  have HF0_D : Hid (FunB w2.drew (bp0 + 1) 43) := hf0
  have HC1 := Lib.hid (HK1.out _ g bp0 (bp0 + 1) HPD.out HQ0_D.out HF0_D.out)
  clear hp2 hq0 hf0 hb0 hbp HP HB
  go_upto_region 3 with (fail)
  go_region_held3 (fun W => W.cell? ⟨g, 0, none⟩ = some (.string n0) ∧ W.cell? ⟨g, 1, none⟩ = some (.string n1) ∧ W.cell? ⟨g, 2, none⟩ = some (.string d0) ∧ W.cell? ⟨g, 3, none⟩ = some (.string d1))
    ((first | with_reducible exact HALL.out _ _ HP2.out | with_reducible exact HALL.out _ _ HP1.out | with_reducible exact HALL.out _ _ HPD.out | with_reducible exact HALL.out _ _ HP0.out))
    ((first
      | (go_at_call 75; (with_reducible refine HC1.out.mono ?_); rintro e wa1 ⟨rfl, hpa, hga⟩; have HQ0_1 := Lib.hid (HQ0_D.out.kept HPD.out hga); have HF0_1 := Lib.hid (HF0_D.out.kept HPD.out hga); have HB1 : Hid (Below w.heap.size w wa1) := below_only HBD.out hga HBD.out.size HGL.out; have HP1 := Lib.hid hpa; have HC2 := Lib.hid (HK2.out _ g bp0 (bp0 + 1) HP1.out HQ0_1.out HF0_1.out); clear hpa hga)
      | (go_at_call 75; (with_reducible refine HC2.out.mono ?_); rintro e wa2 ⟨rfl, hpa, hga⟩; have HQ0_2 := Lib.hid (HQ0_1.out.kept HP1.out hga); have HF0_2 := Lib.hid (HF0_1.out.kept HP1.out hga); have HB2 : Hid (Below w.heap.size w wa2) := below_only HB1.out hga HB1.out.size HGL.out; have HP2 := Lib.hid hpa; clear hpa hga)))
  all_goals
    have e4 := (pair_cells HP2.out).2.2.2.2
    go_wp2_with fail
    refine (HC.out _).mono ?_
    rintro e wz ⟨rfl, hz⟩
    have HZ : Hid (Below w.heap.size w wz) := HB2.out.trans (hz.mono HB2.out.size)
    clear hz
    go_wp2_with fail
    go_ret2
    exact ⟨rfl, HZ.out⟩


end Go.Proofs.YtnikhbdjlipcbaaGreatDoor

namespace Go.Proofs.YtnikhbdjlipcbaaGreatDoor
open Go.RowKit Go.Shelf

theorem bigZ_dig {z : Int} {m : Nat} (h : z.natAbs < 10 ^ m) (h0 : 0 < m) (hm : m ≤ 1000) : bigZ z = false := by
  have h1 := (decN_len_le z.natAbs m h0).2 h
  unfold bigZ
  simp; omega
theorem prod_dig {x y : Int} {i j : Nat} (hx : x.natAbs < 10 ^ i) (hy : y.natAbs < 10 ^ j) : (x * y).natAbs < 10 ^ (i + j) := by
  rw [Int.natAbs_mul, Nat.pow_add]
  exact Nat.mul_lt_mul'' hx hy
theorem diff_dig {x y : Int} {i : Nat} (hx : x.natAbs < 10 ^ i) (hy : y.natAbs < 10 ^ i) : (x + -y).natAbs < 10 ^ (i + 1) := by
  rw [Nat.pow_succ]; omega
theorem mul_st (x y : Int) (bx : bigZ x = false) (byy : bigZ y = false) (bxy : bigZ (x * y) = false) : Hid (∀ W, Calls Tryz.prog 43 #[.string ⟨(txtZ x).toArray⟩, .string ⟨(txtZ y).toArray⟩] W (StE W ⟨(txtZ (x * y)).toArray⟩ 0)) := by
  have h := mul_ste x y bx byy
  simp only [bxy, Bool.false_eq_true, if_false] at h
  exact h
theorem sub_st (x y : Int) (bx : bigZ x = false) (byy : bigZ y = false) (bxy : bigZ (x + -y) = false) : Hid (∀ W, Calls Tryz.prog 45 #[.string ⟨(txtZ x).toArray⟩, .string ⟨(txtZ y).toArray⟩] W (StE W ⟨(txtZ (x + -y)).toArray⟩ 0)) := by
  have h : ∀ W, Calls Tryz.prog 45 #[.string ⟨(txtZ x).toArray⟩, .string ⟨(txtZ y).toArray⟩] W (StE W (if bigZ (x + -y) = true then ⟨#[]⟩ else ⟨(txtZ (x + -y)).toArray⟩) (if bigZ (x + -y) = true then 14 else 0)) := fun W =>
    (sub_ok _ _ x y W (by have := bs_len x bx; omega) (by have := bs_len y byy; omega) rfl rfl bx byy).mono fun _ _ hh => hh.ste
  simp only [bxy, Bool.false_eq_true, if_false] at h
  exact h
theorem kMul {n0 n1 d0 d1 : ByteArray} (x y : Int) (bx : bigZ x = false) (byy : bigZ y = false) (bxy : bigZ (x * y) = false) : Hid (KeepAt 43 n0 n1 d0 d1 ⟨(txtZ x).toArray⟩ ⟨(txtZ y).toArray⟩ ⟨(txtZ (x * y)).toArray⟩ 0 0) := fun W g bp bf hp hq hf =>
  keep1_Mul g bp bf _ _ _ _ _ _ _ _ W hp hq hf (mul_st x y bx byy bxy)
theorem kSub {n0 n1 d0 d1 : ByteArray} (x y : Int) (bx : bigZ x = false) (byy : bigZ y = false) (bxy : bigZ (x + -y) = false) : Hid (KeepAt 45 n0 n1 d0 d1 ⟨(txtZ x).toArray⟩ ⟨(txtZ y).toArray⟩ ⟨(txtZ (x + -y)).toArray⟩ 0 0) := fun W g bp bf hp hq hf =>
  keep1_Sub g bp bf _ _ _ _ _ _ _ _ W hp hq hf (sub_st x y bx byy bxy)
theorem kMade {n0 n1 d0 d1 : ByteArray} (x y : Int) (bx : bigZ x = false) (byy : bigZ y = false) (h0 : y ≠ 0) : Hid (MadeAt n0 n1 d0 d1 ⟨(txtZ x).toArray⟩ ⟨(txtZ y).toArray⟩ ⟨(ratT (ratN x y) (ratD x y)).toArray⟩ 0 0) := fun W g hp =>
  made_go g _ _ _ _ _ _ _ 0 W hp (Lib.hid fun W => (make_ok _ _ x y W (by have := bs_len _ bx; omega) (by have := bs_len _ byy; omega) rfl rfl bx byy h0).mono fun _ _ hh => hh)
theorem both_ok (a b : ByteArray) (n1 d1 n2 d2 : Int) (ha : a.size ≤ 100000) (hb : b.size ≤ 100000) (la : a.data.toList = ratT n1 d1) (lb : b.data.toList = ratT n2 d2) (h1 : RatOK n1 d1) (h2 : RatOK n2 d2) :
    Hid (∀ W, Calls Tryz.prog 41 #[.string a, .string b] W (BothP W ⟨(txtZ n1).toArray⟩ ⟨(txtZ n2).toArray⟩ ⟨(txtZ d1).toArray⟩ ⟨(txtZ d2).toArray⟩ 0)) := fun W =>
  both_any a b _ _ _ _ 0 0 W (Lib.hid fun W => parts_ok a n1 d1 W ha la h1) (fun _ => Lib.hid fun W => parts_ok b n2 d2 W hb lb h2) (fun h => absurd rfl h)
theorem rdiv_ok (a b : ByteArray) (n1 d1 n2 d2 : Int) (w : World) (ha : a.size ≤ 100000) (hb : b.size ≤ 100000) (la : a.data.toList = ratT n1 d1) (lb : b.data.toList = ratT n2 d2) (h1 : RatOK n1 d1) (h2 : RatOK n2 d2) (h0 : n2 ≠ 0) (b1 : bigZ (n1 * d2) = false) (b2 : bigZ (d1 * n2) = false) :
    Calls Tryz.prog 18 #[.string a, .string b] w (StE w ⟨(ratT (ratN (n1 * d2) (d1 * n2)) (ratD (n1 * d2) (d1 * n2))).toArray⟩ 0) := by
  have HBO := both_ok a b n1 d1 n2 d2 ha hb la lb h1 h2
  obtain ⟨p1, _, bn1, bd1⟩ := h1
  obtain ⟨p2, _, bn2, bd2⟩ := h2
  exact rdiv_go a b _ _ _ _ _ _ _ 0 0 0 w (by rw [bs_zero]; exact decide_eq_false h0) HBO (kMul n1 d2 bn1 bd2 b1) (kMul d1 n2 bd1 bn2 b2) (kMade _ _ b1 b2 (Int.mul_ne_zero (by omega) h0))
theorem rsub_ok (a b : ByteArray) (n1 d1 n2 d2 : Int) (w : World) (ha : a.size ≤ 100000) (hb : b.size ≤ 100000) (la : a.data.toList = ratT n1 d1) (lb : b.data.toList = ratT n2 d2) (h1 : RatOK n1 d1) (h2 : RatOK n2 d2) (b1 : bigZ (n1 * d2) = false) (b2 : bigZ (n2 * d1) = false) (b3 : bigZ (n1 * d2 + -(n2 * d1)) = false) (b4 : bigZ (d1 * d2) = false) :
    Calls Tryz.prog 19 #[.string a, .string b] w (StE w ⟨(ratT (ratN (n1 * d2 + -(n2 * d1)) (d1 * d2)) (ratD (n1 * d2 + -(n2 * d1)) (d1 * d2))).toArray⟩ 0) := by
  have HBO := both_ok a b n1 d1 n2 d2 ha hb la lb h1 h2
  obtain ⟨p1, _, bn1, bd1⟩ := h1
  obtain ⟨p2, _, bn2, bd2⟩ := h2
  exact rsub_go a b _ _ _ _ _ _ _ _ _ 0 0 0 0 0 w HBO (kMul n1 d2 bn1 bd2 b1) (kMul n2 d1 bn2 bd1 b2) (kSub _ _ b1 b2 b3) (kMul d1 d2 bd1 bd2 b4) (kMade _ _ b3 b4 (Int.mul_ne_zero (by omega) (by omega)))
theorem rcmp_ok (a b : ByteArray) (n1 d1 n2 d2 : Int) (w : World) (ha : a.size ≤ 100000) (hb : b.size ≤ 100000) (la : a.data.toList = ratT n1 d1) (lb : b.data.toList = ratT n2 d2) (h1 : RatOK n1 d1) (h2 : RatOK n2 d2) (b1 : bigZ (n1 * d2) = false) (b2 : bigZ (n2 * d1) = false) :
    Calls Tryz.prog 21 #[.string a, .string b] w (CmE w (cmpZ (n1 * d2) (n2 * d1))) := by
  have HBO := both_ok a b n1 d1 n2 d2 ha hb la lb h1 h2
  obtain ⟨p1, _, bn1, bd1⟩ := h1
  obtain ⟨p2, _, bn2, bd2⟩ := h2
  exact rcmp_go a b _ _ _ _ _ _ _ w HBO (kMul n1 d2 bn1 bd2 b1) (kMul n2 d1 bn2 bd1 b2) (Lib.hid fun W => icmp_ok _ _ _ _ W (by have := bs_len _ b1; omega) (by have := bs_len _ b2; omega) rfl rfl b1 b2)

theorem cmpZ_ge {x y : Int} : 0 ≤ cmpZ x y ↔ y ≤ x := by
  unfold cmpZ
  repeat' split
  all_goals omega
theorem cmpZ_le {x y : Int} : cmpZ x y ≤ 0 ↔ x ≤ y := by
  unfold cmpZ
  repeat' split
  all_goals omega
theorem rndUp_t {k : Nat} {odd : Bool} {c : Int} (hk : k = 2 ∨ k = 3) (h : rndUp k odd c = true) : 0 ≤ c := by
  rcases hk with hk | hk <;> subst hk
  · simpa [rndUp] using h
  · simp [rndUp] at h; omega
theorem rndUp_f {k : Nat} {odd : Bool} {c : Int} (hk : k = 2 ∨ k = 3) (h : rndUp k odd c = false) : c ≤ 0 := by
  rcases hk with hk | hk <;> subst hk
  · simp [rndUp] at h; omega
  · simp [rndUp] at h; omega
/-- How the rest of a rounding lies: z against N / D. -/
theorem rndQ_spec (k N D : Nat) (hD : 0 < D) : ∃ Q R, N = D * Q + R ∧ R < D ∧ ((rndQ k N D = Q ∧ (R = 0 ∨ rndUp k (decide (Q % 2 = 1)) (cmpZ R ((D : Int) + -(R : Int))) = false)) ∨ (rndQ k N D = Q + 1 ∧ R ≠ 0 ∧ rndUp k (decide (Q % 2 = 1)) (cmpZ R ((D : Int) + -(R : Int))) = true)) := by
  refine ⟨N / D, N % D, (Nat.div_add_mod N D).symm, Nat.mod_lt _ hD, ?_⟩
  unfold rndQ rndB
  by_cases h0 : N % D = 0
  · left; simp [h0]
  · cases e : rndUp k (decide (N / D % 2 = 1)) (cmpZ (N % D : Nat) ((D : Int) + -((N % D : Nat) : Int))) with
    | true => right; simp [h0]
    | false => left; simp [h0]
def OffOK (k : Nat) (s M D : Int) : Prop := -D < M ∧ M < D ∧ (k = 0 → M = 0 ∨ (0 < M ∧ 0 < s) ∨ (M < 0 ∧ s < 0)) ∧ (k = 1 → M = 0 ∨ (0 < M ∧ s < 0) ∨ (M < 0 ∧ 0 < s)) ∧ (k = 4 → 0 ≤ M) ∧ ((k = 2 ∨ k = 3) → -D ≤ 2 * M ∧ 2 * M ≤ D)
theorem rndQ_off (k N D : Nat) (hD : 0 < D) (hk : k < 4) : OffOK k (N : Int) ((N : Int) - (rndQ k N D : Int) * D) D := by
  obtain ⟨Q, R, hN, hR, h⟩ := rndQ_spec k N D hD
  have hNZ : (N : Int) = (D : Int) * Q + R := by rw [hN]; push_cast; rfl
  unfold OffOK
  rcases h with ⟨hq, hb⟩ | ⟨hq, hr, hb⟩
  · have hM : (N : Int) - (rndQ k N D : Int) * D = R := by rw [hq, hNZ, Int.mul_comm]; omega
    rw [hM]
    have hN0 : 0 < (R : Int) → 0 < (N : Int) := fun h => by
      have : 0 ≤ (D : Int) * Q := Int.mul_nonneg (by omega) (by omega)
      omega
    refine ⟨by omega, by omega, fun _ => ?_, fun h => ?_, fun h => by omega, fun h => ?_⟩
    · by_cases h0 : R = 0
      · left; omega
      · right; left; exact ⟨by omega, hN0 (by omega)⟩
    · rcases hb with hb | hb
      · left; omega
      · subst h; simp [rndUp] at hb
    · rcases hb with hb | hb
      · omega
      · have := cmpZ_le.1 (rndUp_f h hb)
        omega
  · have hM : (N : Int) - (rndQ k N D : Int) * D = R - D := by
      rw [hq, hNZ]; push_cast; rw [Int.add_mul, Int.mul_comm (Q : Int)]; omega
    rw [hM]
    have hN0 : 0 < (N : Int) := by
      have : 0 ≤ (D : Int) * Q := Int.mul_nonneg (by omega) (by omega)
      omega
    refine ⟨by omega, by omega, fun h => ?_, fun h => ?_, fun h => by omega, fun h => ?_⟩
    · subst h; simp [rndUp] at hb
    · right; right; exact ⟨by omega, hN0⟩
    · have := cmpZ_ge.1 (rndUp_t h hb)
      omega
theorem round_off (k : Nat) (n d : Int) (hd : 0 < d) (hk : k < 5) : OffOK k n (n - roundZ k n d * d) d := by
  by_cases h4 : k = 4
  · subst h4
    have e : n - roundZ 4 n d * d = n % d := by
      show n - n / d * d = _
      have := Int.emod_add_mul_ediv n d
      rw [Int.mul_comm]; omega
    rw [e]
    have h1 := Int.emod_nonneg n (by omega : d ≠ 0)
    have h2 := Int.emod_lt_of_pos n hd
    exact ⟨by omega, h2, fun h => by omega, fun h => by omega, fun _ => h1, fun h => by omega⟩
  · obtain ⟨D, rfl⟩ : ∃ D : Nat, d = D := ⟨d.natAbs, by omega⟩
    have hb := rndQ_off k n.natAbs D (by omega) (by omega)
    unfold roundZ
    rw [if_neg h4, Int.natAbs_natCast]
    by_cases hn : n < 0
    · rw [if_pos hn]
      have e : n - -(rndQ k n.natAbs D : Int) * D = -((n.natAbs : Int) - (rndQ k n.natAbs D : Int) * D) := by
        rw [Int.neg_mul]; omega
      rw [e]
      obtain ⟨M, hM⟩ : ∃ M, M = (n.natAbs : Int) - (rndQ k n.natAbs D : Int) * D := ⟨_, rfl⟩
      rw [← hM] at hb ⊢
      unfold OffOK at hb ⊢
      omega
    · rw [if_neg hn]
      rw [show (n.natAbs : Int) = n by omega] at hb
      exact hb

end Go.Proofs.YtnikhbdjlipcbaaGreatDoor

namespace Go.Proofs.YtnikhbdjlipcbaaGreatDoor
open Go.RowKit Go.Shelf

set_option maxHeartbeats 8000000 in
set_option maxRecDepth 100000 in
theorem mrounds_long (r c : ByteArray) (k : Nat) (w : World) (HAL : Hid (AlY w)) (h : 900 < r.size) : Calls Tryz.prog 7 #[.string r, .string c, .int .u8 (k : Int)] w (RetBD w true) := by
  have g1 : decide ((900 : Int) < (r.size : Int)) = true := by simp; omega
  clear h
  go_enter Tryz.func7, Tryz.ntmps7
  go_wp2_with fail
  refine (HAL.out _ (Below.refl _ _)).mono ?_
  rintro e w1 ⟨rfl, b1⟩
  have B1 := Lib.hid b1
  clear b1
  go_wp2_with fail
  go_ret
  exact ⟨rfl, B1.out⟩

set_option maxHeartbeats 8000000 in
set_option maxRecDepth 100000 in
theorem mrounds_err (r c one : ByteArray) (k : Nat) (e f : Int) (w : World) (HAL : Hid (AlY w)) (hr : r.size ≤ 900) (H1 : Hid (Ct w 13 #[.string r, .string c, .int .u8 (k : Int)] (.tuple #[.int .i64 0, .int .i64 e]))) (t1 : (e != 0) = true) (H2 : Hid (Ct w 12 #[.int .i64 1, .string c] (.tuple #[.string one, .int .i64 f]))) : Calls Tryz.prog 7 #[.string r, .string c, .int .u8 (k : Int)] w (RetBD w true) := by
  have g1 : decide ((900 : Int) < (r.size : Int)) = false := by simp; omega
  go_enter Tryz.func7, Tryz.ntmps7
  go_wp2_with fail
  refine (HAL.out _ (Below.refl _ _)).mono ?_
  rintro e w1 ⟨rfl, b1⟩
  have B1 := Lib.hid b1
  clear b1
  go_wp2_with fail
  refine (H1.out.use B1.out).mono ?_
  rintro e w2 ⟨rfl, b2⟩
  have B2 := Lib.hid (B1.out.trans (b2.mono B1.out.size))
  clear b2
  go_wp2_with fail
  refine (H2.out.use B2.out).mono ?_
  rintro e w3 ⟨rfl, b3⟩
  have B3 := Lib.hid (B2.out.trans (b3.mono B2.out.size))
  clear b3
  go_wp2_with fail
  go_ret
  exact ⟨rfl, B3.out⟩

set_option maxHeartbeats 8000000 in
set_option maxRecDepth 100000 in
theorem mrounds_0z (r c one x zt off : ByteArray) (z sg ls mo : Int) (w : World) (HAL : Hid (AlY w)) (hr : r.size ≤ 900) (H1 : Hid (Ct w 13 #[.string r, .string c, .int .u8 0] (.tuple #[.int .i64 z, .int .i64 0]))) (H2 : Hid (Ct w 12 #[.int .i64 1, .string c] (.tuple #[.string one, .int .i64 0])))
    (H3 : Hid (Ct w 18 #[.string r, .string one] (.tuple #[.string x, .int .i64 0]))) (H4 : Hid (Ct w 20 #[.int .i64 z] (.string zt))) (H5 : Hid (Ct w 19 #[.string x, .string zt] (.tuple #[.string off, .int .i64 0])))
    (C1 : Hid (Ct w 21 #[.string x, .string ⟨#[48]⟩] (.tuple #[.int .i64 sg, .int .i64 0])))
    (C2 : Hid (Ct w 21 #[.string off, .string ⟨#[48]⟩] (.tuple #[.int .i64 0, .int .i64 0])))
    (C3 : Hid (Ct w 21 #[.string off, .string ⟨#[45, 49]⟩] (.tuple #[.int .i64 1, .int .i64 0])))
    (C4 : Hid (Ct w 21 #[.string off, .string ⟨#[49]⟩] (.tuple #[.int .i64 (-1), .int .i64 0])))
    (C5 : Hid (Ct w 21 #[.string off, .string ⟨#[45, 49, 47, 50]⟩] (.tuple #[.int .i64 ls, .int .i64 0])))
    (C6 : Hid (Ct w 21 #[.string off, .string ⟨#[49, 47, 50]⟩] (.tuple #[.int .i64 mo, .int .i64 0]))) :
    Calls Tryz.prog 7 #[.string r, .string c, .int .u8 0] w (RetBD w true) := by
  have g1 : decide ((900 : Int) < (r.size : Int)) = false := by simp; omega
  go_enter Tryz.func7, Tryz.ntmps7
  go_wp2_with fail
  refine (HAL.out _ (Below.refl _ _)).mono ?_
  rintro e w1 ⟨rfl, b1⟩
  have B1 := Lib.hid b1
  clear b1
  go_wp2_with fail
  refine (H1.out.use B1.out).mono ?_
  rintro e w2 ⟨rfl, b2⟩
  have B2 := Lib.hid (B1.out.trans (b2.mono B1.out.size))
  clear b2
  go_wp2_with fail
  refine (H2.out.use B2.out).mono ?_
  rintro e w3 ⟨rfl, b3⟩
  have B3 := Lib.hid (B2.out.trans (b3.mono B2.out.size))
  clear b3
  go_wp2_with fail
  refine (H3.out.use B3.out).mono ?_
  rintro e w4 ⟨rfl, b4⟩
  have B4 := Lib.hid (B3.out.trans (b4.mono B3.out.size))
  clear b4
  go_wp2_with fail
  refine (H4.out.use B4.out).mono ?_
  rintro e w5 ⟨rfl, b5⟩
  have B5 := Lib.hid (B4.out.trans (b5.mono B4.out.size))
  clear b5
  go_wp2_with fail
  refine (H5.out.use B5.out).mono ?_
  rintro e w6 ⟨rfl, b6⟩
  have B6 := Lib.hid (B5.out.trans (b6.mono B5.out.size))
  clear b6
  go_wp2_with fail
  refine (C1.out.use B6.out).mono ?_
  rintro e w7 ⟨rfl, b7⟩
  have B7 := Lib.hid (B6.out.trans (b7.mono B6.out.size))
  clear b7
  go_wp2_with fail
  refine (C2.out.use B7.out).mono ?_
  rintro e w8 ⟨rfl, b8⟩
  have B8 := Lib.hid (B7.out.trans (b8.mono B7.out.size))
  clear b8
  go_wp2_with fail
  refine (C3.out.use B8.out).mono ?_
  rintro e w9 ⟨rfl, b9⟩
  have B9 := Lib.hid (B8.out.trans (b9.mono B8.out.size))
  clear b9
  go_wp2_with fail
  refine (C4.out.use B9.out).mono ?_
  rintro e w10 ⟨rfl, b10⟩
  have B10 := Lib.hid (B9.out.trans (b10.mono B9.out.size))
  clear b10
  go_wp2_with fail
  refine (C5.out.use B10.out).mono ?_
  rintro e w11 ⟨rfl, b11⟩
  have B11 := Lib.hid (B10.out.trans (b11.mono B10.out.size))
  clear b11
  go_wp2_with fail
  refine (C6.out.use B11.out).mono ?_
  rintro e w12 ⟨rfl, b12⟩
  have B12 := Lib.hid (B11.out.trans (b12.mono B11.out.size))
  clear b12
  go_wp2_with fail
  go_ret
  exact ⟨rfl, B12.out⟩

set_option maxHeartbeats 8000000 in
set_option maxRecDepth 100000 in
theorem mrounds_0p (r c one x zt off : ByteArray) (z ls mo : Int) (w : World) (HAL : Hid (AlY w)) (hr : r.size ≤ 900) (H1 : Hid (Ct w 13 #[.string r, .string c, .int .u8 0] (.tuple #[.int .i64 z, .int .i64 0]))) (H2 : Hid (Ct w 12 #[.int .i64 1, .string c] (.tuple #[.string one, .int .i64 0])))
    (H3 : Hid (Ct w 18 #[.string r, .string one] (.tuple #[.string x, .int .i64 0]))) (H4 : Hid (Ct w 20 #[.int .i64 z] (.string zt))) (H5 : Hid (Ct w 19 #[.string x, .string zt] (.tuple #[.string off, .int .i64 0])))
    (C1 : Hid (Ct w 21 #[.string x, .string ⟨#[48]⟩] (.tuple #[.int .i64 1, .int .i64 0])))
    (C2 : Hid (Ct w 21 #[.string off, .string ⟨#[48]⟩] (.tuple #[.int .i64 1, .int .i64 0])))
    (C3 : Hid (Ct w 21 #[.string off, .string ⟨#[45, 49]⟩] (.tuple #[.int .i64 1, .int .i64 0])))
    (C4 : Hid (Ct w 21 #[.string off, .string ⟨#[49]⟩] (.tuple #[.int .i64 (-1), .int .i64 0])))
    (C5 : Hid (Ct w 21 #[.string off, .string ⟨#[45, 49, 47, 50]⟩] (.tuple #[.int .i64 ls, .int .i64 0])))
    (C6 : Hid (Ct w 21 #[.string off, .string ⟨#[49, 47, 50]⟩] (.tuple #[.int .i64 mo, .int .i64 0]))) :
    Calls Tryz.prog 7 #[.string r, .string c, .int .u8 0] w (RetBD w true) := by
  have g1 : decide ((900 : Int) < (r.size : Int)) = false := by simp; omega
  go_enter Tryz.func7, Tryz.ntmps7
  go_wp2_with fail
  refine (HAL.out _ (Below.refl _ _)).mono ?_
  rintro e w1 ⟨rfl, b1⟩
  have B1 := Lib.hid b1
  clear b1
  go_wp2_with fail
  refine (H1.out.use B1.out).mono ?_
  rintro e w2 ⟨rfl, b2⟩
  have B2 := Lib.hid (B1.out.trans (b2.mono B1.out.size))
  clear b2
  go_wp2_with fail
  refine (H2.out.use B2.out).mono ?_
  rintro e w3 ⟨rfl, b3⟩
  have B3 := Lib.hid (B2.out.trans (b3.mono B2.out.size))
  clear b3
  go_wp2_with fail
  refine (H3.out.use B3.out).mono ?_
  rintro e w4 ⟨rfl, b4⟩
  have B4 := Lib.hid (B3.out.trans (b4.mono B3.out.size))
  clear b4
  go_wp2_with fail
  refine (H4.out.use B4.out).mono ?_
  rintro e w5 ⟨rfl, b5⟩
  have B5 := Lib.hid (B4.out.trans (b5.mono B4.out.size))
  clear b5
  go_wp2_with fail
  refine (H5.out.use B5.out).mono ?_
  rintro e w6 ⟨rfl, b6⟩
  have B6 := Lib.hid (B5.out.trans (b6.mono B5.out.size))
  clear b6
  go_wp2_with fail
  refine (C1.out.use B6.out).mono ?_
  rintro e w7 ⟨rfl, b7⟩
  have B7 := Lib.hid (B6.out.trans (b7.mono B6.out.size))
  clear b7
  go_wp2_with fail
  refine (C2.out.use B7.out).mono ?_
  rintro e w8 ⟨rfl, b8⟩
  have B8 := Lib.hid (B7.out.trans (b8.mono B7.out.size))
  clear b8
  go_wp2_with fail
  refine (C3.out.use B8.out).mono ?_
  rintro e w9 ⟨rfl, b9⟩
  have B9 := Lib.hid (B8.out.trans (b9.mono B8.out.size))
  clear b9
  go_wp2_with fail
  refine (C4.out.use B9.out).mono ?_
  rintro e w10 ⟨rfl, b10⟩
  have B10 := Lib.hid (B9.out.trans (b10.mono B9.out.size))
  clear b10
  go_wp2_with fail
  refine (C5.out.use B10.out).mono ?_
  rintro e w11 ⟨rfl, b11⟩
  have B11 := Lib.hid (B10.out.trans (b11.mono B10.out.size))
  clear b11
  go_wp2_with fail
  refine (C6.out.use B11.out).mono ?_
  rintro e w12 ⟨rfl, b12⟩
  have B12 := Lib.hid (B11.out.trans (b12.mono B11.out.size))
  clear b12
  go_wp2_with fail
  go_ret
  exact ⟨rfl, B12.out⟩

set_option maxHeartbeats 8000000 in
set_option maxRecDepth 100000 in
theorem mrounds_0n (r c one x zt off : ByteArray) (z ls mo : Int) (w : World) (HAL : Hid (AlY w)) (hr : r.size ≤ 900) (H1 : Hid (Ct w 13 #[.string r, .string c, .int .u8 0] (.tuple #[.int .i64 z, .int .i64 0]))) (H2 : Hid (Ct w 12 #[.int .i64 1, .string c] (.tuple #[.string one, .int .i64 0])))
    (H3 : Hid (Ct w 18 #[.string r, .string one] (.tuple #[.string x, .int .i64 0]))) (H4 : Hid (Ct w 20 #[.int .i64 z] (.string zt))) (H5 : Hid (Ct w 19 #[.string x, .string zt] (.tuple #[.string off, .int .i64 0])))
    (C1 : Hid (Ct w 21 #[.string x, .string ⟨#[48]⟩] (.tuple #[.int .i64 (-1), .int .i64 0])))
    (C2 : Hid (Ct w 21 #[.string off, .string ⟨#[48]⟩] (.tuple #[.int .i64 (-1), .int .i64 0])))
    (C3 : Hid (Ct w 21 #[.string off, .string ⟨#[45, 49]⟩] (.tuple #[.int .i64 1, .int .i64 0])))
    (C4 : Hid (Ct w 21 #[.string off, .string ⟨#[49]⟩] (.tuple #[.int .i64 (-1), .int .i64 0])))
    (C5 : Hid (Ct w 21 #[.string off, .string ⟨#[45, 49, 47, 50]⟩] (.tuple #[.int .i64 ls, .int .i64 0])))
    (C6 : Hid (Ct w 21 #[.string off, .string ⟨#[49, 47, 50]⟩] (.tuple #[.int .i64 mo, .int .i64 0]))) :
    Calls Tryz.prog 7 #[.string r, .string c, .int .u8 0] w (RetBD w true) := by
  have g1 : decide ((900 : Int) < (r.size : Int)) = false := by simp; omega
  go_enter Tryz.func7, Tryz.ntmps7
  go_wp2_with fail
  refine (HAL.out _ (Below.refl _ _)).mono ?_
  rintro e w1 ⟨rfl, b1⟩
  have B1 := Lib.hid b1
  clear b1
  go_wp2_with fail
  refine (H1.out.use B1.out).mono ?_
  rintro e w2 ⟨rfl, b2⟩
  have B2 := Lib.hid (B1.out.trans (b2.mono B1.out.size))
  clear b2
  go_wp2_with fail
  refine (H2.out.use B2.out).mono ?_
  rintro e w3 ⟨rfl, b3⟩
  have B3 := Lib.hid (B2.out.trans (b3.mono B2.out.size))
  clear b3
  go_wp2_with fail
  refine (H3.out.use B3.out).mono ?_
  rintro e w4 ⟨rfl, b4⟩
  have B4 := Lib.hid (B3.out.trans (b4.mono B3.out.size))
  clear b4
  go_wp2_with fail
  refine (H4.out.use B4.out).mono ?_
  rintro e w5 ⟨rfl, b5⟩
  have B5 := Lib.hid (B4.out.trans (b5.mono B4.out.size))
  clear b5
  go_wp2_with fail
  refine (H5.out.use B5.out).mono ?_
  rintro e w6 ⟨rfl, b6⟩
  have B6 := Lib.hid (B5.out.trans (b6.mono B5.out.size))
  clear b6
  go_wp2_with fail
  refine (C1.out.use B6.out).mono ?_
  rintro e w7 ⟨rfl, b7⟩
  have B7 := Lib.hid (B6.out.trans (b7.mono B6.out.size))
  clear b7
  go_wp2_with fail
  refine (C2.out.use B7.out).mono ?_
  rintro e w8 ⟨rfl, b8⟩
  have B8 := Lib.hid (B7.out.trans (b8.mono B7.out.size))
  clear b8
  go_wp2_with fail
  refine (C3.out.use B8.out).mono ?_
  rintro e w9 ⟨rfl, b9⟩
  have B9 := Lib.hid (B8.out.trans (b9.mono B8.out.size))
  clear b9
  go_wp2_with fail
  refine (C4.out.use B9.out).mono ?_
  rintro e w10 ⟨rfl, b10⟩
  have B10 := Lib.hid (B9.out.trans (b10.mono B9.out.size))
  clear b10
  go_wp2_with fail
  refine (C5.out.use B10.out).mono ?_
  rintro e w11 ⟨rfl, b11⟩
  have B11 := Lib.hid (B10.out.trans (b11.mono B10.out.size))
  clear b11
  go_wp2_with fail
  refine (C6.out.use B11.out).mono ?_
  rintro e w12 ⟨rfl, b12⟩
  have B12 := Lib.hid (B11.out.trans (b12.mono B11.out.size))
  clear b12
  go_wp2_with fail
  go_ret
  exact ⟨rfl, B12.out⟩

set_option maxHeartbeats 8000000 in
set_option maxRecDepth 100000 in
theorem mrounds_1z (r c one x zt off : ByteArray) (z sg ls mo : Int) (w : World) (HAL : Hid (AlY w)) (hr : r.size ≤ 900) (H1 : Hid (Ct w 13 #[.string r, .string c, .int .u8 1] (.tuple #[.int .i64 z, .int .i64 0]))) (H2 : Hid (Ct w 12 #[.int .i64 1, .string c] (.tuple #[.string one, .int .i64 0])))
    (H3 : Hid (Ct w 18 #[.string r, .string one] (.tuple #[.string x, .int .i64 0]))) (H4 : Hid (Ct w 20 #[.int .i64 z] (.string zt))) (H5 : Hid (Ct w 19 #[.string x, .string zt] (.tuple #[.string off, .int .i64 0])))
    (C1 : Hid (Ct w 21 #[.string x, .string ⟨#[48]⟩] (.tuple #[.int .i64 sg, .int .i64 0])))
    (C2 : Hid (Ct w 21 #[.string off, .string ⟨#[48]⟩] (.tuple #[.int .i64 0, .int .i64 0])))
    (C3 : Hid (Ct w 21 #[.string off, .string ⟨#[45, 49]⟩] (.tuple #[.int .i64 1, .int .i64 0])))
    (C4 : Hid (Ct w 21 #[.string off, .string ⟨#[49]⟩] (.tuple #[.int .i64 (-1), .int .i64 0])))
    (C5 : Hid (Ct w 21 #[.string off, .string ⟨#[45, 49, 47, 50]⟩] (.tuple #[.int .i64 ls, .int .i64 0])))
    (C6 : Hid (Ct w 21 #[.string off, .string ⟨#[49, 47, 50]⟩] (.tuple #[.int .i64 mo, .int .i64 0]))) :
    Calls Tryz.prog 7 #[.string r, .string c, .int .u8 1] w (RetBD w true) := by
  have g1 : decide ((900 : Int) < (r.size : Int)) = false := by simp; omega
  go_enter Tryz.func7, Tryz.ntmps7
  go_wp2_with fail
  refine (HAL.out _ (Below.refl _ _)).mono ?_
  rintro e w1 ⟨rfl, b1⟩
  have B1 := Lib.hid b1
  clear b1
  go_wp2_with fail
  refine (H1.out.use B1.out).mono ?_
  rintro e w2 ⟨rfl, b2⟩
  have B2 := Lib.hid (B1.out.trans (b2.mono B1.out.size))
  clear b2
  go_wp2_with fail
  refine (H2.out.use B2.out).mono ?_
  rintro e w3 ⟨rfl, b3⟩
  have B3 := Lib.hid (B2.out.trans (b3.mono B2.out.size))
  clear b3
  go_wp2_with fail
  refine (H3.out.use B3.out).mono ?_
  rintro e w4 ⟨rfl, b4⟩
  have B4 := Lib.hid (B3.out.trans (b4.mono B3.out.size))
  clear b4
  go_wp2_with fail
  refine (H4.out.use B4.out).mono ?_
  rintro e w5 ⟨rfl, b5⟩
  have B5 := Lib.hid (B4.out.trans (b5.mono B4.out.size))
  clear b5
  go_wp2_with fail
  refine (H5.out.use B5.out).mono ?_
  rintro e w6 ⟨rfl, b6⟩
  have B6 := Lib.hid (B5.out.trans (b6.mono B5.out.size))
  clear b6
  go_wp2_with fail
  refine (C1.out.use B6.out).mono ?_
  rintro e w7 ⟨rfl, b7⟩
  have B7 := Lib.hid (B6.out.trans (b7.mono B6.out.size))
  clear b7
  go_wp2_with fail
  refine (C2.out.use B7.out).mono ?_
  rintro e w8 ⟨rfl, b8⟩
  have B8 := Lib.hid (B7.out.trans (b8.mono B7.out.size))
  clear b8
  go_wp2_with fail
  refine (C3.out.use B8.out).mono ?_
  rintro e w9 ⟨rfl, b9⟩
  have B9 := Lib.hid (B8.out.trans (b9.mono B8.out.size))
  clear b9
  go_wp2_with fail
  refine (C4.out.use B9.out).mono ?_
  rintro e w10 ⟨rfl, b10⟩
  have B10 := Lib.hid (B9.out.trans (b10.mono B9.out.size))
  clear b10
  go_wp2_with fail
  refine (C5.out.use B10.out).mono ?_
  rintro e w11 ⟨rfl, b11⟩
  have B11 := Lib.hid (B10.out.trans (b11.mono B10.out.size))
  clear b11
  go_wp2_with fail
  refine (C6.out.use B11.out).mono ?_
  rintro e w12 ⟨rfl, b12⟩
  have B12 := Lib.hid (B11.out.trans (b12.mono B11.out.size))
  clear b12
  go_wp2_with fail
  go_ret
  exact ⟨rfl, B12.out⟩

set_option maxHeartbeats 8000000 in
set_option maxRecDepth 100000 in
theorem mrounds_1p (r c one x zt off : ByteArray) (z ls mo : Int) (w : World) (HAL : Hid (AlY w)) (hr : r.size ≤ 900) (H1 : Hid (Ct w 13 #[.string r, .string c, .int .u8 1] (.tuple #[.int .i64 z, .int .i64 0]))) (H2 : Hid (Ct w 12 #[.int .i64 1, .string c] (.tuple #[.string one, .int .i64 0])))
    (H3 : Hid (Ct w 18 #[.string r, .string one] (.tuple #[.string x, .int .i64 0]))) (H4 : Hid (Ct w 20 #[.int .i64 z] (.string zt))) (H5 : Hid (Ct w 19 #[.string x, .string zt] (.tuple #[.string off, .int .i64 0])))
    (C1 : Hid (Ct w 21 #[.string x, .string ⟨#[48]⟩] (.tuple #[.int .i64 (-1), .int .i64 0])))
    (C2 : Hid (Ct w 21 #[.string off, .string ⟨#[48]⟩] (.tuple #[.int .i64 1, .int .i64 0])))
    (C3 : Hid (Ct w 21 #[.string off, .string ⟨#[45, 49]⟩] (.tuple #[.int .i64 1, .int .i64 0])))
    (C4 : Hid (Ct w 21 #[.string off, .string ⟨#[49]⟩] (.tuple #[.int .i64 (-1), .int .i64 0])))
    (C5 : Hid (Ct w 21 #[.string off, .string ⟨#[45, 49, 47, 50]⟩] (.tuple #[.int .i64 ls, .int .i64 0])))
    (C6 : Hid (Ct w 21 #[.string off, .string ⟨#[49, 47, 50]⟩] (.tuple #[.int .i64 mo, .int .i64 0]))) :
    Calls Tryz.prog 7 #[.string r, .string c, .int .u8 1] w (RetBD w true) := by
  have g1 : decide ((900 : Int) < (r.size : Int)) = false := by simp; omega
  go_enter Tryz.func7, Tryz.ntmps7
  go_wp2_with fail
  refine (HAL.out _ (Below.refl _ _)).mono ?_
  rintro e w1 ⟨rfl, b1⟩
  have B1 := Lib.hid b1
  clear b1
  go_wp2_with fail
  refine (H1.out.use B1.out).mono ?_
  rintro e w2 ⟨rfl, b2⟩
  have B2 := Lib.hid (B1.out.trans (b2.mono B1.out.size))
  clear b2
  go_wp2_with fail
  refine (H2.out.use B2.out).mono ?_
  rintro e w3 ⟨rfl, b3⟩
  have B3 := Lib.hid (B2.out.trans (b3.mono B2.out.size))
  clear b3
  go_wp2_with fail
  refine (H3.out.use B3.out).mono ?_
  rintro e w4 ⟨rfl, b4⟩
  have B4 := Lib.hid (B3.out.trans (b4.mono B3.out.size))
  clear b4
  go_wp2_with fail
  refine (H4.out.use B4.out).mono ?_
  rintro e w5 ⟨rfl, b5⟩
  have B5 := Lib.hid (B4.out.trans (b5.mono B4.out.size))
  clear b5
  go_wp2_with fail
  refine (H5.out.use B5.out).mono ?_
  rintro e w6 ⟨rfl, b6⟩
  have B6 := Lib.hid (B5.out.trans (b6.mono B5.out.size))
  clear b6
  go_wp2_with fail
  refine (C1.out.use B6.out).mono ?_
  rintro e w7 ⟨rfl, b7⟩
  have B7 := Lib.hid (B6.out.trans (b7.mono B6.out.size))
  clear b7
  go_wp2_with fail
  refine (C2.out.use B7.out).mono ?_
  rintro e w8 ⟨rfl, b8⟩
  have B8 := Lib.hid (B7.out.trans (b8.mono B7.out.size))
  clear b8
  go_wp2_with fail
  refine (C3.out.use B8.out).mono ?_
  rintro e w9 ⟨rfl, b9⟩
  have B9 := Lib.hid (B8.out.trans (b9.mono B8.out.size))
  clear b9
  go_wp2_with fail
  refine (C4.out.use B9.out).mono ?_
  rintro e w10 ⟨rfl, b10⟩
  have B10 := Lib.hid (B9.out.trans (b10.mono B9.out.size))
  clear b10
  go_wp2_with fail
  refine (C5.out.use B10.out).mono ?_
  rintro e w11 ⟨rfl, b11⟩
  have B11 := Lib.hid (B10.out.trans (b11.mono B10.out.size))
  clear b11
  go_wp2_with fail
  refine (C6.out.use B11.out).mono ?_
  rintro e w12 ⟨rfl, b12⟩
  have B12 := Lib.hid (B11.out.trans (b12.mono B11.out.size))
  clear b12
  go_wp2_with fail
  go_ret
  exact ⟨rfl, B12.out⟩

set_option maxHeartbeats 8000000 in
set_option maxRecDepth 100000 in
theorem mrounds_1n (r c one x zt off : ByteArray) (z ls mo : Int) (w : World) (HAL : Hid (AlY w)) (hr : r.size ≤ 900) (H1 : Hid (Ct w 13 #[.string r, .string c, .int .u8 1] (.tuple #[.int .i64 z, .int .i64 0]))) (H2 : Hid (Ct w 12 #[.int .i64 1, .string c] (.tuple #[.string one, .int .i64 0])))
    (H3 : Hid (Ct w 18 #[.string r, .string one] (.tuple #[.string x, .int .i64 0]))) (H4 : Hid (Ct w 20 #[.int .i64 z] (.string zt))) (H5 : Hid (Ct w 19 #[.string x, .string zt] (.tuple #[.string off, .int .i64 0])))
    (C1 : Hid (Ct w 21 #[.string x, .string ⟨#[48]⟩] (.tuple #[.int .i64 1, .int .i64 0])))
    (C2 : Hid (Ct w 21 #[.string off, .string ⟨#[48]⟩] (.tuple #[.int .i64 (-1), .int .i64 0])))
    (C3 : Hid (Ct w 21 #[.string off, .string ⟨#[45, 49]⟩] (.tuple #[.int .i64 1, .int .i64 0])))
    (C4 : Hid (Ct w 21 #[.string off, .string ⟨#[49]⟩] (.tuple #[.int .i64 (-1), .int .i64 0])))
    (C5 : Hid (Ct w 21 #[.string off, .string ⟨#[45, 49, 47, 50]⟩] (.tuple #[.int .i64 ls, .int .i64 0])))
    (C6 : Hid (Ct w 21 #[.string off, .string ⟨#[49, 47, 50]⟩] (.tuple #[.int .i64 mo, .int .i64 0]))) :
    Calls Tryz.prog 7 #[.string r, .string c, .int .u8 1] w (RetBD w true) := by
  have g1 : decide ((900 : Int) < (r.size : Int)) = false := by simp; omega
  go_enter Tryz.func7, Tryz.ntmps7
  go_wp2_with fail
  refine (HAL.out _ (Below.refl _ _)).mono ?_
  rintro e w1 ⟨rfl, b1⟩
  have B1 := Lib.hid b1
  clear b1
  go_wp2_with fail
  refine (H1.out.use B1.out).mono ?_
  rintro e w2 ⟨rfl, b2⟩
  have B2 := Lib.hid (B1.out.trans (b2.mono B1.out.size))
  clear b2
  go_wp2_with fail
  refine (H2.out.use B2.out).mono ?_
  rintro e w3 ⟨rfl, b3⟩
  have B3 := Lib.hid (B2.out.trans (b3.mono B2.out.size))
  clear b3
  go_wp2_with fail
  refine (H3.out.use B3.out).mono ?_
  rintro e w4 ⟨rfl, b4⟩
  have B4 := Lib.hid (B3.out.trans (b4.mono B3.out.size))
  clear b4
  go_wp2_with fail
  refine (H4.out.use B4.out).mono ?_
  rintro e w5 ⟨rfl, b5⟩
  have B5 := Lib.hid (B4.out.trans (b5.mono B4.out.size))
  clear b5
  go_wp2_with fail
  refine (H5.out.use B5.out).mono ?_
  rintro e w6 ⟨rfl, b6⟩
  have B6 := Lib.hid (B5.out.trans (b6.mono B5.out.size))
  clear b6
  go_wp2_with fail
  refine (C1.out.use B6.out).mono ?_
  rintro e w7 ⟨rfl, b7⟩
  have B7 := Lib.hid (B6.out.trans (b7.mono B6.out.size))
  clear b7
  go_wp2_with fail
  refine (C2.out.use B7.out).mono ?_
  rintro e w8 ⟨rfl, b8⟩
  have B8 := Lib.hid (B7.out.trans (b8.mono B7.out.size))
  clear b8
  go_wp2_with fail
  refine (C3.out.use B8.out).mono ?_
  rintro e w9 ⟨rfl, b9⟩
  have B9 := Lib.hid (B8.out.trans (b9.mono B8.out.size))
  clear b9
  go_wp2_with fail
  refine (C4.out.use B9.out).mono ?_
  rintro e w10 ⟨rfl, b10⟩
  have B10 := Lib.hid (B9.out.trans (b10.mono B9.out.size))
  clear b10
  go_wp2_with fail
  refine (C5.out.use B10.out).mono ?_
  rintro e w11 ⟨rfl, b11⟩
  have B11 := Lib.hid (B10.out.trans (b11.mono B10.out.size))
  clear b11
  go_wp2_with fail
  refine (C6.out.use B11.out).mono ?_
  rintro e w12 ⟨rfl, b12⟩
  have B12 := Lib.hid (B11.out.trans (b12.mono B11.out.size))
  clear b12
  go_wp2_with fail
  go_ret
  exact ⟨rfl, B12.out⟩

set_option maxHeartbeats 8000000 in
set_option maxRecDepth 100000 in
theorem mrounds_4 (r c one x zt off : ByteArray) (z sg zr ls mo : Int) (w : World) (HAL : Hid (AlY w)) (hr : r.size ≤ 900) (H1 : Hid (Ct w 13 #[.string r, .string c, .int .u8 4] (.tuple #[.int .i64 z, .int .i64 0]))) (H2 : Hid (Ct w 12 #[.int .i64 1, .string c] (.tuple #[.string one, .int .i64 0])))
    (H3 : Hid (Ct w 18 #[.string r, .string one] (.tuple #[.string x, .int .i64 0]))) (H4 : Hid (Ct w 20 #[.int .i64 z] (.string zt))) (H5 : Hid (Ct w 19 #[.string x, .string zt] (.tuple #[.string off, .int .i64 0])))
    (C1 : Hid (Ct w 21 #[.string x, .string ⟨#[48]⟩] (.tuple #[.int .i64 sg, .int .i64 0])))
    (C2 : Hid (Ct w 21 #[.string off, .string ⟨#[48]⟩] (.tuple #[.int .i64 zr, .int .i64 0])))
    (C3 : Hid (Ct w 21 #[.string off, .string ⟨#[45, 49]⟩] (.tuple #[.int .i64 1, .int .i64 0])))
    (C4 : Hid (Ct w 21 #[.string off, .string ⟨#[49]⟩] (.tuple #[.int .i64 (-1), .int .i64 0])))
    (C5 : Hid (Ct w 21 #[.string off, .string ⟨#[45, 49, 47, 50]⟩] (.tuple #[.int .i64 ls, .int .i64 0])))
    (C6 : Hid (Ct w 21 #[.string off, .string ⟨#[49, 47, 50]⟩] (.tuple #[.int .i64 mo, .int .i64 0])))
    (t1 : decide (0 ≤ zr) = true) :
    Calls Tryz.prog 7 #[.string r, .string c, .int .u8 4] w (RetBD w true) := by
  have g1 : decide ((900 : Int) < (r.size : Int)) = false := by simp; omega
  go_enter Tryz.func7, Tryz.ntmps7
  go_wp2_with fail
  refine (HAL.out _ (Below.refl _ _)).mono ?_
  rintro e w1 ⟨rfl, b1⟩
  have B1 := Lib.hid b1
  clear b1
  go_wp2_with fail
  refine (H1.out.use B1.out).mono ?_
  rintro e w2 ⟨rfl, b2⟩
  have B2 := Lib.hid (B1.out.trans (b2.mono B1.out.size))
  clear b2
  go_wp2_with fail
  refine (H2.out.use B2.out).mono ?_
  rintro e w3 ⟨rfl, b3⟩
  have B3 := Lib.hid (B2.out.trans (b3.mono B2.out.size))
  clear b3
  go_wp2_with fail
  refine (H3.out.use B3.out).mono ?_
  rintro e w4 ⟨rfl, b4⟩
  have B4 := Lib.hid (B3.out.trans (b4.mono B3.out.size))
  clear b4
  go_wp2_with fail
  refine (H4.out.use B4.out).mono ?_
  rintro e w5 ⟨rfl, b5⟩
  have B5 := Lib.hid (B4.out.trans (b5.mono B4.out.size))
  clear b5
  go_wp2_with fail
  refine (H5.out.use B5.out).mono ?_
  rintro e w6 ⟨rfl, b6⟩
  have B6 := Lib.hid (B5.out.trans (b6.mono B5.out.size))
  clear b6
  go_wp2_with fail
  refine (C1.out.use B6.out).mono ?_
  rintro e w7 ⟨rfl, b7⟩
  have B7 := Lib.hid (B6.out.trans (b7.mono B6.out.size))
  clear b7
  go_wp2_with fail
  refine (C2.out.use B7.out).mono ?_
  rintro e w8 ⟨rfl, b8⟩
  have B8 := Lib.hid (B7.out.trans (b8.mono B7.out.size))
  clear b8
  go_wp2_with fail
  refine (C3.out.use B8.out).mono ?_
  rintro e w9 ⟨rfl, b9⟩
  have B9 := Lib.hid (B8.out.trans (b9.mono B8.out.size))
  clear b9
  go_wp2_with fail
  refine (C4.out.use B9.out).mono ?_
  rintro e w10 ⟨rfl, b10⟩
  have B10 := Lib.hid (B9.out.trans (b10.mono B9.out.size))
  clear b10
  go_wp2_with fail
  refine (C5.out.use B10.out).mono ?_
  rintro e w11 ⟨rfl, b11⟩
  have B11 := Lib.hid (B10.out.trans (b11.mono B10.out.size))
  clear b11
  go_wp2_with fail
  refine (C6.out.use B11.out).mono ?_
  rintro e w12 ⟨rfl, b12⟩
  have B12 := Lib.hid (B11.out.trans (b12.mono B11.out.size))
  clear b12
  go_wp2_with fail
  go_ret
  exact ⟨rfl, B12.out⟩

set_option maxHeartbeats 8000000 in
set_option maxRecDepth 100000 in
theorem mrounds_2 (r c one x zt off : ByteArray) (z sg zr ls mo : Int) (w : World) (HAL : Hid (AlY w)) (hr : r.size ≤ 900) (H1 : Hid (Ct w 13 #[.string r, .string c, .int .u8 2] (.tuple #[.int .i64 z, .int .i64 0]))) (H2 : Hid (Ct w 12 #[.int .i64 1, .string c] (.tuple #[.string one, .int .i64 0])))
    (H3 : Hid (Ct w 18 #[.string r, .string one] (.tuple #[.string x, .int .i64 0]))) (H4 : Hid (Ct w 20 #[.int .i64 z] (.string zt))) (H5 : Hid (Ct w 19 #[.string x, .string zt] (.tuple #[.string off, .int .i64 0])))
    (C1 : Hid (Ct w 21 #[.string x, .string ⟨#[48]⟩] (.tuple #[.int .i64 sg, .int .i64 0])))
    (C2 : Hid (Ct w 21 #[.string off, .string ⟨#[48]⟩] (.tuple #[.int .i64 zr, .int .i64 0])))
    (C3 : Hid (Ct w 21 #[.string off, .string ⟨#[45, 49]⟩] (.tuple #[.int .i64 1, .int .i64 0])))
    (C4 : Hid (Ct w 21 #[.string off, .string ⟨#[49]⟩] (.tuple #[.int .i64 (-1), .int .i64 0])))
    (C5 : Hid (Ct w 21 #[.string off, .string ⟨#[45, 49, 47, 50]⟩] (.tuple #[.int .i64 ls, .int .i64 0])))
    (C6 : Hid (Ct w 21 #[.string off, .string ⟨#[49, 47, 50]⟩] (.tuple #[.int .i64 mo, .int .i64 0])))
    (t1 : decide (0 ≤ ls) = true) (t2 : decide (mo ≤ 0) = true) :
    Calls Tryz.prog 7 #[.string r, .string c, .int .u8 2] w (RetBD w true) := by
  have g1 : decide ((900 : Int) < (r.size : Int)) = false := by simp; omega
  go_enter Tryz.func7, Tryz.ntmps7
  go_wp2_with fail
  refine (HAL.out _ (Below.refl _ _)).mono ?_
  rintro e w1 ⟨rfl, b1⟩
  have B1 := Lib.hid b1
  clear b1
  go_wp2_with fail
  refine (H1.out.use B1.out).mono ?_
  rintro e w2 ⟨rfl, b2⟩
  have B2 := Lib.hid (B1.out.trans (b2.mono B1.out.size))
  clear b2
  go_wp2_with fail
  refine (H2.out.use B2.out).mono ?_
  rintro e w3 ⟨rfl, b3⟩
  have B3 := Lib.hid (B2.out.trans (b3.mono B2.out.size))
  clear b3
  go_wp2_with fail
  refine (H3.out.use B3.out).mono ?_
  rintro e w4 ⟨rfl, b4⟩
  have B4 := Lib.hid (B3.out.trans (b4.mono B3.out.size))
  clear b4
  go_wp2_with fail
  refine (H4.out.use B4.out).mono ?_
  rintro e w5 ⟨rfl, b5⟩
  have B5 := Lib.hid (B4.out.trans (b5.mono B4.out.size))
  clear b5
  go_wp2_with fail
  refine (H5.out.use B5.out).mono ?_
  rintro e w6 ⟨rfl, b6⟩
  have B6 := Lib.hid (B5.out.trans (b6.mono B5.out.size))
  clear b6
  go_wp2_with fail
  refine (C1.out.use B6.out).mono ?_
  rintro e w7 ⟨rfl, b7⟩
  have B7 := Lib.hid (B6.out.trans (b7.mono B6.out.size))
  clear b7
  go_wp2_with fail
  refine (C2.out.use B7.out).mono ?_
  rintro e w8 ⟨rfl, b8⟩
  have B8 := Lib.hid (B7.out.trans (b8.mono B7.out.size))
  clear b8
  go_wp2_with fail
  refine (C3.out.use B8.out).mono ?_
  rintro e w9 ⟨rfl, b9⟩
  have B9 := Lib.hid (B8.out.trans (b9.mono B8.out.size))
  clear b9
  go_wp2_with fail
  refine (C4.out.use B9.out).mono ?_
  rintro e w10 ⟨rfl, b10⟩
  have B10 := Lib.hid (B9.out.trans (b10.mono B9.out.size))
  clear b10
  go_wp2_with fail
  refine (C5.out.use B10.out).mono ?_
  rintro e w11 ⟨rfl, b11⟩
  have B11 := Lib.hid (B10.out.trans (b11.mono B10.out.size))
  clear b11
  go_wp2_with fail
  refine (C6.out.use B11.out).mono ?_
  rintro e w12 ⟨rfl, b12⟩
  have B12 := Lib.hid (B11.out.trans (b12.mono B11.out.size))
  clear b12
  go_wp2_with fail
  go_ret
  exact ⟨rfl, B12.out⟩

set_option maxHeartbeats 8000000 in
set_option maxRecDepth 100000 in
theorem mrounds_3 (r c one x zt off : ByteArray) (z sg zr ls mo : Int) (w : World) (HAL : Hid (AlY w)) (hr : r.size ≤ 900) (H1 : Hid (Ct w 13 #[.string r, .string c, .int .u8 3] (.tuple #[.int .i64 z, .int .i64 0]))) (H2 : Hid (Ct w 12 #[.int .i64 1, .string c] (.tuple #[.string one, .int .i64 0])))
    (H3 : Hid (Ct w 18 #[.string r, .string one] (.tuple #[.string x, .int .i64 0]))) (H4 : Hid (Ct w 20 #[.int .i64 z] (.string zt))) (H5 : Hid (Ct w 19 #[.string x, .string zt] (.tuple #[.string off, .int .i64 0])))
    (C1 : Hid (Ct w 21 #[.string x, .string ⟨#[48]⟩] (.tuple #[.int .i64 sg, .int .i64 0])))
    (C2 : Hid (Ct w 21 #[.string off, .string ⟨#[48]⟩] (.tuple #[.int .i64 zr, .int .i64 0])))
    (C3 : Hid (Ct w 21 #[.string off, .string ⟨#[45, 49]⟩] (.tuple #[.int .i64 1, .int .i64 0])))
    (C4 : Hid (Ct w 21 #[.string off, .string ⟨#[49]⟩] (.tuple #[.int .i64 (-1), .int .i64 0])))
    (C5 : Hid (Ct w 21 #[.string off, .string ⟨#[45, 49, 47, 50]⟩] (.tuple #[.int .i64 ls, .int .i64 0])))
    (C6 : Hid (Ct w 21 #[.string off, .string ⟨#[49, 47, 50]⟩] (.tuple #[.int .i64 mo, .int .i64 0])))
    (t1 : decide (0 ≤ ls) = true) (t2 : decide (mo ≤ 0) = true) :
    Calls Tryz.prog 7 #[.string r, .string c, .int .u8 3] w (RetBD w true) := by
  have g1 : decide ((900 : Int) < (r.size : Int)) = false := by simp; omega
  go_enter Tryz.func7, Tryz.ntmps7
  go_wp2_with fail
  refine (HAL.out _ (Below.refl _ _)).mono ?_
  rintro e w1 ⟨rfl, b1⟩
  have B1 := Lib.hid b1
  clear b1
  go_wp2_with fail
  refine (H1.out.use B1.out).mono ?_
  rintro e w2 ⟨rfl, b2⟩
  have B2 := Lib.hid (B1.out.trans (b2.mono B1.out.size))
  clear b2
  go_wp2_with fail
  refine (H2.out.use B2.out).mono ?_
  rintro e w3 ⟨rfl, b3⟩
  have B3 := Lib.hid (B2.out.trans (b3.mono B2.out.size))
  clear b3
  go_wp2_with fail
  refine (H3.out.use B3.out).mono ?_
  rintro e w4 ⟨rfl, b4⟩
  have B4 := Lib.hid (B3.out.trans (b4.mono B3.out.size))
  clear b4
  go_wp2_with fail
  refine (H4.out.use B4.out).mono ?_
  rintro e w5 ⟨rfl, b5⟩
  have B5 := Lib.hid (B4.out.trans (b5.mono B4.out.size))
  clear b5
  go_wp2_with fail
  refine (H5.out.use B5.out).mono ?_
  rintro e w6 ⟨rfl, b6⟩
  have B6 := Lib.hid (B5.out.trans (b6.mono B5.out.size))
  clear b6
  go_wp2_with fail
  refine (C1.out.use B6.out).mono ?_
  rintro e w7 ⟨rfl, b7⟩
  have B7 := Lib.hid (B6.out.trans (b7.mono B6.out.size))
  clear b7
  go_wp2_with fail
  refine (C2.out.use B7.out).mono ?_
  rintro e w8 ⟨rfl, b8⟩
  have B8 := Lib.hid (B7.out.trans (b8.mono B7.out.size))
  clear b8
  go_wp2_with fail
  refine (C3.out.use B8.out).mono ?_
  rintro e w9 ⟨rfl, b9⟩
  have B9 := Lib.hid (B8.out.trans (b9.mono B8.out.size))
  clear b9
  go_wp2_with fail
  refine (C4.out.use B9.out).mono ?_
  rintro e w10 ⟨rfl, b10⟩
  have B10 := Lib.hid (B9.out.trans (b10.mono B9.out.size))
  clear b10
  go_wp2_with fail
  refine (C5.out.use B10.out).mono ?_
  rintro e w11 ⟨rfl, b11⟩
  have B11 := Lib.hid (B10.out.trans (b11.mono B10.out.size))
  clear b11
  go_wp2_with fail
  refine (C6.out.use B11.out).mono ?_
  rintro e w12 ⟨rfl, b12⟩
  have B12 := Lib.hid (B11.out.trans (b12.mono B11.out.size))
  clear b12
  go_wp2_with fail
  go_ret
  exact ⟨rfl, B12.out⟩


end Go.Proofs.YtnikhbdjlipcbaaGreatDoor

namespace Go.Proofs.YtnikhbdjlipcbaaGreatDoor
open Go.RowKit Go.Shelf

theorem rounds_txt {l : List UInt8} {z : Int} (h : rdZ l = some z) : txtZ z = l := (rdZ_some h).symm
theorem dig_of {z : Int} {m : Nat} (h : (txtZ z).length ≤ m) (h0 : 0 < m) : z.natAbs < 10 ^ m := by
  refine (decN_len_le _ m h0).1 ?_
  unfold txtZ at h
  split at h
  · rw [List.length_cons, txtN_len] at h; omega
  · rw [txtN_len] at h; exact h
theorem rat_dig {n d : Int} {m : Nat} (h : (ratT n d).length ≤ m) (h0 : 0 < m) : n.natAbs < 10 ^ m ∧ d.natAbs < 10 ^ m := by
  unfold ratT at h
  split at h
  · rename_i hd
    subst hd
    exact ⟨dig_of h h0, by have : 10 ^ 1 ≤ 10 ^ m := Nat.pow_le_pow_right (by omega) h0; show 1 < _; omega⟩
  · rw [List.length_append, List.length_cons] at h
    exact ⟨dig_of (by omega) h0, dig_of (by omega) h0⟩
theorem rat_back {x y : Int} (hy : 0 < y) : ∃ g : Int, 0 < g ∧ ratN x y * g = x ∧ ratD x y * g = y := by
  have hgp : 0 < Nat.gcd x.natAbs y.natAbs := Nat.gcd_pos_of_pos_right _ (by omega)
  refine ⟨(Nat.gcd x.natAbs y.natAbs : Int), by omega, ?_, ?_⟩
  · unfold ratN
    rw [if_neg (by omega)]
    exact Int.ediv_mul_cancel (Int.ofNat_dvd_left.2 (Nat.gcd_dvd_left _ _))
  · unfold ratD
    rw [show (y.natAbs : Int) = y by omega]
    exact Int.ediv_mul_cancel (Int.ofNat_dvd_left.2 (Nat.gcd_dvd_right _ _))
theorem back_le {a g x : Int} (hg : 0 < g) (h : a * g = x) : a.natAbs ≤ x.natAbs := by
  rw [← h, Int.natAbs_mul]
  exact Nat.le_mul_of_pos_right _ (by omega)
theorem cmp_scale {a b g : Int} (hg : 0 < g) : cmpZ (a * g) (b * g) = cmpZ a b := by
  unfold cmpZ
  have h1 : a * g < b * g ↔ a < b := Int.mul_lt_mul_right hg
  have h2 : b * g < a * g ↔ b < a := Int.mul_lt_mul_right hg
  simp only [h1, h2]
theorem one_rat (P : Nat) (hP : 0 < P) : ratN 1 (P : Int) = 1 ∧ ratD 1 (P : Int) = P := by
  unfold ratN ratD
  rw [if_neg (by omega), Int.natAbs_natCast, show (1 : Int).natAbs = 1 from rfl, Nat.gcd_one_left]
  exact ⟨rfl, by rw [Int.ofNat_one, Int.ediv_one]⟩
theorem rt_z : ratT (0) 1 = [48] := by unfold ratT; rw [if_pos rfl]; exact rounds_txt (by decide)
theorem rk_z : RatOK (0) 1 := ⟨by decide, by decide, bigZ_lt (by decide), bigZ_lt (by decide)⟩
theorem rt_m : ratT (-1) 1 = [45, 49] := by unfold ratT; rw [if_pos rfl]; exact rounds_txt (by decide)
theorem rk_m : RatOK (-1) 1 := ⟨by decide, by decide, bigZ_lt (by decide), bigZ_lt (by decide)⟩
theorem rt_p : ratT (1) 1 = [49] := by unfold ratT; rw [if_pos rfl]; exact rounds_txt (by decide)
theorem rk_p : RatOK (1) 1 := ⟨by decide, by decide, bigZ_lt (by decide), bigZ_lt (by decide)⟩
theorem rt_mh : ratT (-1) 2 = [45, 49, 47, 50] := by
  unfold ratT
  rw [if_neg (by decide), rounds_txt (l := [45, 49]) (z := -1) (by decide), rounds_txt (l := [50]) (z := 2) (by decide)]; rfl
theorem rk_mh : RatOK (-1) 2 := ⟨by decide, by decide, bigZ_lt (by decide), bigZ_lt (by decide)⟩
theorem rt_ph : ratT (1) 2 = [49, 47, 50] := by
  unfold ratT
  rw [if_neg (by decide), rounds_txt (l := [49]) (z := 1) (by decide), rounds_txt (l := [50]) (z := 2) (by decide)]; rfl
theorem rk_ph : RatOK (1) 2 := ⟨by decide, by decide, bigZ_lt (by decide), bigZ_lt (by decide)⟩

theorem cmp_const {w : World} (a b : ByteArray) (N D n2 d2 : Int) (m : Nat) (h0 : 0 < m) (hm : m < 1000) (ha : a.size ≤ 100000) (hb : b.size ≤ 100000) (la : a.data.toList = ratT N D) (lb : b.data.toList = ratT n2 d2) (h1 : RatOK N D) (h2 : RatOK n2 d2) (sN : N.natAbs < 10 ^ m) (sD : D.natAbs < 10 ^ m) (s1 : n2.natAbs < 10 ^ 1) (s2 : d2.natAbs < 10 ^ 1) :
    Hid (Ct w 21 #[.string a, .string b] (.tuple #[.int .i64 (cmpZ (N * d2) (n2 * D)), .int .i64 0])) := fun W _ =>
  rcmp_ok a b N D n2 d2 W ha hb la lb h1 h2 (bigZ_dig (prod_dig sN s2) (by omega) (by omega)) (bigZ_dig (prod_dig s1 sD) (by omega) (by omega))
theorem rat_size {n d : Int} (h : RatOK n d) : (⟨(ratT n d).toArray⟩ : ByteArray).size ≤ 100000 := by
  rw [← data_len]
  show (ratT n d).length ≤ _
  have l1 := bs_len _ h.2.2.1
  have l2 := bs_len _ h.2.2.2
  rw [← data_len] at l1 l2
  have l1' : (txtZ n).length ≤ 1001 := l1
  have l2' : (txtZ d).length ≤ 1001 := l2
  unfold ratT
  split
  · omega
  · rw [List.length_append, List.length_cons]; omega
set_option maxRecDepth 100000 in
theorem mrounds_good (r c : ByteArray) (k : Nat) (w : World) (hE : Env w) (hA : AwayEnv w) (hr : r.size ≤ 900) (n d : Int) (hl : r.data.toList = ratT n d) (h : RatOK n d) (u : Nat) (hu : unitOf c.data.toList = some u) (hk : k < 5) (hf : (touV n d u k).2 = 0)
    (H1 : Hid (Ct w 13 #[.string r, .string c, .int .u8 (k : Int)] (.tuple #[.int .i64 (touV n d u k).1, .int .i64 (touV n d u k).2]))) :
    Calls Tryz.prog 7 #[.string r, .string c, .int .u8 (k : Int)] w (RetBD w true) := by
  have HAL := alY hE hA
  have hu3 := unit_le hu
  have hp3 : 10 ^ u ≤ 1000 := Nat.pow_le_pow_right (by omega) (by omega : u ≤ 3)
  have hp0 : 0 < 10 ^ u := Nat.pow_pos (by omega)
  have H2 : Hid (Ct w 12 #[.int .i64 1, .string c] (.tuple #[.string ⟨(ratT (ratN 1 (10 ^ u : Nat)) (ratD 1 (10 ^ u : Nat))).toArray⟩, .int .i64 0])) := fun W _ =>
    (fru_any 1 c W).mono fun e w' hh => by
      rcases hh with ⟨h1 | h1, _⟩ | ⟨u', h1, _, hh⟩
      · rw [hu] at h1; cases h1
      · exact absurd h1 (by decide)
      · rw [hu] at h1; rw [Option.some.inj h1]; exact hh
  unfold touV at hf H1
  obtain ⟨P, hP⟩ : ∃ P : Nat, P = 10 ^ u := ⟨_, rfl⟩
  rw [← hP] at hp3 hp0 H2 hf H1
  obtain ⟨o1, o2⟩ := one_rat P hp0
  rw [o1, o2] at H2
  have bP : bigZ (P : Int) = false := bigZ_lt (by simp only [Int.natAbs_natCast]; omega)
  have hOne : RatOK 1 (P : Int) := ⟨by omega, by simp, bigZ_one, bP⟩
  obtain ⟨m, hm⟩ : ∃ m, m = 900 := ⟨_, rfl⟩
  have hlen : (ratT n d).length ≤ m := by rw [← hl, data_len, hm]; exact hr
  obtain ⟨sn, sd⟩ := rat_dig hlen (by omega)
  have sP : (P : Int).natAbs < 10 ^ 4 := by rw [Int.natAbs_natCast]; omega
  have sX := prod_dig sn sP
  have hd1 : (0 : Int) < d * 1 := by have := h.1; omega
  obtain ⟨X, hX⟩ : ∃ X, X = n * (P : Int) := ⟨_, rfl⟩
  have s1 : (d * 1).natAbs < 10 ^ m := by rw [Int.mul_one]; exact sd
  obtain ⟨Y, hY⟩ : ∃ Y, Y = d * 1 := ⟨_, rfl⟩
  have H3 : Hid (Ct w 18 #[.string r, .string ⟨(ratT 1 (P : Int)).toArray⟩] (.tuple #[.string ⟨(ratT (ratN X Y) (ratD X Y)).toArray⟩, .int .i64 0])) := fun W _ => by
    rw [hX, hY]
    exact rdiv_ok r _ n d 1 P W (by omega) (rat_size hOne) hl rfl h hOne (by omega) (bigZ_dig sX (by omega) (by omega)) (bigZ_dig s1 (by omega) (by omega))
  simp only [← hX, ← hY] at hf H1 sX s1 hd1
  have bX : bigZ X = false := bigZ_dig sX (by omega) (by omega)
  have bY : bigZ Y = false := bigZ_dig s1 (by omega) (by omega)
  have hro := ratOK_make (x := X) (y := Y) (by omega) bX bY
  obtain ⟨g, hg, gN, gD⟩ := rat_back (x := X) (y := Y) hd1
  have zN := back_le hg gN
  have zD := back_le hg gD
  obtain ⟨N, hN⟩ : ∃ N, N = ratN X Y := ⟨_, rfl⟩
  obtain ⟨D, hD⟩ : ∃ D, D = ratD X Y := ⟨_, rfl⟩
  rw [← hN, ← hD] at hro
  rw [← hN] at zN
  rw [← hD] at zD
  simp only [← hN, ← hD] at H3 hf H1
  have hoff := round_off k N D hro.1 hk
  obtain ⟨z, hz⟩ : ∃ z, z = roundZ k N D := ⟨_, rfl⟩
  rw [← hz] at hoff
  simp only [← hz, bX, Bool.false_eq_true, if_false] at hf H1
  have ha : amtOK z = true := by
    cases e : amtOK z with
    | true => rfl
    | false => rw [e, if_pos rfl] at hf; cases hf
  rw [ha, if_neg (by decide)] at H1
  clear hf
  have hz2 := ha
  unfold amtOK at hz2
  rw [decide_eq_true_eq] at hz2
  have sz : z.natAbs < 10 ^ 16 := by omega
  have bz : bigZ z = false := bigZ_lt (by omega)
  have H4 : Hid (Ct w 20 #[.int .i64 z] (.string ⟨(txtZ z).toArray⟩)) := fun W _ => rof_any z W (by omega) (by omega)
  have hZ : RatOK z 1 := ⟨by decide, by simp, bz, bigZ_one⟩
  have tZ : ratT z 1 = txtZ z := by unfold ratT; rw [if_pos rfl]
  have q1 : 10 ^ m ≤ 10 ^ (m + 4) := Nat.pow_le_pow_right (by omega) (by omega)
  have sN : N.natAbs < 10 ^ (m + 4) := Nat.lt_of_le_of_lt zN sX
  have sD : D.natAbs < 10 ^ (m + 4) := Nat.lt_of_lt_of_le (Nat.lt_of_le_of_lt zD s1) q1
  have q2 : 10 ^ (m + 4) ≤ 10 ^ (16 + (m + 4)) := Nat.pow_le_pow_right (by omega) (by omega)
  have sZD := prod_dig sz sD
  have sN1 : (N * 1).natAbs < 10 ^ (16 + (m + 4)) := by rw [Int.mul_one]; exact Nat.lt_of_lt_of_le sN q2
  have sM := diff_dig sN1 sZD
  have sD1 : (D * 1).natAbs < 10 ^ (m + 4) := by rw [Int.mul_one]; exact sD
  have b1 := bigZ_dig sN1 (by omega) (by omega)
  have b2 := bigZ_dig sZD (by omega) (by omega)
  have b3 := bigZ_dig sM (by omega) (by omega)
  have b4 := bigZ_dig sD1 (by omega) (by omega)
  have hD0 := hro.1
  obtain ⟨M, hM⟩ : ∃ M, M = N * 1 + -(z * D) := ⟨_, rfl⟩
  obtain ⟨E, hEd⟩ : ∃ E, E = D * 1 := ⟨_, rfl⟩
  have H5 : Hid (Ct w 19 #[.string ⟨(ratT N D).toArray⟩, .string ⟨(txtZ z).toArray⟩] (.tuple #[.string ⟨(ratT (ratN M E) (ratD M E)).toArray⟩, .int .i64 0])) := fun W _ => by
    rw [hM, hEd]
    exact rsub_ok _ _ N D z 1 W (rat_size hro) (by have := bs_len _ bz; omega) rfl tZ.symm hro hZ b1 b2 b3 b4
  rw [← hM] at sM b3
  rw [← hEd] at sD1 b4
  have hE0 : 0 < E := by omega
  have hro2 := ratOK_make (x := M) (y := E) (by omega) b3 b4
  obtain ⟨g2, hg2, gN2, gD2⟩ := rat_back (x := M) (y := E) hE0
  have zN2 := back_le hg2 gN2
  have zD2 := back_le hg2 gD2
  obtain ⟨N2, hN2⟩ : ∃ N2, N2 = ratN M E := ⟨_, rfl⟩
  obtain ⟨D2, hD2⟩ : ∃ D2, D2 = ratD M E := ⟨_, rfl⟩
  rw [← hN2, ← hD2] at hro2 H5
  rw [← hN2] at zN2 gN2
  rw [← hD2] at zD2 gD2
  have sN2 : N2.natAbs < 10 ^ (16 + (m + 4) + 1) := Nat.lt_of_le_of_lt zN2 sM
  have q3 : 10 ^ (m + 4) ≤ 10 ^ (16 + (m + 4) + 1) := Nat.pow_le_pow_right (by omega) (by omega)
  have sD2 : D2.natAbs < 10 ^ (16 + (m + 4) + 1) := Nat.lt_of_lt_of_le (Nat.lt_of_le_of_lt zD2 sD1) q3
  have C1 := cmp_const (w := w) ⟨(ratT N D).toArray⟩ ⟨#[48]⟩ N D 0 1 (m + 4) (by omega) (by omega) (rat_size hro) (by decide) rfl rt_z.symm hro rk_z sN sD (by decide) (by decide)
  have CC : ∀ (b : ByteArray) (n2 d2 : Int), b.size ≤ 100000 → b.data.toList = ratT n2 d2 → RatOK n2 d2 → n2.natAbs < 10 ^ 1 → d2.natAbs < 10 ^ 1 → Hid (Ct w 21 #[.string ⟨(ratT N2 D2).toArray⟩, .string b] (.tuple #[.int .i64 (cmpZ (M * d2) (n2 * E)), .int .i64 0])) := fun b n2 d2 q1 q2 q3 q4 q5 => by
    have hh := cmp_const (w := w) ⟨(ratT N2 D2).toArray⟩ b N2 D2 n2 d2 (16 + (m + 4) + 1) (by omega) (by omega) (rat_size hro2) q1 rfl q2 hro2 q3 sN2 sD2 q4 q5
    rw [← cmp_scale hg2, Int.mul_right_comm, gN2, Int.mul_assoc n2, gD2] at hh
    exact hh
  have C2 := CC ⟨#[48]⟩ 0 1 (by decide) rt_z.symm rk_z (by decide) (by decide)
  have C3 := CC ⟨#[45, 49]⟩ (-1) 1 (by decide) rt_m.symm rk_m (by decide) (by decide)
  have C4 := CC ⟨#[49]⟩ 1 1 (by decide) rt_p.symm rk_p (by decide) (by decide)
  have C5 := CC ⟨#[45, 49, 47, 50]⟩ (-1) 2 (by decide) rt_mh.symm rk_mh (by decide) (by decide)
  have C6 := CC ⟨#[49, 47, 50]⟩ 1 2 (by decide) rt_ph.symm rk_ph (by decide) (by decide)
  have hMD : N - z * D = M := by rw [hM, Int.mul_one]; omega
  have hED : D = E := by omega
  rw [hMD, hED] at hoff
  obtain ⟨f1, f2, f3, f4, f5, f6⟩ := hoff
  have e3 : cmpZ (M * 1) (-1 * E) = 1 := by unfold cmpZ; rw [if_neg (by omega), if_pos (by omega)]
  have e4 : cmpZ (M * 1) (1 * E) = -1 := by unfold cmpZ; rw [if_pos (by omega)]
  rw [e3] at C3
  rw [e4] at C4
  rw [show N * 1 = N from Int.mul_one N, Int.zero_mul] at C1
  rw [show M * 1 = M from Int.mul_one M, Int.zero_mul] at C2
  have sp : ∀ {x : Int}, 0 < x → cmpZ x 0 = 1 := fun h => by unfold cmpZ; rw [if_neg (by omega), if_pos (by omega)]
  have sm : ∀ {x : Int}, x < 0 → cmpZ x 0 = -1 := fun h => by unfold cmpZ; rw [if_pos (by omega)]
  have s0 : cmpZ 0 0 = 0 := rfl
  have hk5 : k = 0 ∨ k = 1 ∨ k = 2 ∨ k = 3 ∨ k = 4 := by omega
  rcases hk5 with rfl | rfl | rfl | rfl | rfl
  · rcases f3 rfl with h0 | ⟨h0, h1⟩ | ⟨h0, h1⟩
    · rw [h0, s0] at C2
      exact mrounds_0z r c _ _ _ _ z _ _ _ w HAL hr H1 H2 H3 H4 H5 C1 C2 C3 C4 C5 C6
    · rw [sp h0] at C2
      rw [sp h1] at C1
      exact mrounds_0p r c _ _ _ _ z _ _ w HAL hr H1 H2 H3 H4 H5 C1 C2 C3 C4 C5 C6
    · rw [sm h0] at C2
      rw [sm h1] at C1
      exact mrounds_0n r c _ _ _ _ z _ _ w HAL hr H1 H2 H3 H4 H5 C1 C2 C3 C4 C5 C6
  · rcases f4 rfl with h0 | ⟨h0, h1⟩ | ⟨h0, h1⟩
    · rw [h0, s0] at C2
      exact mrounds_1z r c _ _ _ _ z _ _ _ w HAL hr H1 H2 H3 H4 H5 C1 C2 C3 C4 C5 C6
    · rw [sp h0] at C2
      rw [sm h1] at C1
      exact mrounds_1p r c _ _ _ _ z _ _ w HAL hr H1 H2 H3 H4 H5 C1 C2 C3 C4 C5 C6
    · rw [sm h0] at C2
      rw [sp h1] at C1
      exact mrounds_1n r c _ _ _ _ z _ _ w HAL hr H1 H2 H3 H4 H5 C1 C2 C3 C4 C5 C6
  · exact mrounds_2 r c _ _ _ _ z _ _ _ _ w HAL hr H1 H2 H3 H4 H5 C1 C2 C3 C4 C5 C6 (decide_eq_true (cmpZ_ge.2 (by have := f6 (.inl rfl); omega))) (decide_eq_true (cmpZ_le.2 (by have := f6 (.inl rfl); omega)))
  · exact mrounds_3 r c _ _ _ _ z _ _ _ _ w HAL hr H1 H2 H3 H4 H5 C1 C2 C3 C4 C5 C6 (decide_eq_true (cmpZ_ge.2 (by have := f6 (.inr rfl); omega))) (decide_eq_true (cmpZ_le.2 (by have := f6 (.inr rfl); omega)))
  · exact mrounds_4 r c _ _ _ _ z _ _ _ _ w HAL hr H1 H2 H3 H4 H5 C1 C2 C3 C4 C5 C6 (decide_eq_true (cmpZ_ge.2 (f5 rfl)))
theorem touV_err {n d : Int} {u k : Nat} (h : (touV n d u k).2 ≠ 0) : (touV n d u k).1 = 0 := by
  unfold touV at h ⊢
  simp only at h ⊢
  split
  · rfl
  · split
    · rfl
    · rename_i h1 h2; rw [if_neg h1, if_neg h2] at h; exact absurd rfl h
theorem mrounds_any (r c : ByteArray) (k : Nat) (w : World) (hE : Env w) (hA : AwayEnv w) : Calls Tryz.prog 7 #[.string r, .string c, .int .u8 (k : Int)] w (RetBD w true) := by
  have HAL := alY hE hA
  by_cases hr : 900 < r.size
  · exact mrounds_long r c k w HAL hr
  have hr : r.size ≤ 900 := by omega
  have HF : ∃ one f, Hid (Ct w 12 #[.int .i64 1, .string c] (.tuple #[.string one, .int .i64 f])) := by
    cases hu : unitOf c.data.toList with
    | none => exact ⟨⟨#[]⟩, 2, fun W _ => (fru_any 1 c W).mono fun e w' hh => by
        rcases hh with ⟨_, hh⟩ | ⟨u', h1, _⟩
        · exact hh
        · rw [hu] at h1; cases h1⟩
    | some u => exact ⟨⟨(ratT (ratN 1 (10 ^ u : Nat)) (ratD 1 (10 ^ u : Nat))).toArray⟩, 0, fun W _ => (fru_any 1 c W).mono fun e w' hh => by
        rcases hh with ⟨h1 | h1, _⟩ | ⟨u', h1, _, hh⟩
        · rw [hu] at h1; cases h1
        · exact absurd h1 (by decide)
        · rw [hu] at h1; rw [Option.some.inj h1]; exact hh⟩
  obtain ⟨one, f, H2⟩ := HF
  cases hu : unitOf c.data.toList with
  | none => exact mrounds_err r c one k 2 f w HAL hr (fun W _ => tou_unit r c k (un_none hu) W) (by decide) H2
  | some u =>
    by_cases hk : k < 5
    · have HC : ∀ W, Calls Tryz.prog 35 #[.string r] W (ErrPost W (chkR r.data.toList)) := fun W => qrat_any r W (by omega)
      by_cases hc : chkR r.data.toList = 0
      · obtain ⟨n, d, hl, h⟩ := chkR_zero hc
        have H1 : Hid (Ct w 13 #[.string r, .string c, .int .u8 (k : Int)] (.tuple #[.int .i64 (touV n d u k).1, .int .i64 (touV n d u k).2])) := fun W hW => tou_ok r c n d u k W (hA.below hW) (by omega) hu hk hl h
        by_cases hf : (touV n d u k).2 = 0
        · exact mrounds_good r c k w hE hA hr n d hl h u hu hk hf H1
        · rw [touV_err hf] at H1
          exact mrounds_err r c one k _ f w HAL hr H1 (by simpa using hf) H2
      · exact mrounds_err r c one k 12 f w HAL hr (fun W _ => tou_form r c k u (un_some hu) (chk_pos hk) _ (Lib.hid HC) (by simpa using hc) W) (by decide) H2
    · exact mrounds_err r c one k 2 f w HAL hr (fun W _ => tou_mode r c k _ (un_some hu) (by simp; omega) W) (by decide) H2

end Go.Proofs.YtnikhbdjlipcbaaGreatDoor
