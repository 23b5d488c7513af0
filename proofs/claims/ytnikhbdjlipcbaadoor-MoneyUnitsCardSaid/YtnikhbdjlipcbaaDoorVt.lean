/-
  The program's Mul of rationals. No condition.
-/
import Derived.Test.YtnikhbdjlipcbaaDoorVs
namespace Go.Proofs.YtnikhbdjlipcbaaDoor
open Go.RowKit Go.Shelf

/-- A call of what keep hands back, at any pair. -/
def KeepAt (F : Nat) (n0 n1 d0 d1 s t r : ByteArray) (f f' : Int) : Prop :=
  ∀ W g bp bf, PairB W g n0 n1 d0 d1 f → PtrB W bp g → FunB W bf F → Calls Tryd.prog 94 #[.string s, .string t, .pointer (some ⟨bp, 0, none⟩), .pointer (some ⟨bf, 0, none⟩)] W (KeepP W g n0 n1 d0 d1 r f')
def MadeAt (n0 n1 d0 d1 s t r : ByteArray) (f f' : Int) : Prop :=
  ∀ W g, PairB W g n0 n1 d0 d1 f → Calls Tryd.prog 50 #[.pointer (some ⟨g, 0, none⟩), .string s, .string t] W (StE W r f')
theorem PtrB.kept {W W' : World} {bp g g' : Nat} {n0 n1 d0 d1 : ByteArray} {f : Int} (h : PtrB W bp g) (hp : PairB W g' n0 n1 d0 d1 f) (hb : W.grownBy W' (some g')) : PtrB W' bp g := by
  refine heap_grown h hb ?_
  intro e
  injection e with e
  subst e
  unfold PtrB at h; unfold PairB at hp
  rw [h] at hp; simp at hp
theorem FunB.kept {W W' : World} {bp F g' : Nat} {n0 n1 d0 d1 : ByteArray} {f : Int} (h : FunB W bp F) (hp : PairB W g' n0 n1 d0 d1 f) (hb : W.grownBy W' (some g')) : FunB W' bp F := by
  refine heap_grown h hb ?_
  intro e
  injection e with e
  subst e
  unfold FunB at h; unfold PairB at hp
  rw [h] at hp; simp at hp

set_option maxHeartbeats 8000000 in
set_option maxRecDepth 100000 in
theorem rmul_go (a b n0 n1 d0 d1 r1 r2 r : ByteArray) (f f1 f2 fm : Int) (w : World)
    (HBO : Hid (∀ W, Calls Tryd.prog 47 #[.string a, .string b] W (BothP W n0 n1 d0 d1 f)))
    (HK1 : Hid (KeepAt 49 n0 n1 d0 d1 n0 n1 r1 f f1))
    (HK2 : Hid (KeepAt 49 n0 n1 d0 d1 d0 d1 r2 f1 f2))
    (HM : Hid (MadeAt n0 n1 d0 d1 r1 r2 r f2 fm)) :
    Calls Tryd.prog 19 #[.string a, .string b] w (StE w r fm) := by
  go_enter Tryd.func19, Tryd.ntmps19
  go_wp2_with fail
  refine (HBO.out _).mono ?_
  rintro e w1 ⟨g, rfl, hg, hp, hb⟩
  have HP := Lib.hid hp
  have HB := Lib.hid hb
  have HGL := Lib.hid hg
  clear hp hb hg
  go_wp2_with fail
  refine (keep_any g _ w1).mono ?_
  rintro e w2 ⟨rfl, hq, hf, hb2⟩
  have hp2 : PairB w2 g n0 n1 d0 d1 f := heap_below HP.out hb2
  have HB2 : Hid (Below w.heap.size w w2) := HB.out.trans (hb2.mono HB.out.size)
  obtain ⟨bp, hbp⟩ : ∃ bp, bp = w1.heap.size := ⟨_, rfl⟩
  rw [← hbp] at hq hf ⊢
  have HP0 := Lib.hid hp2
  have HQ0 := Lib.hid hq
  have HF0 := Lib.hid hf
  have HALL : Hid (∀ (W : World) (f' : Int), PairB W g n0 n1 d0 d1 f' → W.cell? ⟨g, 0, none⟩ = some (.string n0) ∧ W.cell? ⟨g, 1, none⟩ = some (.string n1) ∧ W.cell? ⟨g, 2, none⟩ = some (.string d0) ∧ W.cell? ⟨g, 3, none⟩ = some (.string d1)) := fun W f' h => ⟨(pair_cells h).1, (pair_cells h).2.1, (pair_cells h).2.2.1, (pair_cells h).2.2.2.1⟩
  have HPD : Hid (PairB w2.drew g n0 n1 d0 d1 f) := hp2
  have HBD : Hid (Below w.heap.size w w2.drew) := HB2.out.drew
  have HQD : Hid (PtrB w2.drew bp g) := hq
  have HFD : Hid (FunB w2.drew (bp + 1) 49) := hf
  have HC1 := Lib.hid (HK1.out _ g bp (bp + 1) HPD.out HQD.out HFD.out)
  clear hp2 hq hf hb2 hbp HP HB
  go_upto_region 3 with (fail)
  go_region_held3 (fun W => W.cell? ⟨g, 0, none⟩ = some (.string n0) ∧ W.cell? ⟨g, 1, none⟩ = some (.string n1) ∧ W.cell? ⟨g, 2, none⟩ = some (.string d0) ∧ W.cell? ⟨g, 3, none⟩ = some (.string d1))
    ((first | with_reducible exact HALL.out _ _ HPD.out | with_reducible exact HALL.out _ _ HP0.out | with_reducible exact HALL.out _ _ HP2.out | with_reducible exact HALL.out _ _ HP1.out | with_reducible exact HALL.out _ _ HP3.out))
    ((first
      | (go_at_call 94; (with_reducible refine HC1.out.mono ?_); rintro e wa ⟨rfl, hpa, hga⟩; have HQ1 := Lib.hid (HQD.out.kept HPD.out hga); have HF1 := Lib.hid (HFD.out.kept HPD.out hga); have HB1 : Hid (Below w.heap.size w wa) := below_only HBD.out hga HBD.out.size HGL.out; have HP1 := Lib.hid hpa; have HC2 := Lib.hid (HK2.out _ g bp (bp + 1) HP1.out HQ1.out HF1.out); clear hpa hga)
      | (go_at_call 94; (with_reducible refine HC2.out.mono ?_); rintro e wb ⟨rfl, hpb, hgb⟩; have HB3 : Hid (Below w.heap.size w wb) := below_only HB1.out hgb HB1.out.size HGL.out; have HP2 := Lib.hid hpb; have HC3 := Lib.hid (HM.out _ g HP2.out); clear hpb hgb)
      | (go_at_call 50; (with_reducible refine HC3.out.mono ?_); rintro e wc' ⟨rfl, hbc⟩; have HB4 : Hid (Below w.heap.size w wc') := HB3.out.trans (hbc.mono HB3.out.size); have HP3 : Hid (PairB wc' g n0 n1 d0 d1 f2) := heap_below HP2.out hbc; clear hbc)))
  all_goals
    go_wp2_with fail
    go_ret2
    exact ⟨rfl, HB4.out⟩


end Go.Proofs.YtnikhbdjlipcbaaDoor
