/-
  The statement PrinterParts: at any two contracts the law returns true, and leaves what was there as it was. No condition.
-/
import Derived.Test.YtijkefflpojmhaaDoorPba
import Derived.Test.YtijkefflpojmhaaDoorTie
import Derived.Test.YtijkefflpojmhaaDoorCards
import Derived.ProofKit
import Derived.OpenShut
import Derived.ShutString
import Derived.ChangeOld
import Derived.Below
import Derived.LaidMore
import Derived.Lay
import Derived.SevenTiedAt
import Derived.Stop.Joined
namespace Go.Proofs.YtijkefflpojmhaaDoor.printerParts
open Go.ChangeShapes Go.WideShapes Go.ChangeAt Go.RowKit
set_option linter.unusedVariables false

theorem own : ownKnob Tryd.prog.godebug = none := by kernel_rfl
theorem laidOut : laidOutB Tryd.prog = true := by kernel_rfl
theorem laidPlain (W : World) (h : laidMetH Tryd.prog Rows.printerPartsRow.laid W) : laidMet Tryd.prog Rows.printerPartsRow.laid W := by
  rwa [MakeChecks.laidMetH_plain _ _ _ (by kernel_rfl)] at h
theorem laidTail {a b : String × DataW Unit} {l laid : List (String × DataW Unit)} {W : World} (hl : laid = a :: b :: l) (h : laidMet Tryd.prog laid W) : laidMet Tryd.prog (b :: l) W := by
  subst hl
  obtain ⟨ps, ⟨g0, t0, cs0, f0, p0, q0, hg0, ht0, hv0, hd0, hps, hrest⟩, hnd, hall⟩ := h
  first
    | (subst hps; exact ⟨q0, hrest, (List.nodup_append.1 hnd).2.1, fun b' off hm => hall b' off (List.mem_append_right _ hm)⟩)
    | (subst hrest; exact ⟨q0, hps, (List.nodup_append.1 hnd).2.1, fun b' off hm => hall b' off (List.mem_append_right _ hm)⟩)
theorem door_met (os : Os) (args : Array Value) : laidMetH Tryd.prog Rows.printerPartsRow.laid ((World.doorLaid Tryd.prog 4000 os).forCall (fun _ _ => 0) ⟨#[], args, []⟩).memory :=
  laidMetH_of_parts3 (fuel := 8) (laidMet_of_run' 8 (by kernel_rfl) (by kernel_rfl)) (by kernel_rfl) (by kernel_rfl)

set_option maxRecDepth 100000 in
theorem lifted (os : Os) (started : os.Started) (H : Type) (enc : TypeId × Value → H) :
    ReturnsInHanded {} Tryd.checked os 3 .any (fun w args => (Rows.printerPartsSpec.pre enc Tryd.prog Tryd.f3 Rows.printerPartsRow.domain false w args ∧ laidMetH Tryd.prog Rows.printerPartsRow.laid w) ∧ sizedMet enc Tryd.prog Tryd.f3 (OpenSpec.ofChange Rows.printerPartsSpec) false w args)
      (Rows.printerPartsSpec.post enc Tryd.prog Tryd.f3 false true false false) := by
  refine returnsInHanded_of_change_and (C := Tryd.checked) (X := fun w _ => laidMetH Tryd.prog Rows.printerPartsRow.laid w) (fun _ _ _ hh h => h.of_heap hh) own started (by kernel_rfl) Tryd.func3
    (ChangeSpec.witness_shaped (enc := enc) (C := Tryd.checked) (os := os) (X := fun w _ => laidMetH Tryd.prog Rows.printerPartsRow.laid w) false (World.doorLaid Tryd.prog 4000 os) #[.agg #[.int .u8 0, .string ⟨#[]⟩, .string ⟨#[]⟩, .string ⟨#[]⟩, .int .u8 0, .string ⟨#[]⟩, .string ⟨#[]⟩, .int .i64 0, .slice none 0 0, .int .i64 0, .slice none 0 0, .slice none 0 0], .agg #[.int .u8 0, .string ⟨#[]⟩, .string ⟨#[]⟩, .string ⟨#[]⟩, .int .u8 0, .string ⟨#[]⟩, .string ⟨#[]⟩, .int .i64 0, .slice none 0 0, .int .i64 0, .slice none 0 0, .slice none 0 0]] 8 rfl (World.shaped_of_RefB (by kernel_rfl) (by kernel_rfl)) (by kernel_rfl) (by kernel_rfl) (by kernel_rfl) (door_met os _)) ?_
  intro W base args ds gs before hval0 hW _ _ hL _
  have hval : ∀ (j : Nat) t v, Tryd.f3.params[j]? = some t → args[j]? = some v → Value.okWide Tryd.prog W .any base t v := hval0
  have hW' := hW
  obtain ⟨p, q, hA0, hV, rfl, hfz, hnd⟩ := hW
  have hA : DataW.TrodAll enc Tryd.prog W 0 (fun _ => true) true Tryd.f3.params.toList args.toList ds p := hA0
  rw [Tryd.params3] at hA hval
  obtain ⟨v0, vs0, d0, ds0, p0, q0, hargs, rfl, rfl, h0, r0⟩ := trodAll_cons hA
  obtain ⟨v1, vs1, d1, ds1, p1, q1, rfl, rfl, rfl, h1, r1⟩ := trodAll_cons r0
  obtain ⟨rfl, rfl, rfl⟩ := trodAll_nil r1
  obtain rfl : args = #[v0, v1] := by cases args; simp_all
  obtain ⟨rfl, rfl⟩ := trodVars_none hV
  have k0 := h0
  have k1 := h1
  have lt0 : ∀ x ∈ p0, x.block < W.heap.size := by obtain ⟨m, hm⟩ := k0; exact DataW.trod_lt m _ _ _ hm
  have lt1 : ∀ x ∈ p1, x.block < W.heap.size := by obtain ⟨m, hm⟩ := k1; exact DataW.trod_lt m _ _ _ hm
  obtain ⟨cs0, rfl⟩ : ∃ cs, v0 = .agg cs := by
    obtain ⟨cs, hcs, _⟩ := okWide_struct Tryd.underlying29 (hval 0 29 v0 rfl rfl)
    exact ⟨cs, hcs⟩
  obtain ⟨cs1, rfl⟩ : ∃ cs, v1 = .agg cs := by
    obtain ⟨cs, hcs, _⟩ := okWide_struct Tryd.underlying29 (hval 1 29 v1 rfl rfl)
    exact ⟨cs, hcs⟩
  obtain ⟨n, x, hx, hk⟩ : ∃ n x, CtAt n W cs0.toList x ∧ CKOk n x := by
    obtain ⟨fuel, hf⟩ := h0
    obtain ⟨x, h1, h2⟩ := open_ct fuel (by simpa [Value.cells] using hf)
    exact ⟨_, x, h1, h2⟩
  obtain ⟨m, y, hy, hj⟩ : ∃ m y, CtAt m W cs1.toList y ∧ CKOk m y := by
    obtain ⟨fuel, hf⟩ := h1
    obtain ⟨x, h1, h2⟩ := open_ct fuel (by simpa [Value.cells] using hf)
    exact ⟨_, x, h1, h2⟩
  have hS : ShpAt W := laidShp rfl (laidPlain W hL)
  have hP : PtsAt W := laidPts rfl (laidTail rfl (laidPlain W hL))
  clear hA0 hval0
  refine (parts_law n m x y cs0.toList cs1.toList W hx hy hk hj hS hP).mono fun e W' ⟨he, bel⟩ => ?_
  subst he
  exact ⟨_, rfl, _, _, _, [], _, [], hW', trodAll_mk1 (shut_bool Tryd.underlying4 _), (trodAll_cons_mk (Below.trod laidOut (by kernel_rfl) (of_decide_eq_true (by kernel_rfl)) k0 bel lt0) (trodAll_cons_mk (Below.trod laidOut (by kernel_rfl) (of_decide_eq_true (by kernel_rfl)) k1 bel lt1) trodAll_mk0)), rfl, bel.frame _, fun h => by cases h⟩

theorem over : Rows.printerPartsRow.holds Tryd.pinned (OpenSpec.ofChange Rows.printerPartsSpec) :=
  OpenClaim.holds_of_wide 3 Tryd.f3 rfl rfl rfl rfl rfl rfl rfl ⟨rfl, rfl, rfl, rfl, rfl⟩ rfl rfl rfl rfl rfl (by kernel_rfl) Tryd.func3 (by kernel_rfl)
    (of_decide_eq_true (by kernel_rfl)) (by unfold Func.isWrapper; first | (rw [if_pos (by decide +kernel)]; kernel_rfl) | (rw [if_neg (by decide +kernel)]; exact ⟨rfl, rfl⟩))
    (fun os started H enc _ => lifted os started H enc)

/-- ████ THE STATEMENT ████ -/
theorem proved : Rows.PrinterPartsCardSaid :=
  Claim7.holds_tied_plain_at .later [] [.mappedDeep, .mapped] true (true, "fc525c79b0eda67d7f7b4e74bc951810f9ff701e29494a6323db180cfa5a064b") false over (fun _ h => by cases h) (by kernel_rfl) (fun _ h => by cases h) printerParts_row_tie rfl ⟨rfl, rfl⟩ (by kernel_rfl) rfl
    (fun f fn hf hfn => by
      obtain rfl : f = 3 := Option.some.inj ((show Tryd.prog.funcNamed "novation/novationlaw14.PrinterParts" = some 3 by kernel_rfl).symm.trans hf) |>.symm
      obtain rfl : fn = Tryd.f3 := (Option.some.inj (Tryd.func3.symm.trans hfn)).symm
      exact ⟨by kernel_rfl, fun j t ht => by
        rw [Tryd.params3] at ht
        have hm : t ∈ [29, 29] := by
          have := Array.mem_of_getElem? ht
          simp at this
          simp [this]
        have hall : ([29, 29].all fun u => !Tryd.prog.wantsStandIn u) = true := by kernel_rfl
        exact (show Tryd.prog.wantsStandIn t = false by simpa using List.all_eq_true.1 hall t hm)⟩)
    (by kernel_rfl)
#print axioms proved
end Go.Proofs.YtijkefflpojmhaaDoor.printerParts
