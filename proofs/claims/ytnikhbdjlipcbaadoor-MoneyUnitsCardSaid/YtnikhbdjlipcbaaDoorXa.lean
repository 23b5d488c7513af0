/-
  The statement MoneyUnits: after any number, amount, currency and mode the law returns true (Unit, ToUnits and FromUnits return what the reference returns), and leaves what was there as it was. No condition.
-/
import Derived.Test.YtnikhbdjlipcbaaDoorWp
import Derived.Test.YtnikhbdjlipcbaaDoorTie
import Derived.Test.YtnikhbdjlipcbaaDoorCards
import Derived.ProofKit
import Derived.OpenShut
import Derived.ShutString
import Derived.ChangeOld
import Derived.Below
import Derived.LaidMore
import Derived.Lay
import Derived.SevenTiedAt
import Derived.Stop.Joined
namespace Go.Proofs.YtnikhbdjlipcbaaDoor.moneyUnits
open Go.ChangeShapes Go.WideShapes Go.ChangeAt Go.RowKit
set_option linter.unusedVariables false

theorem own : ownKnob Tryd.prog.godebug = none := by kernel_rfl
theorem laidOut : laidOutB Tryd.prog = true := by kernel_rfl
theorem witness_met (os : Os) (args : Array Value) : laidMetH Tryd.prog Rows.moneyUnitsRow.laid ((World.layVars Tryd.prog { World.holding Tryd.prog os ⟨#[], #[], []⟩ with heap := (World.holding Tryd.prog os ⟨#[], #[], []⟩).heap.modify 0 (fun o => match o with | .cells _ t f => .cells #[.func (.func 179) #[] #[], .func (.func 180) #[] #[], .func (.func 181) #[] #[], .func (.func 182) #[] #[], .func (.func 183) #[] #[]] t f | o => o) } (Rows.moneyUnitsRow.laid.filter fun x => x.2.handleName?.isNone)).forCall (fun _ _ => 0) ⟨#[], args, []⟩).memory := by
  refine laidMetH_of_parts3 (fuel := 8) ?_ (by kernel_rfl) (by kernel_rfl)
  refine laidMet_layVars (w0 := { World.holding Tryd.prog os ⟨#[], #[], []⟩ with heap := (World.holding Tryd.prog os ⟨#[], #[], []⟩).heap.modify 0 (fun o => match o with | .cells _ t f => .cells #[.func (.func 179) #[] #[], .func (.func 180) #[] #[], .func (.func 181) #[] #[], .func (.func 182) #[] #[], .func (.func 183) #[] #[]] t f | o => o) }) ((Rows.moneyUnitsRow.laid.filter fun x => x.2.handleName?.isNone).map (·.1)) [] ?_ (by kernel_rfl) (by kernel_rfl) ?_
  · rw [show ((Rows.moneyUnitsRow.laid.filter fun x => x.2.handleName?.isNone).filter fun x => ((Rows.moneyUnitsRow.laid.filter fun x => x.2.handleName?.isNone).map (·.1)).contains x.1) = (Rows.moneyUnitsRow.laid.filter fun x => x.2.handleName?.isNone) from rfl]
    simp [World.memory, World.forCall, Input.heap]
  · rw [show ((Rows.moneyUnitsRow.laid.filter fun x => x.2.handleName?.isNone).filter fun x => !((Rows.moneyUnitsRow.laid.filter fun x => x.2.handleName?.isNone).map (·.1)).contains x.1) = [] from rfl]
    exact LaidIn.none

set_option maxRecDepth 100000 in
theorem lifted (os : Os) (started : os.Started) (H : Type) (enc : TypeId × Value → H) :
    ReturnsInHanded {} Tryd.checked os 3 .any (fun w args => (Rows.moneyUnitsSpec.pre enc Tryd.prog Tryd.f3 Rows.moneyUnitsRow.domain false w args ∧ laidMetH Tryd.prog Rows.moneyUnitsRow.laid w) ∧ sizedMet enc Tryd.prog Tryd.f3 (OpenSpec.ofChange Rows.moneyUnitsSpec) false w args)
      (Rows.moneyUnitsSpec.post enc Tryd.prog Tryd.f3 false true false false) := by
  refine handed_shaped_and (C := Tryd.checked) (X := fun w _ => laidMetH Tryd.prog Rows.moneyUnitsRow.laid w) (fun _ _ _ hh h => h.of_heap hh) own started (by kernel_rfl) Tryd.func3
    (ChangeSpec.witness_shaped (enc := enc) (C := Tryd.checked) (os := os) (X := fun w _ => laidMetH Tryd.prog Rows.moneyUnitsRow.laid w) false (World.layVars Tryd.prog { World.holding Tryd.prog os ⟨#[], #[], []⟩ with heap := (World.holding Tryd.prog os ⟨#[], #[], []⟩).heap.modify 0 (fun o => match o with | .cells _ t f => .cells #[.func (.func 179) #[] #[], .func (.func 180) #[] #[], .func (.func 181) #[] #[], .func (.func 182) #[] #[], .func (.func 183) #[] #[]] t f | o => o) } (Rows.moneyUnitsRow.laid.filter fun x => x.2.handleName?.isNone)) #[.string ⟨#[]⟩, .int .i64 0, .string ⟨#[]⟩, .int .u8 0] 8 (World.layVars_os _ _ _)
      (World.shaped_of_ZipB (by kernel_rfl) (by kernel_rfl)) (by kernel_rfl) (by kernel_rfl) (by kernel_rfl) (witness_met os _)) ?_
  intro W base args ds gs before hval0 hW hc _ hL hsh _
  have hAw : AwayEnv W := away_of hL
  have hval : ∀ (j : Nat) t v, Tryd.f3.params[j]? = some t → args[j]? = some v → Value.okWide Tryd.prog W .any base t v := hval0
  have hW' := hW
  obtain ⟨p, q, hA0, hV, rfl, hfz, hnd⟩ := hW
  have hA : DataW.TrodAll enc Tryd.prog W 0 (fun _ => true) true Tryd.f3.params.toList args.toList ds p := hA0
  rw [Tryd.params3] at hA hval
  obtain ⟨v0, vs0, d0, ds0, p0, q0, hargs, rfl, rfl, h0, r0⟩ := trodAll_cons hA
  obtain ⟨v1, vs1, d1, ds1, p1, q1, rfl, rfl, rfl, h1, r1⟩ := trodAll_cons r0
  obtain ⟨v2, vs2, d2, ds2, p2, q2, rfl, rfl, rfl, h2, r2⟩ := trodAll_cons r1
  obtain ⟨v3, vs3, d3, ds3, p3, q3, rfl, rfl, rfl, h3, r3⟩ := trodAll_cons r2
  obtain ⟨rfl, rfl, rfl⟩ := trodAll_nil r3
  obtain rfl : args = #[v0, v1, v2, v3] := by cases args; simp_all
  obtain ⟨rfl, rfl⟩ := trodVars_none hV
  have k0 := h0
  have lt0 : ∀ x ∈ p0, x.block < W.heap.size := by obtain ⟨m, hm⟩ := k0; exact DataW.trod_lt m _ _ _ hm
  have k1 := h1
  have lt1 : ∀ x ∈ p1, x.block < W.heap.size := by obtain ⟨m, hm⟩ := k1; exact DataW.trod_lt m _ _ _ hm
  have k2 := h2
  have lt2 : ∀ x ∈ p2, x.block < W.heap.size := by obtain ⟨m, hm⟩ := k2; exact DataW.trod_lt m _ _ _ hm
  have k3 := h3
  have lt3 : ∀ x ∈ p3, x.block < W.heap.size := by obtain ⟨m, hm⟩ := k3; exact DataW.trod_lt m _ _ _ hm
  obtain ⟨x, rfl⟩ : ∃ s : ByteArray, v0 = .string s := okWide_string Tryd.underlying22 (hval 0 22 v0 rfl rfl)
  obtain ⟨y, rfl⟩ : ∃ n : Int, v1 = .int .i64 n := okWide_int Tryd.underlying3 (hval 1 3 v1 rfl rfl)
  obtain ⟨z, rfl⟩ : ∃ s : ByteArray, v2 = .string s := okWide_string Tryd.underlying9 (hval 2 9 v2 rfl rfl)
  obtain ⟨u', e3, _, _, wf3⟩ := open_int Tryd.underlying5 (hval 3 5 v3 rfl rfl) h3
  subst e3
  have wb3 := bounds_u8 wf3
  obtain ⟨u, rfl⟩ : ∃ m : Nat, u' = (m : Int) := ⟨u'.toNat, by omega⟩
  clear hA0 hval0
  refine (munits_card x y z u W hAw).mono fun e W' ⟨he, bel⟩ => ?_
  subst he
  exact ⟨_, rfl, _, _, _, [], _, [], hW', trodAll_mk1 (shut_bool Tryd.underlying4 _), (trodAll_cons_mk (Below.trod laidOut (by kernel_rfl) (of_decide_eq_true (by kernel_rfl)) k0 bel lt0) (trodAll_cons_mk (Below.trod laidOut (by kernel_rfl) (of_decide_eq_true (by kernel_rfl)) k1 bel lt1) (trodAll_cons_mk (Below.trod laidOut (by kernel_rfl) (of_decide_eq_true (by kernel_rfl)) k2 bel lt2) (trodAll_cons_mk (Below.trod laidOut (by kernel_rfl) (of_decide_eq_true (by kernel_rfl)) k3 bel lt3) trodAll_mk0)))), rfl, bel.frame _, fun h => by cases h⟩

theorem over : Rows.moneyUnitsRow.holds Tryd.pinned (OpenSpec.ofChange Rows.moneyUnitsSpec) :=
  OpenClaim.holds_of_wide 3 Tryd.f3 rfl rfl rfl rfl rfl rfl rfl ⟨rfl, rfl, rfl, rfl, rfl⟩ rfl rfl rfl rfl rfl (by kernel_rfl) Tryd.func3 (by kernel_rfl)
    (of_decide_eq_true (by kernel_rfl)) (by unfold Func.isWrapper; first | (rw [if_pos (by decide +kernel)]; kernel_rfl) | (rw [if_neg (by decide +kernel)]; exact ⟨rfl, rfl⟩))
    (fun os started H enc _ => lifted os started H enc)

/-- ████ THE STATEMENT ████ -/
theorem proved : Rows.MoneyUnitsCardSaid :=
  Claim7.holds_tied_plain_at .later [] [.funcs] true (true, "588fbc9c3d79061cbab651391cb208670ecc6354460c6604487af054d937c7fe") true over (fun _ h => by cases h) (by kernel_rfl) (fun _ h => by cases h) moneyUnits_row_tie rfl ⟨rfl, rfl⟩ (by kernel_rfl) rfl
    (fun f fn hf hfn => by
      obtain rfl : f = 3 := Option.some.inj ((show Tryd.prog.funcNamed "novation/novationlaw07.MoneyUnits" = some 3 by kernel_rfl).symm.trans hf) |>.symm
      obtain rfl : fn = Tryd.f3 := (Option.some.inj (Tryd.func3.symm.trans hfn)).symm
      exact ⟨by kernel_rfl, fun j t ht => by
        rw [Tryd.params3] at ht
        have hm : t ∈ [22, 3, 9, 5] := by
          have := Array.mem_of_getElem? ht
          simp at this
          simp [this]
        have hall : ([22, 3, 9, 5].all fun u => !Tryd.prog.wantsStandIn u) = true := by kernel_rfl
        exact (show Tryd.prog.wantsStandIn t = false by simpa using List.all_eq_true.1 hall t hm)⟩)
    (by kernel_rfl)
#print axioms proved
end Go.Proofs.YtnikhbdjlipcbaaDoor.moneyUnits
