/-
  The statement MoneyNames: the law returns true (the chapter's examples, limits and errors), and leaves what was there as it was. No condition.
-/
import Derived.Test.YtnikhbdjlipcbaaGreatDoorXi
import Derived.Test.YtnikhbdjlipcbaaGreatDoorWk
import Derived.Test.YtnikhbdjlipcbaaGreatDoorTie
import Derived.Test.YtnikhbdjlipcbaaGreatDoorCards
import Derived.ProofKit
import Derived.OpenShut
import Derived.ShutString
import Derived.ChangeOld
import Derived.Below
import Derived.LaidMore
import Derived.Lay
import Derived.SevenTiedAt
import Derived.Stop.Joined
namespace Go.Proofs.YtnikhbdjlipcbaaGreatDoor.moneyNames
open Go.ChangeShapes Go.WideShapes Go.ChangeAt Go.RowKit
set_option linter.unusedVariables false

theorem own : ownKnob Tryz.prog.godebug = none := by kernel_rfl
theorem laidOut : laidOutB Tryz.prog = true := by kernel_rfl
theorem witness_met (os : Os) (args : Array Value) : laidMetH Tryz.prog Rows.moneyNamesRow.laid ((World.layVars Tryz.prog { World.holding Tryz.prog os ⟨#[], #[], []⟩ with heap := (World.holding Tryz.prog os ⟨#[], #[], []⟩).heap.modify 0 (fun o => match o with | .cells _ t f => .cells #[.func (.func 160) #[] #[], .func (.func 161) #[] #[], .func (.func 162) #[] #[], .func (.func 163) #[] #[], .func (.func 164) #[] #[]] t f | o => o) } (Rows.moneyNamesRow.laid.filter fun x => x.2.handleName?.isNone)).forCall (fun _ _ => 0) ⟨#[], args, []⟩).memory := by
  refine laidMetH_of_parts3 (fuel := 8) ?_ (by kernel_rfl) (by kernel_rfl)
  refine laidMet_layVars (w0 := { World.holding Tryz.prog os ⟨#[], #[], []⟩ with heap := (World.holding Tryz.prog os ⟨#[], #[], []⟩).heap.modify 0 (fun o => match o with | .cells _ t f => .cells #[.func (.func 160) #[] #[], .func (.func 161) #[] #[], .func (.func 162) #[] #[], .func (.func 163) #[] #[], .func (.func 164) #[] #[]] t f | o => o) }) ((Rows.moneyNamesRow.laid.filter fun x => x.2.handleName?.isNone).map (·.1)) [] ?_ (by kernel_rfl) (by kernel_rfl) ?_
  · rw [show ((Rows.moneyNamesRow.laid.filter fun x => x.2.handleName?.isNone).filter fun x => ((Rows.moneyNamesRow.laid.filter fun x => x.2.handleName?.isNone).map (·.1)).contains x.1) = (Rows.moneyNamesRow.laid.filter fun x => x.2.handleName?.isNone) from rfl]
    simp [World.memory, World.forCall, Input.heap]
  · rw [show ((Rows.moneyNamesRow.laid.filter fun x => x.2.handleName?.isNone).filter fun x => !((Rows.moneyNamesRow.laid.filter fun x => x.2.handleName?.isNone).map (·.1)).contains x.1) = [] from rfl]
    exact LaidIn.none

set_option maxRecDepth 100000 in
theorem lifted (os : Os) (started : os.Started) (H : Type) (enc : TypeId × Value → H) :
    ReturnsInHanded {} Tryz.checked os 6 .any (fun w args => (Rows.moneyNamesSpec.pre enc Tryz.prog Tryz.f6 Rows.moneyNamesRow.domain false w args ∧ laidMetH Tryz.prog Rows.moneyNamesRow.laid w) ∧ sizedMet enc Tryz.prog Tryz.f6 (OpenSpec.ofChange Rows.moneyNamesSpec) false w args)
      (Rows.moneyNamesSpec.post enc Tryz.prog Tryz.f6 false true false false) := by
  refine handed_shaped_and (C := Tryz.checked) (X := fun w _ => laidMetH Tryz.prog Rows.moneyNamesRow.laid w) (fun _ _ _ hh h => h.of_heap hh) own started (by kernel_rfl) Tryz.func6
    (ChangeSpec.witness_shaped (enc := enc) (C := Tryz.checked) (os := os) (X := fun w _ => laidMetH Tryz.prog Rows.moneyNamesRow.laid w) false (World.layVars Tryz.prog { World.holding Tryz.prog os ⟨#[], #[], []⟩ with heap := (World.holding Tryz.prog os ⟨#[], #[], []⟩).heap.modify 0 (fun o => match o with | .cells _ t f => .cells #[.func (.func 160) #[] #[], .func (.func 161) #[] #[], .func (.func 162) #[] #[], .func (.func 163) #[] #[], .func (.func 164) #[] #[]] t f | o => o) } (Rows.moneyNamesRow.laid.filter fun x => x.2.handleName?.isNone)) #[] 8 (World.layVars_os _ _ _)
      (World.shaped_of_ZipB (by kernel_rfl) (by kernel_rfl)) (by kernel_rfl) (by kernel_rfl) (by kernel_rfl) (witness_met os _)) ?_
  intro W base args ds gs before hval0 hW hc _ hL hsh _
  have hE : Env W := env_ofz hL
  have hAw : AwayEnv W := away_of hL
  have hval : ∀ (j : Nat) t v, Tryz.f6.params[j]? = some t → args[j]? = some v → Value.okWide Tryz.prog W .any base t v := hval0
  have hW' := hW
  obtain ⟨p, q, hA0, hV, rfl, hfz, hnd⟩ := hW
  have hA : DataW.TrodAll enc Tryz.prog W 0 (fun _ => true) true Tryz.f6.params.toList args.toList ds p := hA0
  rw [Tryz.params6] at hA hval
  obtain ⟨hargs, rfl, rfl⟩ := trodAll_nil hA
  obtain rfl : args = #[] := by cases args; simp_all
  obtain ⟨rfl, rfl⟩ := trodVars_none hV
  clear hA0 hval0
  refine (mnames_any  W hE hAw).mono fun e W' ⟨he, bel⟩ => ?_
  subst he
  exact ⟨_, rfl, _, _, _, [], _, [], hW', trodAll_mk1 (shut_bool Tryz.underlying4 _), trodAll_mk0, rfl, bel.frame _, fun h => by cases h⟩

theorem over : Rows.moneyNamesRow.holds Tryz.pinned (OpenSpec.ofChange Rows.moneyNamesSpec) :=
  OpenClaim.holds_of_wide 6 Tryz.f6 rfl rfl rfl rfl rfl rfl rfl ⟨rfl, rfl, rfl, rfl, rfl⟩ rfl rfl rfl rfl rfl (by kernel_rfl) Tryz.func6 (by kernel_rfl)
    (of_decide_eq_true (by kernel_rfl)) (by unfold Func.isWrapper; first | (rw [if_pos (by decide +kernel)]; kernel_rfl) | (rw [if_neg (by decide +kernel)]; exact ⟨rfl, rfl⟩))
    (fun os started H enc _ => lifted os started H enc)

/-- ████ THE STATEMENT ████ -/
theorem proved : Rows.MoneyNamesCardSaid :=
  Claim7.holds_tied_plain_at .later [] [.data, .data, .data, .data, .sentinel, .sentinel, .funcs, .pinned] true (true, "6fe55113321fa95632076e6af9b918bb7a39bbc234a7c7f594eeb28d189d9ccb") true over (fun _ h => by cases h) (by kernel_rfl) (fun _ h => by cases h) moneyNames_row_tie rfl ⟨rfl, rfl⟩ (by kernel_rfl) rfl
    (fun f fn hf hfn => by
      obtain rfl : f = 6 := Option.some.inj ((show Tryz.prog.funcNamed "novation/novationlaw07.MoneyNames" = some 6 by kernel_rfl).symm.trans hf) |>.symm
      obtain rfl : fn = Tryz.f6 := (Option.some.inj (Tryz.func6.symm.trans hfn)).symm
      exact ⟨by kernel_rfl, fun j t ht => by
        rw [Tryz.params6] at ht
        simp at ht⟩)
    (by kernel_rfl)
#print axioms proved
end Go.Proofs.YtnikhbdjlipcbaaGreatDoor.moneyNames
