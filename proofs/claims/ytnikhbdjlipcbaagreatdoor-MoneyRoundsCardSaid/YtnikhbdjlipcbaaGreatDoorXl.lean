/-
  The statement MoneyRounds: the law returns true for every number, currency and mode, and leaves what was there as it was. No condition.
-/
import Derived.Test.YtnikhbdjlipcbaaGreatDoorXk
import Derived.Test.YtnikhbdjlipcbaaGreatDoorWk
import Derived.Test.YtnikhbdjlipcbaaGreatDoorTie
import Derived.Test.YtnikhbdjlipcbaaGreatDoorCards
import Derived.ProofKit
import Derived.OpenShut
import Derived.ShutString
import Derived.ChangeOld
import Derived.Below
import Derived.LaidMore
import Derived.Lay
import Derived.SevenTiedAt
import Derived.Stop.Joined
namespace Go.Proofs.YtnikhbdjlipcbaaGreatDoor.moneyRounds
open Go.ChangeShapes Go.WideShapes Go.ChangeAt Go.RowKit
set_option linter.unusedVariables false

theorem own : ownKnob Tryz.prog.godebug = none := by kernel_rfl
theorem laidOut : laidOutB Tryz.prog = true := by kernel_rfl
theorem witness_met (os : Os) (args : Array Value) : laidMetH Tryz.prog Rows.moneyRoundsRow.laid ((World.layVars Tryz.prog { World.holding Tryz.prog os ⟨#[], #[], []⟩ with heap := (World.holding Tryz.prog os ⟨#[], #[], []⟩).heap.modify 0 (fun o => match o with | .cells _ t f => .cells #[.func (.func 160) #[] #[], .func (.func 161) #[] #[], .func (.func 162) #[] #[], .func (.func 163) #[] #[], .func (.func 164) #[] #[]] t f | o => o) } (Rows.moneyRoundsRow.laid.filter fun x => x.2.handleName?.isNone)).forCall (fun _ _ => 0) ⟨#[], args, []⟩).memory := by
  refine laidMetH_of_parts3 (fuel := 8) ?_ (by kernel_rfl) (by kernel_rfl)
  refine laidMet_layVars (w0 := { World.holding Tryz.prog os ⟨#[], #[], []⟩ with heap := (World.holding Tryz.prog os ⟨#[], #[], []⟩).heap.modify 0 (fun o => match o with | .cells _ t f => .cells #[.func (.func 160) #[] #[], .func (.func 161) #[] #[], .func (.func 162) #[] #[], .func (.func 163) #[] #[], .func (.func 164) #[] #[]] t f | o => o) }) ((Rows.moneyRoundsRow.laid.filter fun x => x.2.handleName?.isNone).map (·.1)) [] ?_ (by kernel_rfl) (by kernel_rfl) ?_
  · rw [show ((Rows.moneyRoundsRow.laid.filter fun x => x.2.handleName?.isNone).filter fun x => ((Rows.moneyRoundsRow.laid.filter fun x => x.2.handleName?.isNone).map (·.1)).contains x.1) = (Rows.moneyRoundsRow.laid.filter fun x => x.2.handleName?.isNone) from rfl]
    simp [World.memory, World.forCall, Input.heap]
  · rw [show ((Rows.moneyRoundsRow.laid.filter fun x => x.2.handleName?.isNone).filter fun x => !((Rows.moneyRoundsRow.laid.filter fun x => x.2.handleName?.isNone).map (·.1)).contains x.1) = [] from rfl]
    exact LaidIn.none

set_option maxRecDepth 100000 in
theorem lifted (os : Os) (started : os.Started) (H : Type) (enc : TypeId × Value → H) :
    ReturnsInHanded {} Tryz.checked os 7 .any (fun w args => (Rows.moneyRoundsSpec.pre enc Tryz.prog Tryz.f7 Rows.moneyRoundsRow.domain false w args ∧ laidMetH Tryz.prog Rows.moneyRoundsRow.laid w) ∧ sizedMet enc Tryz.prog Tryz.f7 (OpenSpec.ofChange Rows.moneyRoundsSpec) false w args)
      (Rows.moneyRoundsSpec.post enc Tryz.prog Tryz.f7 false true false false) := by
  refine handed_shaped_and (C := Tryz.checked) (X := fun w _ => laidMetH Tryz.prog Rows.moneyRoundsRow.laid w) (fun _ _ _ hh h => h.of_heap hh) own started (by kernel_rfl) Tryz.func7
    (ChangeSpec.witness_shaped (enc := enc) (C := Tryz.checked) (os := os) (X := fun w _ => laidMetH Tryz.prog Rows.moneyRoundsRow.laid w) false (World.layVars Tryz.prog { World.holding Tryz.prog os ⟨#[], #[], []⟩ with heap := (World.holding Tryz.prog os ⟨#[], #[], []⟩).heap.modify 0 (fun o => match o with | .cells _ t f => .cells #[.func (.func 160) #[] #[], .func (.func 161) #[] #[], .func (.func 162) #[] #[], .func (.func 163) #[] #[], .func (.func 164) #[] #[]] t f | o => o) } (Rows.moneyRoundsRow.laid.filter fun x => x.2.handleName?.isNone)) #[.string ⟨#[]⟩, .string ⟨#[]⟩, .int .u8 0] 8 (World.layVars_os _ _ _)
      (World.shaped_of_ZipB (by kernel_rfl) (by kernel_rfl)) (by kernel_rfl) (by kernel_rfl) (by kernel_rfl) (witness_met os _)) ?_
  intro W base args ds gs before hval0 hW hc _ hL hsh _
  have hE : Env W := env_ofz hL
  have hAw : AwayEnv W := away_of hL
  have hval : ∀ (j : Nat) t v, Tryz.f7.params[j]? = some t → args[j]? = some v → Value.okWide Tryz.prog W .any base t v := hval0
  have hW' := hW
  obtain ⟨p, q, hA0, hV, rfl, hfz, hnd⟩ := hW
  have hA : DataW.TrodAll enc Tryz.prog W 0 (fun _ => true) true Tryz.f7.params.toList args.toList ds p := hA0
  rw [Tryz.params7] at hA hval
  obtain ⟨v0, vs0, d0, ds0, p0, q0, hargs, rfl, rfl, h0, r0⟩ := trodAll_cons hA
  obtain ⟨v1, vs1, d1, ds1, p1, q1, rfl, rfl, rfl, h1, r1⟩ := trodAll_cons r0
  obtain ⟨v2, vs2, d2, ds2, p2, q2, rfl, rfl, rfl, h2, r2⟩ := trodAll_cons r1
  obtain ⟨rfl, rfl, rfl⟩ := trodAll_nil r2
  obtain rfl : args = #[v0, v1, v2] := by cases args; simp_all
  obtain ⟨rfl, rfl⟩ := trodVars_none hV
  have k0 := h0
  have lt0 : ∀ x ∈ p0, x.block < W.heap.size := by obtain ⟨m, hm⟩ := k0; exact DataW.trod_lt m _ _ _ hm
  have k1 := h1
  have lt1 : ∀ x ∈ p1, x.block < W.heap.size := by obtain ⟨m, hm⟩ := k1; exact DataW.trod_lt m _ _ _ hm
  have k2 := h2
  have lt2 : ∀ x ∈ p2, x.block < W.heap.size := by obtain ⟨m, hm⟩ := k2; exact DataW.trod_lt m _ _ _ hm
  obtain ⟨x, rfl⟩ : ∃ s : ByteArray, v0 = .string s := okWide_string Tryz.underlying33 (hval 0 33 v0 rfl rfl)
  obtain ⟨y, rfl⟩ : ∃ s : ByteArray, v1 = .string s := okWide_string Tryz.underlying9 (hval 1 9 v1 rfl rfl)
  obtain ⟨z', e2, _, _, wf2⟩ := open_int Tryz.underlying5 (hval 2 5 v2 rfl rfl) h2
  subst e2
  have wb2 := bounds_u8 wf2
  obtain ⟨z, rfl⟩ : ∃ m : Nat, z' = (m : Int) := ⟨z'.toNat, by omega⟩
  clear hA0 hval0
  refine (mrounds_any x y z W hE hAw).mono fun e W' ⟨he, bel⟩ => ?_
  subst he
  exact ⟨_, rfl, _, _, _, [], _, [], hW', trodAll_mk1 (shut_bool Tryz.underlying4 _), (trodAll_cons_mk (Below.trod laidOut (by kernel_rfl) (of_decide_eq_true (by kernel_rfl)) k0 bel lt0) (trodAll_cons_mk (Below.trod laidOut (by kernel_rfl) (of_decide_eq_true (by kernel_rfl)) k1 bel lt1) (trodAll_cons_mk (Below.trod laidOut (by kernel_rfl) (of_decide_eq_true (by kernel_rfl)) k2 bel lt2) trodAll_mk0))), rfl, bel.frame _, fun h => by cases h⟩

theorem over : Rows.moneyRoundsRow.holds Tryz.pinned (OpenSpec.ofChange Rows.moneyRoundsSpec) :=
  OpenClaim.holds_of_wide 7 Tryz.f7 rfl rfl rfl rfl rfl rfl rfl ⟨rfl, rfl, rfl, rfl, rfl⟩ rfl rfl rfl rfl rfl (by kernel_rfl) Tryz.func7 (by kernel_rfl)
    (of_decide_eq_true (by kernel_rfl)) (by unfold Func.isWrapper; first | (rw [if_pos (by decide +kernel)]; kernel_rfl) | (rw [if_neg (by decide +kernel)]; exact ⟨rfl, rfl⟩))
    (fun os started H enc _ => lifted os started H enc)

/-- ████ THE STATEMENT ████ -/
theorem proved : Rows.MoneyRoundsCardSaid :=
  Claim7.holds_tied_plain_at .later [] [.data, .data, .data, .data, .sentinel, .sentinel, .funcs, .pinned] true (true, "6fe55113321fa95632076e6af9b918bb7a39bbc234a7c7f594eeb28d189d9ccb") true over (fun _ h => by cases h) (by kernel_rfl) (fun _ h => by cases h) moneyRounds_row_tie rfl ⟨rfl, rfl⟩ (by kernel_rfl) rfl
    (fun f fn hf hfn => by
      obtain rfl : f = 7 := Option.some.inj ((show Tryz.prog.funcNamed "novation/novationlaw07.MoneyRounds" = some 7 by kernel_rfl).symm.trans hf) |>.symm
      obtain rfl : fn = Tryz.f7 := (Option.some.inj (Tryz.func7.symm.trans hfn)).symm
      exact ⟨by kernel_rfl, fun j t ht => by
        rw [Tryz.params7] at ht
        have hm : t ∈ [33, 9, 5] := by
          have := Array.mem_of_getElem? ht
          simp at this
          simp [this]
        have hall : ([33, 9, 5].all fun u => !Tryz.prog.wantsStandIn u) = true := by kernel_rfl
        exact (show Tryz.prog.wantsStandIn t = false by simpa using List.all_eq_true.1 hall t hm)⟩)
    (by kernel_rfl)
#print axioms proved
end Go.Proofs.YtnikhbdjlipcbaaGreatDoor.moneyRounds
