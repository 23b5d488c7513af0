/-
  The statement SheetNames: the law returns true, and leaves what was there as it was. No condition.
-/
import Derived.Test.YtkobkpepgdddeaaGreatDoorYbh
import Derived.Test.YtkobkpepgdddeaaGreatDoorTie
import Derived.Test.YtkobkpepgdddeaaGreatDoorCards
import Derived.ProofKit
import Derived.OpenShut
import Derived.ShutString
import Derived.ChangeOld
import Derived.Below
import Derived.LaidMore
import Derived.Lay
import Derived.SevenTiedAt
import Derived.Stop.Joined
namespace Go.Proofs.YtkobkpepgdddeaaGreatDoor.sheetNames
open Go.ChangeShapes Go.WideShapes Go.ChangeAt Go.RowKit
set_option maxHeartbeats 16000000
set_option maxRecDepth 100000
set_option linter.unusedVariables false
theorem own:ownKnob Tryz.prog.godebug=none:=by kernel_rfl
theorem zd1(W:World)(h:laidMetH Tryz.prog Rows.sheetNamesRow.laid W):laidMet Tryz.prog Rows.sheetNamesRow.laid W:=by
 rwa [MakeChecks.laidMetH_plain _ _ _ (by kernel_rfl)]at h
theorem zdg{a b:String × DataW Unit}{l laid:List (String × DataW Unit)}{W:World}(hl:laid=a :: b :: l)(h:laidMet Tryz.prog laid W):laidMet Tryz.prog (b :: l) W:=by
 subst hl;obtain⟨ps,⟨g0,t0,cs0,f0,p0,q0,Y2,Vx,Uz,VK,Xw,Y5⟩,Xs,Zy⟩:=h
 first
  |(subst Xw;exact⟨q0,Y5,(List.nodup_append.1 Xs).2.1,fun b' off hm=>Zy b' off (List.mem_append_right _ hm)⟩)
  |(subst Y5;exact⟨q0,Xw,(List.nodup_append.1 Xs).2.1,fun b' off hm=>Zy b' off (List.mem_append_right _ hm)⟩)
def great : List String := ["unicode/utf8.acceptRanges", "unicode/utf8.first"]
noncomputable def wit(os:Os):World:=(World.doorLaid Tryz.prog 4000 os).layVars Tryz.prog (Rows.sheetNamesRow.laid.filter fun x=>great.contains x.1)
theorem zoe(os:Os):(wit os).os=os:=World.layVars_os _ _ _
noncomputable def witB(os:Os):List Nat:=((DataW.laidRun Tryz.prog (wit os) 8 ((Rows.sheetNamesRow.laid.filter fun x => !great.contains x.1).map (·.1))).map fun x=>x.2.map MemPlace.block).getD []
theorem zof(os:Os):LaidIn Tryz.prog (wit os) (Rows.sheetNamesRow.laid.filter fun x => !great.contains x.1) (witB os) :=
 LaidIn.of_run (witB os) 8 (by kernel_rfl) (by kernel_rfl) (by kernel_rfl) (by kernel_rfl)
theorem zkb(os:Os)(args:Array Value):laidMetH Tryz.prog Rows.sheetNamesRow.laid ((wit os).forCall (fun _ _=>0) ⟨#[],args,[]⟩).memory:=by
 rw[MakeChecks.laidMetH_plain _ _ _ (by kernel_rfl)];have h:laidMet Tryz.prog Rows.sheetNamesRow.laid (wit os):=laidMet_layVars (w0:=World.doorLaid Tryz.prog 4000 os) great (witB os) rfl (by kernel_rfl) (by kernel_rfl) (zof os);exact h.of_heap (by simp[World.memory,World.forCall,Input.heap])
theorem lifted(os:Os)(started:os.Started)(H:Type)(enc:TypeId × Value→H) :
 ReturnsInHanded {} Tryz.checked os 7 .any (fun w args=>(Rows.sheetNamesSpec.pre enc Tryz.prog Tryz.f7 Rows.sheetNamesRow.domain false w args∧laidMetH Tryz.prog Rows.sheetNamesRow.laid w)∧sizedMet enc Tryz.prog Tryz.f7 (OpenSpec.ofChange Rows.sheetNamesSpec) false w args)
  (Rows.sheetNamesSpec.post enc Tryz.prog Tryz.f7 false true false false):=by
 refine returnsInHanded_of_change_and (C:=Tryz.checked) (X:=fun w _=>laidMetH Tryz.prog Rows.sheetNamesRow.laid w) (fun _ _ _ hh h=>h.of_heap hh) own started (by kernel_rfl) Tryz.func7
  (ChangeSpec.witness_shaped (enc:=enc) (C:=Tryz.checked) (os:=os) (X:=fun w _=>laidMetH Tryz.prog Rows.sheetNamesRow.laid w) false (wit os) #[] 8 (zoe os) (World.shaped_of_ZipB (by kernel_rfl) (by kernel_rfl)) (by kernel_rfl) (by kernel_rfl) (by kernel_rfl) (zkb os _)) ?_
 intro W base args ds gs before Yw hW _ _ hL _;have hval:∀(j:Nat) t v,Tryz.f7.params[j]?=some t→args[j]?=some v→Value.okWide Tryz.prog W .any base t v:=Yw
 have hW':=hW;obtain⟨p,q,XH,hV,rfl,V0,Xs⟩:=hW;have hA:DataW.TrodAll enc Tryz.prog W 0 (fun _=>true) true Tryz.f7.params.toList args.toList ds p:=XH;rw[Tryz.params7]at hA hval;obtain⟨Vg,rfl,rfl⟩:=trodAll_nil hA;obtain rfl:args=#[]:=by cases args;simp_all
 obtain⟨rfl,rfl⟩:=trodVars_none hV;have hS:zb6 W:=zrk rfl (zdg rfl (zd1 W hL));have hP:zcr W:=zrl rfl (zdg rfl (zdg rfl (zd1 W hL)));clear XH Yw
 refine(ygm W hS hP).mono fun e W' ⟨he,bel⟩ => ?_
 subst he;exact⟨_,rfl,_,_,_,[],_,[],hW',trodAll_mk1 (shut_bool Tryz.underlying4 _),trodAll_mk0,rfl,bel.frame _,fun h=>by cases h⟩
theorem over:Rows.sheetNamesRow.holds Tryz.pinned (OpenSpec.ofChange Rows.sheetNamesSpec) :=
 OpenClaim.holds_of_wide 7 Tryz.f7 rfl rfl rfl rfl rfl rfl rfl ⟨rfl,rfl,rfl,rfl,rfl⟩ rfl rfl rfl rfl rfl (by kernel_rfl) Tryz.func7 (by kernel_rfl)
  (of_decide_eq_true (by kernel_rfl)) (by unfold Func.isWrapper;first |(rw[if_pos (by decide +kernel)];kernel_rfl) |(rw[if_neg (by decide +kernel)];exact⟨rfl,rfl⟩))
  (fun os started H enc _=>lifted os started H enc)
theorem proved:Rows.SheetNamesCardSaid :=
 Claim7.holds_tied_plain_at .later [] [.data, .mappedDeep, .mapped, .pinned] true (true, "555d68f678265d297ff57b12c1bf806460bcefeb24344d1d0895e5570f701912") true over (fun _ h => by cases h) (by kernel_rfl) (fun _ h => by cases h) sheetNames_row_tie rfl ⟨rfl, rfl⟩ (by kernel_rfl) rfl
  (fun f fn hf XC=>by
   obtain rfl : f = 7 := Option.some.inj ((show Tryz.prog.funcNamed "novation/novationlaw13.SheetNames" = some 7 by kernel_rfl).symm.trans hf) |>.symm
   obtain rfl:fn=Tryz.f7:=(Option.some.inj (Tryz.func7.symm.trans XC)).symm
   exact⟨by kernel_rfl,fun j t ht=>by
    rw[Tryz.params7]at ht
    simp at ht⟩)
  (by kernel_rfl)
#print axioms proved
end Go.Proofs.YtkobkpepgdddeaaGreatDoor.sheetNames
