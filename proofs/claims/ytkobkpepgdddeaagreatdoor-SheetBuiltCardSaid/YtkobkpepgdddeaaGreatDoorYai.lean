/-
  The reader's factor walked where a keyword is in front. No condition.
-/
import Derived.Test.YtkobkpepgdddeaaGreatDoorYah
import Derived.WalkMore
import Derived.Deep.LoopGhost
import Derived.Maps.Own
import Derived.Test.YtkobkpepgdddeaaGreatDoorYaf
namespace Go.Proofs.YtkobkpepgdddeaaGreatDoor
open Go.RowKit
set_option maxHeartbeats 16000000
set_option maxRecDepth 100000
theorem za0{l:List Tk}{b:List UInt8}(h:zap l=b):zfb l=⟨b.toArray⟩:=by
 have e:=(zfq l).trans h
 cases hq:zfb l with
 |mk d =>
  rw[hq]at e;have e2:d.toList=b:=e;rw[←e2]
theorem zny{n rb b lo:Nat}{w u:World}{l:List Tk}{x:Ex}{z0 z1 z2 z3 z4 v0 v1 v2 v3 v4:Value}(YO:rb<b)(hb:w.heap.size≤b)(WK:b<lo)(hz:u.heap[b]?=some (.cells #[z0,z1,z2,z3,z4] 25))
 (hx:ExOn (fun g=>lo≤g∧g<u.heap.size) n u [v0,v1,v2,v3,v4] x) (hr:RAt rb u l) (hg:w.grownBy u (some rb)) :
 ∃W',W'=((((u.setCell ⟨b,0,none⟩ v0).setCell ⟨b,1,none⟩ v1).setCell ⟨b,2,none⟩ v2).setCell ⟨b,3,none⟩ v3).setCell ⟨b,4,none⟩ v4 ∧
  ExOn (fun g=>w.heap.size≤g∧g<W'.heap.size) n W' [v0,v1,v2,v3,v4] x∧W'.heap[b]?=some (.cells #[v0,v1,v2,v3,v4] 25)∧RAt rb W' l∧w.grownBy W' (some rb):=by
 refine⟨_,rfl,?_,?_,?_,?_⟩
 ·refine(hx.keep fun g ⟨g1,_⟩ => ?_).mono fun g ⟨g1,g2⟩=>⟨by omega,by simpa[World.setCell]using g2⟩
  rw[Below.heap_setCell _ _ _ _ (by show g≠b;omega),Below.heap_setCell _ _ _ _ (by show g≠b;omega),Below.heap_setCell _ _ _ _ (by show g≠b;omega),Below.heap_setCell _ _ _ _ (by show g≠b;omega),Below.heap_setCell _ _ _ _ (by show g≠b;omega)]
 ·exact zck hz _ _ _ _ _
 ·exact((((hr.setNew YO _ _).setNew YO _ _).setNew YO _ _).setNew YO _ _).setNew YO _ _
 ·exact zam (zam (zam (zam (zam hg hb _ _) hb _ _) hb _ _) hb _ _) hb _ _
def zd9(rb n0:Nat)(S T:RdX):Prop:=∀(b:Bool)(W:World)(l:List Tk),RAt rb W l→l.length<n0→Calls Tryz.prog (fnF b) #[.pointer (some ⟨rb,0,none⟩)] W (zaf (VEx W.heap.size) rb W (zbj S T b l))
theorem zaj{w u:World}{o:Obj}{rb b:Nat}(h:w.heap[b]?=some o)(hg:w.grownBy u (some rb))(Z0:rb≠b):u.heap[b]?=some o :=
 (hg.block b (Z8 h) (fun e=>by injection e with e;exact Z0 e.symm)).trans h
theorem zvh{rb n0:Nat}(S T:RdX)(hp:zd9 rb n0 S T)(cS:∀l,(S l).Cons l)(cT:∀l,(T l).Cons l)(w:World)(l:List Tk)(h:RAt rb w l)(hl:l.length≤n0)(hh:zap l=[109,97,120]) :
 Calls Tryz.prog 113 #[.pointer (some ⟨rb,0,none⟩)] w (zaf (VEx w.heap.size) rb w (zby 7 (([true,true]:List Bool).map (zbj S T)) l.tail)):=by
 have hmf:∀(fn:Fn)(first cap:Array Value)(w:World),(Instr.makeFunc fn first cap).run Tryz.prog w=.ok (.func fn first cap) w:=fun _ _ _ _=>rfl
 obtain⟨t,r,rfl⟩:=zav (l:=l) (by rw[hh];simp);have HHD:=Z9 (fun W (hW:RAt rb W (t :: r))=>za1 rb W (t :: r) hW);rw[za0 hh]at HHD;have HTK:=Z9 (fun W (hW:RAt rb W (t :: r))=>zaz rb W t r hW);have HLI:=Z9 (fun W gp (hW:RAt rb W r) (hl:r.length≤n0) (h1:gp<W.heap.size) (h2:gp≠rb) (h3:∀i (hi:i<([true,true]:List Bool).length),W.cell? ⟨gp,i,none⟩=some (fnV rb (fnF (([true,true]:List Bool)[i]'hi))))=>ze0 S T hp cS cT 7 ([true,true]:List Bool) 2 gp rfl (by decide) W r hW hl h1 h2 h3);have HR:=Z9 h;have HL:Hid (r.length≤n0):=Z9 (by rw[List.length_cons]at hl;omega);have Z1:=h.lt;obtain⟨GR,ZX⟩:∃GR,GR=zby 7 (([true,true]:List Bool).map (zbj S T)) (t :: r).tail:=⟨_,rfl⟩
 rw[←ZX];have HGR:=Z9 ZX;clear h hl hh hp cS cT ZX;go_enter Tryz.func113,Tryz.ntmps113;go_wp2_with fail;have YW:=Z9 (zaa w (.cells #[.int .u8 0,.string ⟨#[]⟩,.string ⟨#[]⟩,.int .i64 0,.slice none 0 0] 25));refine(HHD.out _ (HR.out.below YW.out)).mono ?_;rintro e u ⟨rfl,hb⟩;have HU:=Z9 (And.intro (zaj (heap_alloc_new w (.cells #[.int .u8 0,.string ⟨#[]⟩,.string ⟨#[]⟩,.int .i64 0,.slice none 0 0] 25)) (zaq (rb:=rb) (zae hb)) (Nat.ne_of_lt Z1)) (And.intro ((HR.out.below YW.out).below hb) (zaq (rb:=rb) (zae (YW.out.trans (hb.mono YW.out.size))))));clear hb;go_wp2_with fail;refine(HTK.out _ HU.out.2.1).mono ?_
 rintro e u2 ⟨v,rfl,rfl,hr,hg⟩;have Zn:=Z9 (And.intro (zaj HU.out.1 hg (Nat.ne_of_lt Z1)) (And.intro hr (Lib.grownBy_trans HU.out.2.2 hg)));clear hr hg;go_wp2_with fail;have ZA:=(Z8 Zn.out.1);have ZK:=zaa u2 (.cells #[.func (.func 64) #[.pointer (some ⟨rb,0,none⟩)] #[],.func (.func 64) #[.pointer (some ⟨rb,0,none⟩)] #[]] 93)
 have ZV:∀i (hi:i<([true,true]:List Bool).length),(u2.alloc (.cells #[.func (.func 64) #[.pointer (some ⟨rb,0,none⟩)] #[],.func (.func 64) #[.pointer (some ⟨rb,0,none⟩)] #[]] 93)).cell? ⟨u2.heap.size,i,none⟩=some (fnV rb (fnF (([true,true]:List Bool)[i]'hi))):=by
  intro i hi;have ha:=heap_alloc_new u2 (.cells #[.func (.func 64) #[.pointer (some ⟨rb,0,none⟩)] #[],.func (.func 64) #[.pointer (some ⟨rb,0,none⟩)] #[]] 93);simp only[List.length_cons,List.length_nil]at hi;unfold World.cell?
  show(match (u2.alloc _).heap[u2.heap.size]? with |some (.cells c _ _)=>c[i]? |_=>none)=_
  rw[ha]
  match i,hi with
  |0,_=>rfl
  |1,_=>rfl
 have HM:=Z9 (HLI.out _ u2.heap.size (Zn.out.2.1.below ZK) HL.out (by simp) (by omega) ZV);clear ZV ZK;have e2:zby 7 (([true,true]:List Bool).map (zbj S T)) r=GR:=HGR.out.symm;rw[e2]at HM;have HU3:=Z9 (And.intro (zaj Zn.out.1 (World.grownBy_alloc u2 (.cells #[.func (.func 64) #[.pointer (some ⟨rb,0,none⟩)] #[],.func (.func 64) #[.pointer (some ⟨rb,0,none⟩)] #[]] 93) (some rb)) (Nat.ne_of_lt Z1)) (Lib.grownBy_allocR Zn.out.2.2 (.cells #[.func (.func 64) #[.pointer (some ⟨rb,0,none⟩)] #[],.func (.func 64) #[.pointer (some ⟨rb,0,none⟩)] #[]] 93)));refine HM.out.mono ?_;clear e2
 cases hq:GR with
 |no lq =>
  rintro e u3 ⟨rfl,hr,hg⟩;exact⟨rfl,zal rfl ⟨rfl,hr,Lib.grownBy_trans HU3.out.2 hg⟩⟩
 |ok y ly =>
  rintro e u3 ⟨vv,rfl,⟨mm,pa,pl,pc,rfl,hx⟩,hr,hg⟩;have hz3:=zaj HU3.out.1 hg (Nat.ne_of_lt Z1);have HFIN:=Z9 (zny Z1 (Nat.le_refl _) (by rw[World.size_alloc];omega) hz3 hx hr (Lib.grownBy_trans HU3.out.2 hg));have fz:∀i,u3.frozen? ⟨w.heap.size,i,none⟩=false:=Lib.frozen_of_heap hz3
  have zb:w.heap.size<u3.heap.size:=(Z8 hz3);obtain⟨z0,z1,z2,z3,z4⟩:=zad hz3;clear hx hr hg hz3;go_wp2_with fail;obtain⟨W',hW',hx,YY,hr,hg⟩:=HFIN.out;rw[←hW'];obtain⟨c0,c1,c2,c3,c4⟩:=zad YY;exact bodyPost_ret (v:=.agg #[.int .u8 y.kind,.string y.rat,.string y.name,.int .i64 y.date,.slice pa pl pc]) (by simp[results,Tryz.results113,go_sem,c0,c1,c2,c3,c4]) rfl (zbl hq ⟨_,rfl,⟨_,pa,pl,pc,rfl,hx⟩,hr,hg⟩)
theorem zvg{rb n0:Nat}(S T:RdX)(hp:zd9 rb n0 S T)(cS:∀l,(S l).Cons l)(cT:∀l,(T l).Cons l)(w:World)(l:List Tk)(h:RAt rb w l)(hl:l.length≤n0)(hh:zap l=[109,105,110]) :
 Calls Tryz.prog 113 #[.pointer (some ⟨rb,0,none⟩)] w (zaf (VEx w.heap.size) rb w (zby 8 (([true,true]:List Bool).map (zbj S T)) l.tail)):=by
 have hmf:∀(fn:Fn)(first cap:Array Value)(w:World),(Instr.makeFunc fn first cap).run Tryz.prog w=.ok (.func fn first cap) w:=fun _ _ _ _=>rfl
 obtain⟨t,r,rfl⟩:=zav (l:=l) (by rw[hh];simp);have HHD:=Z9 (fun W (hW:RAt rb W (t :: r))=>za1 rb W (t :: r) hW);rw[za0 hh]at HHD;have HTK:=Z9 (fun W (hW:RAt rb W (t :: r))=>zaz rb W t r hW);have HLI:=Z9 (fun W gp (hW:RAt rb W r) (hl:r.length≤n0) (h1:gp<W.heap.size) (h2:gp≠rb) (h3:∀i (hi:i<([true,true]:List Bool).length),W.cell? ⟨gp,i,none⟩=some (fnV rb (fnF (([true,true]:List Bool)[i]'hi))))=>ze0 S T hp cS cT 8 ([true,true]:List Bool) 2 gp rfl (by decide) W r hW hl h1 h2 h3);have HR:=Z9 h;have HL:Hid (r.length≤n0):=Z9 (by rw[List.length_cons]at hl;omega);have Z1:=h.lt;obtain⟨GR,ZX⟩:∃GR,GR=zby 8 (([true,true]:List Bool).map (zbj S T)) (t :: r).tail:=⟨_,rfl⟩
 rw[←ZX];have HGR:=Z9 ZX;clear h hl hh hp cS cT ZX;go_enter Tryz.func113,Tryz.ntmps113;go_wp2_with fail;have YW:=Z9 (zaa w (.cells #[.int .u8 0,.string ⟨#[]⟩,.string ⟨#[]⟩,.int .i64 0,.slice none 0 0] 25));refine(HHD.out _ (HR.out.below YW.out)).mono ?_;rintro e u ⟨rfl,hb⟩;have HU:=Z9 (And.intro (zaj (heap_alloc_new w (.cells #[.int .u8 0,.string ⟨#[]⟩,.string ⟨#[]⟩,.int .i64 0,.slice none 0 0] 25)) (zaq (rb:=rb) (zae hb)) (Nat.ne_of_lt Z1)) (And.intro ((HR.out.below YW.out).below hb) (zaq (rb:=rb) (zae (YW.out.trans (hb.mono YW.out.size))))));clear hb;go_wp2_with fail;refine(HTK.out _ HU.out.2.1).mono ?_
 rintro e u2 ⟨v,rfl,rfl,hr,hg⟩;have Zn:=Z9 (And.intro (zaj HU.out.1 hg (Nat.ne_of_lt Z1)) (And.intro hr (Lib.grownBy_trans HU.out.2.2 hg)));clear hr hg;go_wp2_with fail;have ZA:=(Z8 Zn.out.1);have ZK:=zaa u2 (.cells #[.func (.func 64) #[.pointer (some ⟨rb,0,none⟩)] #[],.func (.func 64) #[.pointer (some ⟨rb,0,none⟩)] #[]] 93)
 have ZV:∀i (hi:i<([true,true]:List Bool).length),(u2.alloc (.cells #[.func (.func 64) #[.pointer (some ⟨rb,0,none⟩)] #[],.func (.func 64) #[.pointer (some ⟨rb,0,none⟩)] #[]] 93)).cell? ⟨u2.heap.size,i,none⟩=some (fnV rb (fnF (([true,true]:List Bool)[i]'hi))):=by
  intro i hi;have ha:=heap_alloc_new u2 (.cells #[.func (.func 64) #[.pointer (some ⟨rb,0,none⟩)] #[],.func (.func 64) #[.pointer (some ⟨rb,0,none⟩)] #[]] 93);simp only[List.length_cons,List.length_nil]at hi;unfold World.cell?
  show(match (u2.alloc _).heap[u2.heap.size]? with |some (.cells c _ _)=>c[i]? |_=>none)=_
  rw[ha]
  match i,hi with
  |0,_=>rfl
  |1,_=>rfl
 have HM:=Z9 (HLI.out _ u2.heap.size (Zn.out.2.1.below ZK) HL.out (by simp) (by omega) ZV);clear ZV ZK;have e2:zby 8 (([true,true]:List Bool).map (zbj S T)) r=GR:=HGR.out.symm;rw[e2]at HM;have HU3:=Z9 (And.intro (zaj Zn.out.1 (World.grownBy_alloc u2 (.cells #[.func (.func 64) #[.pointer (some ⟨rb,0,none⟩)] #[],.func (.func 64) #[.pointer (some ⟨rb,0,none⟩)] #[]] 93) (some rb)) (Nat.ne_of_lt Z1)) (Lib.grownBy_allocR Zn.out.2.2 (.cells #[.func (.func 64) #[.pointer (some ⟨rb,0,none⟩)] #[],.func (.func 64) #[.pointer (some ⟨rb,0,none⟩)] #[]] 93)));refine HM.out.mono ?_;clear e2
 cases hq:GR with
 |no lq =>
  rintro e u3 ⟨rfl,hr,hg⟩;exact⟨rfl,zal rfl ⟨rfl,hr,Lib.grownBy_trans HU3.out.2 hg⟩⟩
 |ok y ly =>
  rintro e u3 ⟨vv,rfl,⟨mm,pa,pl,pc,rfl,hx⟩,hr,hg⟩;have hz3:=zaj HU3.out.1 hg (Nat.ne_of_lt Z1);have HFIN:=Z9 (zny Z1 (Nat.le_refl _) (by rw[World.size_alloc];omega) hz3 hx hr (Lib.grownBy_trans HU3.out.2 hg));have fz:∀i,u3.frozen? ⟨w.heap.size,i,none⟩=false:=Lib.frozen_of_heap hz3
  have zb:w.heap.size<u3.heap.size:=(Z8 hz3);obtain⟨z0,z1,z2,z3,z4⟩:=zad hz3;clear hx hr hg hz3;go_wp2_with fail;obtain⟨W',hW',hx,YY,hr,hg⟩:=HFIN.out;rw[←hW'];obtain⟨c0,c1,c2,c3,c4⟩:=zad YY;exact bodyPost_ret (v:=.agg #[.int .u8 y.kind,.string y.rat,.string y.name,.int .i64 y.date,.slice pa pl pc]) (by simp[results,Tryz.results113,go_sem,c0,c1,c2,c3,c4]) rfl (zbl hq ⟨_,rfl,⟨_,pa,pl,pc,rfl,hx⟩,hr,hg⟩)
theorem zrx{rb n0:Nat}(S T:RdX)(hp:zd9 rb n0 S T)(cS:∀l,(S l).Cons l)(cT:∀l,(T l).Cons l)(w:World)(l:List Tk)(h:RAt rb w l)(hl:l.length≤n0)(hh:zap l=[99,97,115,101]) :
 Calls Tryz.prog 113 #[.pointer (some ⟨rb,0,none⟩)] w (zaf (VEx w.heap.size) rb w (zby 9 (([false,true,true]:List Bool).map (zbj S T)) l.tail)):=by
 have hmf:∀(fn:Fn)(first cap:Array Value)(w:World),(Instr.makeFunc fn first cap).run Tryz.prog w=.ok (.func fn first cap) w:=fun _ _ _ _=>rfl
 obtain⟨t,r,rfl⟩:=zav (l:=l) (by rw[hh];simp);have HHD:=Z9 (fun W (hW:RAt rb W (t :: r))=>za1 rb W (t :: r) hW);rw[za0 hh]at HHD;have HTK:=Z9 (fun W (hW:RAt rb W (t :: r))=>zaz rb W t r hW);have HLI:=Z9 (fun W gp (hW:RAt rb W r) (hl:r.length≤n0) (h1:gp<W.heap.size) (h2:gp≠rb) (h3:∀i (hi:i<([false,true,true]:List Bool).length),W.cell? ⟨gp,i,none⟩=some (fnV rb (fnF (([false,true,true]:List Bool)[i]'hi))))=>ze0 S T hp cS cT 9 ([false,true,true]:List Bool) 3 gp rfl (by decide) W r hW hl h1 h2 h3);have HR:=Z9 h;have HL:Hid (r.length≤n0):=Z9 (by rw[List.length_cons]at hl;omega);have Z1:=h.lt;obtain⟨GR,ZX⟩:∃GR,GR=zby 9 (([false,true,true]:List Bool).map (zbj S T)) (t :: r).tail:=⟨_,rfl⟩
 rw[←ZX];have HGR:=Z9 ZX;clear h hl hh hp cS cT ZX;go_enter Tryz.func113,Tryz.ntmps113;go_wp2_with fail;have YW:=Z9 (zaa w (.cells #[.int .u8 0,.string ⟨#[]⟩,.string ⟨#[]⟩,.int .i64 0,.slice none 0 0] 25));refine(HHD.out _ (HR.out.below YW.out)).mono ?_;rintro e u ⟨rfl,hb⟩;have HU:=Z9 (And.intro (zaj (heap_alloc_new w (.cells #[.int .u8 0,.string ⟨#[]⟩,.string ⟨#[]⟩,.int .i64 0,.slice none 0 0] 25)) (zaq (rb:=rb) (zae hb)) (Nat.ne_of_lt Z1)) (And.intro ((HR.out.below YW.out).below hb) (zaq (rb:=rb) (zae (YW.out.trans (hb.mono YW.out.size))))));clear hb;go_wp2_with fail;refine(HTK.out _ HU.out.2.1).mono ?_
 rintro e u2 ⟨v,rfl,rfl,hr,hg⟩;have Zn:=Z9 (And.intro (zaj HU.out.1 hg (Nat.ne_of_lt Z1)) (And.intro hr (Lib.grownBy_trans HU.out.2.2 hg)));clear hr hg;go_wp2_with fail;have ZA:=(Z8 Zn.out.1);have ZK:=zaa u2 (.cells #[.func (.func 63) #[.pointer (some ⟨rb,0,none⟩)] #[],.func (.func 64) #[.pointer (some ⟨rb,0,none⟩)] #[],.func (.func 64) #[.pointer (some ⟨rb,0,none⟩)] #[]] 93)
 have ZV:∀i (hi:i<([false,true,true]:List Bool).length),(u2.alloc (.cells #[.func (.func 63) #[.pointer (some ⟨rb,0,none⟩)] #[],.func (.func 64) #[.pointer (some ⟨rb,0,none⟩)] #[],.func (.func 64) #[.pointer (some ⟨rb,0,none⟩)] #[]] 93)).cell? ⟨u2.heap.size,i,none⟩=some (fnV rb (fnF (([false,true,true]:List Bool)[i]'hi))):=by
  intro i hi;have ha:=heap_alloc_new u2 (.cells #[.func (.func 63) #[.pointer (some ⟨rb,0,none⟩)] #[],.func (.func 64) #[.pointer (some ⟨rb,0,none⟩)] #[],.func (.func 64) #[.pointer (some ⟨rb,0,none⟩)] #[]] 93);simp only[List.length_cons,List.length_nil]at hi;unfold World.cell?
  show(match (u2.alloc _).heap[u2.heap.size]? with |some (.cells c _ _)=>c[i]? |_=>none)=_
  rw[ha]
  match i,hi with
  |0,_=>rfl
  |1,_=>rfl
  |2,_=>rfl
 have HM:=Z9 (HLI.out _ u2.heap.size (Zn.out.2.1.below ZK) HL.out (by simp) (by omega) ZV);clear ZV ZK;have e2:zby 9 (([false,true,true]:List Bool).map (zbj S T)) r=GR:=HGR.out.symm;rw[e2]at HM;have HU3:=Z9 (And.intro (zaj Zn.out.1 (World.grownBy_alloc u2 (.cells #[.func (.func 63) #[.pointer (some ⟨rb,0,none⟩)] #[],.func (.func 64) #[.pointer (some ⟨rb,0,none⟩)] #[],.func (.func 64) #[.pointer (some ⟨rb,0,none⟩)] #[]] 93) (some rb)) (Nat.ne_of_lt Z1)) (Lib.grownBy_allocR Zn.out.2.2 (.cells #[.func (.func 63) #[.pointer (some ⟨rb,0,none⟩)] #[],.func (.func 64) #[.pointer (some ⟨rb,0,none⟩)] #[],.func (.func 64) #[.pointer (some ⟨rb,0,none⟩)] #[]] 93)))
 refine HM.out.mono ?_;clear e2
 cases hq:GR with
 |no lq =>
  rintro e u3 ⟨rfl,hr,hg⟩;exact⟨rfl,zal rfl ⟨rfl,hr,Lib.grownBy_trans HU3.out.2 hg⟩⟩
 |ok y ly =>
  rintro e u3 ⟨vv,rfl,⟨mm,pa,pl,pc,rfl,hx⟩,hr,hg⟩;have hz3:=zaj HU3.out.1 hg (Nat.ne_of_lt Z1);have HFIN:=Z9 (zny Z1 (Nat.le_refl _) (by rw[World.size_alloc];omega) hz3 hx hr (Lib.grownBy_trans HU3.out.2 hg));have fz:∀i,u3.frozen? ⟨w.heap.size,i,none⟩=false:=Lib.frozen_of_heap hz3
  have zb:w.heap.size<u3.heap.size:=(Z8 hz3);obtain⟨z0,z1,z2,z3,z4⟩:=zad hz3;clear hx hr hg hz3;go_wp2_with fail;obtain⟨W',hW',hx,YY,hr,hg⟩:=HFIN.out;rw[←hW'];obtain⟨c0,c1,c2,c3,c4⟩:=zad YY;exact bodyPost_ret (v:=.agg #[.int .u8 y.kind,.string y.rat,.string y.name,.int .i64 y.date,.slice pa pl pc]) (by simp[results,Tryz.results113,go_sem,c0,c1,c2,c3,c4]) rfl (zbl hq ⟨_,rfl,⟨_,pa,pl,pc,rfl,hx⟩,hr,hg⟩)
theorem zct{l:List Tk}{b:List UInt8}(h:¬zap l=b):((zfb l).toList == b)=false:=by
 rw[zag,zfq];simpa using h
def zC:Obj:=.cells #[.int .u8 0,.string ⟨#[]⟩,.string ⟨#[]⟩,.int .i64 0,.slice none 0 0] 25
structure FAt(rb b:Nat)(w u:World)(l:List Tk):Prop where
 box:u.heap[b]?=some zC
 rd:RAt rb u l
 grown:w.grownBy u (some rb)
 lt:rb<b
theorem FAt.call{rb b:Nat}{w u u':World}{l l':List Tk}(h:FAt rb b w u l)(hg:u.grownBy u' (some rb))(hr:RAt rb u' l'):FAt rb b w u' l' :=
 ⟨zaj h.box hg (Nat.ne_of_lt h.lt),hr,Lib.grownBy_trans h.grown hg,h.lt⟩
theorem FAt.below{rb b:Nat}{w u u':World}{l:List Tk}(h:FAt rb b w u l)(hb:Below u.heap.size u u'):FAt rb b w u' l:=h.call (zaq (zae hb)) (h.rd.below hb)
theorem FAt.alloc{rb b:Nat}{w u:World}{l:List Tk}(h:FAt rb b w u l)(o:Obj):FAt rb b w (u.alloc o) l:=h.below (zaa u o)
theorem FAt.start{rb:Nat}{w:World}{l:List Tk}(h:RAt rb w l):FAt rb w.heap.size w (w.alloc zC) l:=⟨heap_alloc_new w zC,h.below (zaa w zC),World.grownBy_alloc w zC _,h.lt⟩
theorem FAt.blt{rb b:Nat}{w u:World}{l:List Tk}(h:FAt rb b w u l):b<u.heap.size:=(Z8 h.box)
theorem zmp{lo n rb:Nat}{u u':World}{cs:List Value}{x:Ex}(hx:ExOn (fun g=>lo≤g∧g<u.heap.size) n u cs x)(hg:u.grownBy u' (some rb))(YO:rb<lo):ExOn (fun g=>lo≤g∧g<u'.heap.size) n u' cs x :=
 (hx.keep (w':=u') fun g ⟨g1,g2⟩=>hg.block g g2 (fun e=>by injection e with e;omega)).mono fun g ⟨g1,g2⟩=>⟨g1,Nat.lt_of_lt_of_le g2 hg.size⟩
theorem FAt.setNew{rb b c:Nat}{w u:World}{l:List Tk}(h:FAt rb b w u l)(hc:b<c)(i:Nat)(v:Value)(hw:w.heap.size≤c:=by omega):FAt rb b w (u.setCell ⟨c,i,none⟩ v) l :=
 ⟨(Below.heap_setCell _ _ _ _ (by show b≠c;omega)).trans h.box,h.rd.setNew (Nat.lt_trans h.lt hc) _ _,zam h.grown hw _ _,h.lt⟩
theorem FAt.fin{n rb b lo:Nat}{w u:World}{l:List Tk}{x:Ex}{v0 v1 v2 v3 v4:Value}(h:FAt rb b w u l)(hb:w.heap.size≤b)(WK:b<lo)(hx:ExOn (fun g=>lo≤g∧g<u.heap.size) n u [v0,v1,v2,v3,v4] x) :
 ∃W',W'=((((u.setCell ⟨b,0,none⟩ v0).setCell ⟨b,1,none⟩ v1).setCell ⟨b,2,none⟩ v2).setCell ⟨b,3,none⟩ v3).setCell ⟨b,4,none⟩ v4 ∧
  ExOn (fun g=>w.heap.size≤g∧g<W'.heap.size) n W' [v0,v1,v2,v3,v4] x∧W'.heap[b]?=some (.cells #[v0,v1,v2,v3,v4] 25)∧RAt rb W' l∧w.grownBy W' (some rb) :=
 zny h.lt hb WK h.box hx h.rd h.grown
theorem zru{rb:Nat}(w:World)(l:List Tk)(h:RAt rb w l)(h1:¬zap l=[109,97,120])(h2:¬zap l=[109,105,110])(h3:¬zap l=[99,97,115,101])(h4:¬zap l=[]) :
 Calls Tryz.prog 113 #[.pointer (some ⟨rb,0,none⟩)] w (zaf (VEx w.heap.size) rb w (.no l)):=by
 have HHD:=Z9 (fun W (hW:RAt rb W l)=>za1 rb W l hW);have HSTOP:=Z9 (fun W=>zg2 rb W);have d1:=zct h1;have d2:=zct h2;have d3:=zct h3;have d4:=zct h4;obtain⟨S,hS⟩:∃S,S=zfb l:=⟨_,rfl⟩
 rw[←hS]at HHD d1 d2 d3 d4;have HR:=Z9 h;clear h h1 h2 h3 h4 hS;go_enter Tryz.func113,Tryz.ntmps113;go_wp2_with fail;have YW:=Z9 (zaa w (.cells #[.int .u8 0,.string ⟨#[]⟩,.string ⟨#[]⟩,.int .i64 0,.slice none 0 0] 25));refine(HHD.out _ (HR.out.below YW.out)).mono ?_;rintro e u ⟨rfl,hb⟩;have HU:=Z9 (And.intro ((HR.out.below YW.out).below hb) (zaq (rb:=rb) (zae (YW.out.trans (hb.mono YW.out.size)))));clear hb;go_wp2_with fail;refine(HSTOP.out _).mono ?_;rintro e u2 ⟨rfl,rfl⟩;exact⟨rfl,rfl,HU.out.1,HU.out.2⟩
theorem zpu{rb n0:Nat}(S T:RdX)(hp:zd9 rb n0 S T)(w:World)(l:List Tk)(h:RAt rb w l)(hl:l.length≤n0)(h4:zap l=[])(h5:tIs 5 [40] l=true) :
 Calls Tryz.prog 113 #[.pointer (some ⟨rb,0,none⟩)] w (zaf (VEx w.heap.size) rb w ((S l.tail).bind fun x l=>(tEat 5 [41] l).bind fun _ l=>.ok x l)):=by
 obtain⟨t,r,rfl⟩:=zb7 h5;have HHD:=Z9 (fun W (hW:RAt rb W (t :: r))=>za1 rb W (t :: r) hW);rw[za0 h4]at HHD;have HIS:=Z9 (fun W (hW:RAt rb W (t :: r))=>zjg rb 5 ⟨#[40]⟩ W (t :: r) hW);rw[show tIs 5 (ByteArray.mk #[40]).data.toList (t :: r)=true from h5]at HIS;have HTK:=Z9 (fun W (hW:RAt rb W (t :: r))=>zaz rb W t r hW);have HMU:=Z9 (fun g2 s W l (hW:RAt rb W l) (hs:W.cell? ⟨g2,0,none⟩=some (.string s))=>za8 rb g2 5 s W l hW hs);have HSM:Hid (∀W,RAt rb W r→Calls Tryz.prog 64 #[.pointer (some ⟨rb,0,none⟩)] W (zaf (VEx W.heap.size) rb W (S r))):=Z9 (fun W hW=>hp true W r hW (by rw[List.length_cons]at hl;omega))
 have HR:=Z9 h;have Z1:=h.lt
 obtain⟨GR,ZX⟩:∃GR,GR=(S (t :: r).tail).bind fun x l=>(tEat 5 [41] l).bind fun _ l=>.ok x l:=⟨_,rfl⟩
 rw[←ZX];have HGR:Hid (GR=(S r).bind fun x l=>(tEat 5 [41] l).bind fun _ l=>.ok x l):=Z9 ZX;clear h hl h4 h5 hp ZX;go_enter Tryz.func113,Tryz.ntmps113;go_wp2_with fail;have HF0:=Z9 (FAt.start HR.out);refine(HHD.out _ HF0.out.rd).mono ?_;rintro e u ⟨rfl,hb⟩;have HU:=Z9 (HF0.out.below hb);clear hb;go_wp2_with fail;refine(HIS.out _ HU.out.rd).mono ?_;rintro e u1 ⟨rfl,hb⟩;have HU1:=Z9 (HU.out.below hb);clear hb;go_wp2_with fail;refine(HTK.out _ HU1.out.rd).mono ?_;rintro e u2 ⟨v,rfl,rfl,hr,hg⟩;have Zn:=Z9 (HU1.out.call hg hr);clear hr hg;go_wp2_with fail;refine(HSM.out _ Zn.out.rd).mono ?_
 cases hq:S r with
 |no lq =>
  rintro e u3 ⟨rfl,hr,hg⟩;exact⟨rfl,zal (l:=lq) (by rw[HGR.out,hq];rfl) ⟨rfl,hr,(Zn.out.call hg hr).grown⟩⟩
 |ok y l1 =>
  rintro e u3 ⟨vv,rfl,⟨mm,pa,pl,pc,rfl,hx⟩,hr,hg⟩;have HU3:=Z9 (Zn.out.call hg hr);obtain⟨yo,Xi⟩:∃yo:Obj,yo=.cells #[.int .u8 y.kind,.string y.rat,.string y.name,.int .i64 y.date,.slice pa pl pc] 25:=⟨_,rfl⟩
  have Vf:u3.grownBy ((u3.alloc yo).alloc (.cells #[.string ⟨#[41]⟩] 9)) (some rb):=Lib.grownBy_allocR (World.grownBy_alloc u3 yo _) _;have HU4:=Z9 ((HU3.out.alloc yo).alloc (.cells #[.string ⟨#[41]⟩] 9));have HX:=Z9 (zmp hx Vf (Nat.lt_trans Zn.out.lt Zn.out.blt));have HYB:=Z9 (zaj (heap_alloc_new u3 yo) (World.grownBy_alloc (u3.alloc yo) (.cells #[.string ⟨#[41]⟩] 9) (some rb)) (Nat.ne_of_lt HU3.out.rd.lt))
  have HSC:Hid (((u3.alloc yo).alloc (.cells #[.string ⟨#[41]⟩] 9)).cell? ⟨u3.heap.size+1,0,none⟩=some (.string ⟨#[41]⟩)):=by
   have:=Boxed.cell (Boxed.new (u3.alloc yo) 9 (.string ⟨#[41]⟩));rw[World.size_alloc]at this;exact Z9 this
  have HG23:=Z9 hg;rw[Xi]at HU4 HX HYB HSC;clear hr hg hx Xi Vf;go_wp2_with fail;refine(HMU.out _ _ _ l1 HU4.out.rd HSC.out).mono ?_;change ∀e u',zaf zhh rb _ (tEat 5 [41] l1) e u'→_
  cases Zp:tEat 5 [41] l1 with
  |no lq =>
   rintro e u5 ⟨rfl,hr,hg⟩;exact⟨rfl,zal (l:=lq) (by rw[HGR.out,hq];show(tEat 5 [41] l1).bind _=_;rw[Zp];rfl) ⟨rfl,hr,(HU4.out.call hg hr).grown⟩⟩
  |ok un l2 =>
   rintro e u5 ⟨v5,rfl,rfl,hr,hg⟩;have HU5:=Z9 (HU4.out.call hg hr);have hyb:=zaj HYB.out hg (Nat.ne_of_lt HU3.out.rd.lt);have HFIN:=Z9 (HU5.out.fin (Nat.le_refl _) Zn.out.blt (zmp HX.out hg (Nat.lt_trans Zn.out.lt Zn.out.blt)));obtain⟨y0,y1,y2,y3,y4⟩:=zad hyb;obtain⟨z0,z1,z2,z3,z4⟩:=zad (show u5.heap[w.heap.size]?=some (.cells #[.int .u8 0,.string ⟨#[]⟩,.string ⟨#[]⟩,.int .i64 0,.slice none 0 0] 25)from HU5.out.box)
   have fz:∀i,u5.frozen? ⟨w.heap.size,i,none⟩=false:=Lib.frozen_of_heap (show u5.heap[w.heap.size]?=some (.cells #[.int .u8 0,.string ⟨#[]⟩,.string ⟨#[]⟩,.int .i64 0,.slice none 0 0] 25)from HU5.out.box)
   have zb:=HU5.out.blt;have hyl:=(Z8 hyb);clear hr hg hyb;go_wp2_with fail;obtain⟨W',hW',hx,YY,hr,hg⟩:=HFIN.out;rw[←hW'];obtain⟨c0,c1,c2,c3,c4⟩:=zad YY;exact bodyPost_ret (v:=.agg #[.int .u8 y.kind,.string y.rat,.string y.name,.int .i64 y.date,.slice pa pl pc]) (by simp[results,Tryz.results113,go_sem,c0,c1,c2,c3,c4]) rfl (zbl (x:=y) (l:=l2) (by rw[HGR.out,hq];show(tEat 5 [41] l1).bind _=_;rw[Zp];rfl) ⟨_,rfl,⟨_,pa,pl,pc,rfl,hx⟩,hr,hg⟩)
theorem zc9(S:Nat→Prop)(w:World)(k:Int)(r s:ByteArray)(d:Int):ExOn S 1 w [.int .u8 k,.string r,.string s,.int .i64 d,.slice none 0 0] (.mk k r s d []):=⟨none,0,0,rfl,rfl,.inl rfl⟩
theorem zvf{rb:Nat}(w:World)(t:Tk)(r:List Tk)(h:RAt rb w (t :: r))(h4:zap (t :: r)=[])(h5:tIs 5 [40] (t :: r)=false)(h6:t.kind=3) :
 Calls Tryz.prog 113 #[.pointer (some ⟨rb,0,none⟩)] w (zaf (VEx w.heap.size) rb w (.ok (.mk 1 t.rat tE0 0 []) r)):=by
 have hfld:=yaf;have HHD:=Z9 (fun W (hW:RAt rb W (t :: r))=>za1 rb W (t :: r) hW);rw[za0 h4]at HHD;have HIS:=Z9 (fun W (hW:RAt rb W (t :: r))=>zjg rb 5 ⟨#[40]⟩ W (t :: r) hW);rw[show tIs 5 (ByteArray.mk #[40]).data.toList (t :: r)=false from h5]at HIS;have HR:=Z9 h;have Z1:=h.lt;have HTK:=Z9 (fun W (hW:RAt rb W (t :: r))=>zaz rb W t r hW);have HK:=Z9 h6;clear h h4 h5 h6;go_enter Tryz.func113,Tryz.ntmps113;go_wp2_with fail;have HF0:=Z9 (FAt.start HR.out);refine(HHD.out _ HF0.out.rd).mono ?_;rintro e u ⟨rfl,hb⟩;have HU:=Z9 (HF0.out.below hb);clear hb;go_wp2_with fail;refine(HIS.out _ HU.out.rd).mono ?_
 rintro e u1 ⟨rfl,hb⟩;have HU1:=Z9 (HU.out.below hb);clear hb;obtain⟨g,o,cap,hb,hc,hm,Z5,hg,Z0,_⟩:=HU1.out.rd.head;have h0:=hb.cell;obtain⟨c0,_,_,_,_⟩:=zfp Z5;have hl:(0:Int)<((r.length+1:Nat):Int):=by omega
 have hl0:0<r.length+1:=by omega
 obtain⟨n,hn⟩:∃n,n=r.length+1:=⟨_,rfl⟩
 rw[←hn]at h0 hl hl0 hc;have hn0:((n:Int) == 0)=false:=by simp;omega
 have d1:(t.kind == 3)=true:=by simp[HK.out]
 clear hb Z5 hn;go_wp2_with fail;refine(HTK.out _ HU1.out.rd).mono ?_;rintro e u2 ⟨v,rfl,rfl,hr,Yz⟩;have Zn:=Z9 (HU1.out.call Yz hr);obtain⟨z0,z1,z2,z3,z4⟩:=zad (show u2.heap[w.heap.size]?=some (.cells #[.int .u8 0,.string ⟨#[]⟩,.string ⟨#[]⟩,.int .i64 0,.slice none 0 0] 25)from Zn.out.box)
 have fz:∀i,u2.frozen? ⟨w.heap.size,i,none⟩=false:=Lib.frozen_of_heap (show u2.heap[w.heap.size]?=some (.cells #[.int .u8 0,.string ⟨#[]⟩,.string ⟨#[]⟩,.int .i64 0,.slice none 0 0] 25)from Zn.out.box)
 have zb:=Zn.out.blt;have HFIN:=Z9 (Zn.out.fin (Nat.le_refl _) (Nat.lt_succ_self _) (zc9 (fun g=>w.heap.size+1≤g∧g<u2.heap.size) u2 1 t.rat ⟨#[]⟩ 0));clear hr Yz h0 c0;go_wp2_with fail;obtain⟨W',hW',hx,YY,hr,hg⟩:=HFIN.out;rw[←hW'];obtain⟨c0,c1,c2,c3,c4⟩:=zad YY;exact bodyPost_ret (v:=.agg #[.int .u8 1,.string t.rat,.string ⟨#[]⟩,.int .i64 0,.slice none 0 0]) (by simp[results,Tryz.results113,go_sem,c0,c1,c2,c3,c4]) rfl (⟨_,rfl,⟨_,none,0,0,rfl,hx⟩,hr,hg⟩)
theorem zvi{rb:Nat}(w:World)(t:Tk)(r:List Tk)(h:RAt rb w (t :: r))(h4:zap (t :: r)=[])(h5:tIs 5 [40] (t :: r)=false)(h6:¬t.kind=3) :
 Calls Tryz.prog 113 #[.pointer (some ⟨rb,0,none⟩)] w (zaf (VEx w.heap.size) rb w (tFix (t :: r))):=by
 have hfld:=zco;have HHD:=Z9 (fun W (hW:RAt rb W (t :: r))=>za1 rb W (t :: r) hW);rw[za0 h4]at HHD;have HIS:=Z9 (fun W (hW:RAt rb W (t :: r))=>zjg rb 5 ⟨#[40]⟩ W (t :: r) hW);rw[show tIs 5 (ByteArray.mk #[40]).data.toList (t :: r)=false from h5]at HIS;have HR:=Z9 h;have Z1:=h.lt;have Zd:=Z9 (fun W (hW:RAt rb W (t :: r))=>zd3 rb W (t :: r) hW);have HMU:=Z9 (fun g2 s W l (hW:RAt rb W l) (hs:W.cell? ⟨g2,0,none⟩=some (.string s))=>za8 rb g2 5 s W l hW hs);obtain⟨GR,ZX⟩:∃GR,GR=tFix (t :: r):=⟨_,rfl⟩
 rw[←ZX];have HGR:Hid (GR=(zdc (t :: r)).bind fun n l=>(tEat 5 [64] l).bind fun _ l=>if tIs 1 [110,111,119] l=true then .ok (.mk 3 tE0 n 0 []) l.tail else(tOf 4 l).bind fun t l=>.ok (.mk 2 tE0 n t.date []) l):=Z9 ZX;have HK:=Z9 h6;clear h h4 h5 h6 ZX;go_enter Tryz.func113,Tryz.ntmps113;go_wp2_with fail;have HF0:=Z9 (FAt.start HR.out);refine(HHD.out _ HF0.out.rd).mono ?_;rintro e u ⟨rfl,hb⟩;have HU:=Z9 (HF0.out.below hb);clear hb;go_wp2_with fail;refine(HIS.out _ HU.out.rd).mono ?_;rintro e u1 ⟨rfl,hb⟩;have HU1:=Z9 (HU.out.below hb);clear hb;obtain⟨g,o,cap,hb,hc,hm,Z5,hg,Z0,_⟩:=HU1.out.rd.head;have h0:=hb.cell
 obtain⟨c0,_,_,_,_⟩:=zfp Z5;have hl:(0:Int)<((r.length+1:Nat):Int):=by omega
 have hl0:0<r.length+1:=by omega
 obtain⟨n,hn⟩:∃n,n=r.length+1:=⟨_,rfl⟩
 rw[←hn]at h0 hl hl0 hc;have hn0:((n:Int) == 0)=false:=by simp;omega
 have d1:(t.kind == 3)=false:=by simp[HK.out]
 clear hb Z5 hn;go_wp2_with fail;refine(Zd.out _ HU1.out.rd).mono ?_
 cases hq:zdc (t :: r)with
 |no lq =>
  rintro e u3 ⟨rfl,hr,hg⟩;exact⟨rfl,zal (l:=lq) (by rw[HGR.out,hq];rfl) ⟨rfl,hr,(HU1.out.call hg hr).grown⟩⟩
 |ok nm l1 =>
  rintro e u3 ⟨vv,rfl,rfl,hr,hg⟩;have HU3:=Z9 (HU1.out.call hg hr);obtain⟨yo,Xi⟩:∃yo:Obj,yo=.cells #[.int .u8 2,.string ⟨#[]⟩,.string nm,.int .i64 0,.slice none 0 0] 25:=⟨_,rfl⟩
  have HU4:=Z9 ((HU3.out.alloc yo).alloc (.cells #[.string ⟨#[64]⟩] 9));have HYB:=Z9 (zaj (heap_alloc_new u3 yo) (World.grownBy_alloc (u3.alloc yo) (.cells #[.string ⟨#[64]⟩] 9) (some rb)) (Nat.ne_of_lt HU3.out.rd.lt))
  have HSC:Hid (((u3.alloc yo).alloc (.cells #[.string ⟨#[64]⟩] 9)).cell? ⟨u3.heap.size+1,0,none⟩=some (.string ⟨#[64]⟩)):=by
   have:=Boxed.cell (Boxed.new (u3.alloc yo) 9 (.string ⟨#[64]⟩));rw[World.size_alloc]at this;exact Z9 this
  rw[Xi]at HU4 HYB HSC;clear hr hg Xi;go_wp2_with fail;refine(HMU.out _ _ _ l1 HU4.out.rd HSC.out).mono ?_;change ∀e u',zaf zhh rb _ (tEat 5 [64] l1) e u'→_
  cases Zp:tEat 5 [64] l1 with
  |no lq =>
   rintro e u5 ⟨rfl,hr,hg⟩;exact⟨rfl,zal (l:=lq) (by rw[HGR.out,hq];show(tEat 5 [64] l1).bind _=_;rw[Zp];rfl) ⟨rfl,hr,(HU4.out.call hg hr).grown⟩⟩
  |ok un l2 =>
   rintro e u5 ⟨v5,rfl,rfl,hr,hg⟩;have HU5:=Z9 (HU4.out.call hg hr);have HYB5:=Z9 (zaj HYB.out hg (Nat.ne_of_lt HU3.out.rd.lt));have HG2:Hid (GR=if tIs 1 [110,111,119] l2=true then .ok (.mk 3 tE0 nm 0 []) l2.tail else(tOf 4 l2).bind fun t l=>.ok (.mk 2 tE0 nm t.date []) l):=Z9 (by rw[HGR.out,hq];show(tEat 5 [64] l1).bind _=_;rw[Zp];rfl);have HIN:=Z9 (zjg rb 1 ⟨#[110,111,119]⟩ u5 l2 HU5.out.rd);clear hr hg
   cases ZP:tIs 1 [110,111,119] l2 with
   |true =>
    obtain⟨t2,r2,rfl⟩:=zb7 ZP;rw[show tIs 1 (ByteArray.mk #[110,111,119]).data.toList (t2 :: r2)=true from ZP]at HIN;rw[ZP,if_pos rfl]at HG2;clear ZP;go_wp2_with fail;refine HIN.out.mono ?_;rintro e u6 ⟨rfl,hb⟩;have HU6:=Z9 (HU5.out.below hb);have HYB6:=Z9 (zaj HYB5.out (zaq (rb:=rb) (zae hb)) (Nat.ne_of_lt HU3.out.rd.lt));clear hb;go_wp2_with fail;refine(zaz rb u6 t2 r2 HU6.out.rd).mono ?_;rintro e u7 ⟨v7,rfl,rfl,hr,hg⟩;have hyb:=zaj HYB6.out hg (Nat.ne_of_lt HU3.out.rd.lt);have hyl:=(Z8 hyb);obtain⟨y0,y1,y2,y3,y4⟩:=zad hyb;have fy:∀i,u7.frozen? ⟨u3.heap.size,i,none⟩=false:=Lib.frozen_of_heap hyb
    have HU7:=Z9 (HU6.out.call hg hr);have Z0:w.heap.size≠u3.heap.size:=Nat.ne_of_lt HU3.out.blt;have HU8:=Z9 (HU7.out.setNew HU3.out.blt 0 (.int .u8 3) (Nat.le_of_lt HU3.out.blt));obtain⟨z0,z1,z2,z3,z4⟩:=zad (show u7.heap[w.heap.size]?=some (.cells #[.int .u8 0,.string ⟨#[]⟩,.string ⟨#[]⟩,.int .i64 0,.slice none 0 0] 25)from HU7.out.box)
    have fz:∀i,u7.frozen? ⟨w.heap.size,i,none⟩=false:=Lib.frozen_of_heap (show u7.heap[w.heap.size]?=some (.cells #[.int .u8 0,.string ⟨#[]⟩,.string ⟨#[]⟩,.int .i64 0,.slice none 0 0] 25)from HU7.out.box)
    have zb:=HU7.out.blt;have HFIN:=Z9 (HU8.out.fin (Nat.le_refl _) (Nat.lt_succ_self _) (zc9 (fun g=>w.heap.size+1≤g∧g<(u7.setCell ⟨u3.heap.size,0,none⟩ (.int .u8 3)).heap.size) (u7.setCell ⟨u3.heap.size,0,none⟩ (.int .u8 3)) 3 ⟨#[]⟩ nm 0));clear hr hg hyb;go_wp2_with fail;obtain⟨W',hW',hx,YY,hr,hg⟩:=HFIN.out;rw[←hW'];obtain⟨c0,c1,c2,c3,c4⟩:=zad YY;exact bodyPost_ret (v:=.agg #[.int .u8 3,.string ⟨#[]⟩,.string nm,.int .i64 0,.slice none 0 0]) (by simp[results,Tryz.results113,go_sem,c0,c1,c2,c3,c4]) rfl (zbl (x:=.mk 3 tE0 nm 0 []) (l:=r2) HG2.out ⟨_,rfl,⟨_,none,0,0,rfl,hx⟩,hr,hg⟩)
   |false =>
    rw[show tIs 1 (ByteArray.mk #[110,111,119]).data.toList l2=false from ZP]at HIN;rw[ZP,if_neg (by decide)]at HG2;clear ZP;go_wp2_with fail;refine HIN.out.mono ?_;rintro e u6 ⟨rfl,hb⟩;have HU6:=Z9 (HU5.out.below hb);have HYB6:=Z9 (zaj HYB5.out (zaq (rb:=rb) (zae hb)) (Nat.ne_of_lt HU3.out.rd.lt));clear hb;go_wp2_with fail;refine(zf6 rb 4 u6 l2 HU6.out.rd).mono ?_
    cases U1:tOf 4 l2 with
    |no lq =>
     rintro e u7 ⟨rfl,hr,hg⟩;exact⟨rfl,zal (l:=lq) (by rw[HG2.out,U1];rfl) ⟨rfl,hr,(HU6.out.call hg hr).grown⟩⟩
    |ok t2 r2 =>
     rintro e u7 ⟨v7,rfl,rfl,hr,hg⟩;have hyb:=zaj HYB6.out hg (Nat.ne_of_lt HU3.out.rd.lt);have hyl:=(Z8 hyb);obtain⟨y0,y1,y2,y3,y4⟩:=zad hyb;have fy:∀i,u7.frozen? ⟨u3.heap.size,i,none⟩=false:=Lib.frozen_of_heap hyb
     have HU7:=Z9 (HU6.out.call hg hr);have Z0:w.heap.size≠u3.heap.size:=Nat.ne_of_lt HU3.out.blt;have HU8:=Z9 (HU7.out.setNew HU3.out.blt 3 (.int .i64 t2.date) (Nat.le_of_lt HU3.out.blt));obtain⟨z0,z1,z2,z3,z4⟩:=zad (show u7.heap[w.heap.size]?=some (.cells #[.int .u8 0,.string ⟨#[]⟩,.string ⟨#[]⟩,.int .i64 0,.slice none 0 0] 25)from HU7.out.box)
     have fz:∀i,u7.frozen? ⟨w.heap.size,i,none⟩=false:=Lib.frozen_of_heap (show u7.heap[w.heap.size]?=some (.cells #[.int .u8 0,.string ⟨#[]⟩,.string ⟨#[]⟩,.int .i64 0,.slice none 0 0] 25)from HU7.out.box)
     have zb:=HU7.out.blt;have HFIN:=Z9 (HU8.out.fin (Nat.le_refl _) (Nat.lt_succ_self _) (zc9 (fun g=>w.heap.size+1≤g∧g<(u7.setCell ⟨u3.heap.size,3,none⟩ (.int .i64 t2.date)).heap.size) (u7.setCell ⟨u3.heap.size,3,none⟩ (.int .i64 t2.date)) 2 ⟨#[]⟩ nm t2.date));clear hr hg hyb;go_wp2_with fail;obtain⟨W',hW',hx,YY,hr,hg⟩:=HFIN.out;rw[←hW'];obtain⟨c0,c1,c2,c3,c4⟩:=zad YY;exact bodyPost_ret (v:=.agg #[.int .u8 2,.string ⟨#[]⟩,.string nm,.int .i64 t2.date,.slice none 0 0]) (by simp[results,Tryz.results113,go_sem,c0,c1,c2,c3,c4]) rfl (zbl (x:=.mk 2 tE0 nm t2.date []) (l:=r2) (by rw[HG2.out,U1];rfl) ⟨_,rfl,⟨_,none,0,0,rfl,hx⟩,hr,hg⟩)
theorem zrw{rb:Nat}(w:World)(h:RAt rb w ([]:List Tk))(h4:zap ([]:List Tk)=[])(h5:tIs 5 [40] ([]:List Tk)=false) :
 Calls Tryz.prog 113 #[.pointer (some ⟨rb,0,none⟩)] w (zaf (VEx w.heap.size) rb w (tFix ([]:List Tk))):=by
 have hfld:=zco;have HHD:=Z9 (fun W (hW:RAt rb W ([]:List Tk))=>za1 rb W ([]:List Tk) hW);rw[za0 h4]at HHD;have HIS:=Z9 (fun W (hW:RAt rb W ([]:List Tk))=>zjg rb 5 ⟨#[40]⟩ W ([]:List Tk) hW);rw[show tIs 5 (ByteArray.mk #[40]).data.toList ([]:List Tk)=false from h5]at HIS;have HR:=Z9 h;have Z1:=h.lt;have Zd:=Z9 (fun W (hW:RAt rb W ([]:List Tk))=>zd3 rb W ([]:List Tk) hW);have HMU:=Z9 (fun g2 s W l (hW:RAt rb W l) (hs:W.cell? ⟨g2,0,none⟩=some (.string s))=>za8 rb g2 5 s W l hW hs);obtain⟨GR,ZX⟩:∃GR,GR=tFix ([]:List Tk):=⟨_,rfl⟩
 rw[←ZX];have HGR:Hid (GR=(zdc ([]:List Tk)).bind fun n l=>(tEat 5 [64] l).bind fun _ l=>if tIs 1 [110,111,119] l=true then .ok (.mk 3 tE0 n 0 []) l.tail else(tOf 4 l).bind fun t l=>.ok (.mk 2 tE0 n t.date []) l):=Z9 ZX;clear h h4 h5 ZX;go_enter Tryz.func113,Tryz.ntmps113;go_wp2_with fail;have HF0:=Z9 (FAt.start HR.out);refine(HHD.out _ HF0.out.rd).mono ?_;rintro e u ⟨rfl,hb⟩;have HU:=Z9 (HF0.out.below hb);clear hb;go_wp2_with fail;refine(HIS.out _ HU.out.rd).mono ?_;rintro e u1 ⟨rfl,hb⟩;have HU1:=Z9 (HU.out.below hb);clear hb;obtain⟨a,cap,hb⟩:=HU1.out.rd.nil;have h0:=hb.cell;clear hb;go_wp2_with fail
 refine(Zd.out _ HU1.out.rd).mono ?_;rintro e u3 ⟨rfl,hr,hg⟩;exact⟨rfl,zal (l:=[]) (by rw[HGR.out];rfl) ⟨rfl,hr,(HU1.out.call hg hr).grown⟩⟩
theorem zvj{rb n0:Nat}(S T:RdX)(hp:zd9 rb n0 S T)(cS:∀l,(S l).Cons l)(cT:∀l,(T l).Cons l)(w:World)(l:List Tk)(h:RAt rb w l)(hl:l.length≤n0) :
 Calls Tryz.prog 113 #[.pointer (some ⟨rb,0,none⟩)] w (zaf (VEx w.heap.size) rb w (zbu S T l)):=by
 unfold zbu
 by_cases h1:zap l=[109,97,120]
 ·rw[if_pos h1];exact zvh S T hp cS cT w l h hl h1
 rw[if_neg h1]
 by_cases h2:zap l=[109,105,110]
 ·rw[if_pos h2];exact zvg S T hp cS cT w l h hl h2
 rw[if_neg h2]
 by_cases h3:zap l=[99,97,115,101]
 ·rw[if_pos h3];exact zrx S T hp cS cT w l h hl h3
 rw[if_neg h3]
 by_cases h4:zap l=[]
 ·rw[if_pos h4]
  unfold zdl
  cases h5:tIs 5 [40] l with
  |true=>rw[if_pos rfl];exact zpu S T hp w l h hl h4 h5
  |false =>
   rw[if_neg (by decide)]
   cases l with
   |nil=>exact zrw w h h4 h5
   |cons t r =>
    show Calls _ _ _ w (zaf _ rb w (if t.kind=3 then .ok (.mk 1 t.rat tE0 0 []) r else tFix (t :: r)))
    by_cases h6:t.kind=3
    ·rw[if_pos h6];exact zvf w t r h h4 h5 h6
    ·rw[if_neg h6];exact zvi w t r h h4 h5 h6
 ·rw[if_neg h4];exact zru w l h h1 h2 h3 h4
def Rg(B bx:Nat)(u:World)(g:Nat):Prop:=B+2≤g∧g<u.heap.size∧g≠bx
theorem z4r{S:Nat→Prop}{n:Nat}{w:World}{g:Nat}(k:Int){a b:Ex}{a0 a1 a2 a3 a4 b0 b1 b2 b3 b4:Value}(hS:S g)(hg:w.heap[g]?=some (.cells #[a0,a1,a2,a3,a4,b0,b1,b2,b3,b4] 25))(ha:ExOn S n w [a0,a1,a2,a3,a4] a)(hb:ExOn S n w [b0,b1,b2,b3,b4] b) :
 ExOn S (n+1) w [.int .u8 k,.string ⟨#[]⟩,.string ⟨#[]⟩,.int .i64 0,.slice (some ⟨g,0,none⟩) 2 2] (tEx2 k a b):=by
 refine⟨_,2,2,rfl,rfl,.inr ⟨g,rfl,hS,fun i hi => ?_⟩⟩
 have hc:∀j,w.cell? ⟨g,j,none⟩=(#[a0,a1,a2,a3,a4,b0,b1,b2,b3,b4]:Array Value)[j]?:=fun j=>by simp[World.cell?,hg]
 match i,hi with
 |0,_ =>
  refine⟨_,fun j hj => ?_,ha⟩;rw[hc]
  match j,hj with
  |0,_=>rfl
  |1,_=>rfl
  |2,_=>rfl
  |3,_=>rfl
  |4,_=>rfl
 |1,_ =>
  refine⟨_,fun j hj => ?_,hb⟩;rw[hc]
  match j,hj with
  |0,_=>rfl
  |1,_=>rfl
  |2,_=>rfl
  |3,_=>rfl
  |4,_=>rfl
theorem box2{rb B bx m m2:Nat}{w u:World}{l:List Tk}{x y:Ex}{z0 z1 z2 z3 z4 x0 x1 x2 x3 x4 y0 y1 y2 y3 y4:Value}(k:Int)(h:FAt rb B w u l)(hB:w.heap.size≤B)(ZJ:B<bx)(xb:u.heap[bx]?=some (.cells #[z0,z1,z2,z3,z4] 25))
 (hx:ExOn (Rg B bx u) m u [x0,x1,x2,x3,x4] x) (hy:ExOn (Rg B bx u) m2 u [y0,y1,y2,y3,y4] y) :
 ∃W',W'=(((((u.setCell ⟨bx,0,none⟩ (.int .u8 k)).setCell ⟨bx,1,none⟩ (.string ⟨#[]⟩)).setCell ⟨bx,2,none⟩ (.string ⟨#[]⟩)).setCell ⟨bx,3,none⟩ (.int .i64 0)).setCell ⟨bx,4,none⟩ (.slice (some ⟨u.heap.size,0,none⟩) 2 2)).alloc (.cells #[x0,x1,x2,x3,x4,y0,y1,y2,y3,y4] 25) ∧
  FAt rb B w W' l∧W'.heap[bx]?=some (.cells #[.int .u8 k,.string ⟨#[]⟩,.string ⟨#[]⟩,.int .i64 0,.slice (some ⟨u.heap.size,0,none⟩) 2 2] 25) ∧
  ExOn (Rg B bx W') (max m m2+1) W' [.int .u8 k,.string ⟨#[]⟩,.string ⟨#[]⟩,.int .i64 0,.slice (some ⟨u.heap.size,0,none⟩) 2 2] (tEx2 k x y) ∧
  (∀n cs z,ExOn (Rg B bx u) n u cs z→ExOn (Rg B bx W') n W' cs z)∧(∀c,c≠bx→c<u.heap.size→W'.heap[c]?=u.heap[c]?)∧u.heap.size<W'.heap.size:=by
 have ZK:=(Z8 xb);have hfin:=zck xb (.int .u8 k) (.string ⟨#[]⟩) (.string ⟨#[]⟩) (.int .i64 0) (.slice (some ⟨u.heap.size,0,none⟩) 2 2);obtain⟨u1,WM⟩:∃u1,u1=((((u.setCell ⟨bx,0,none⟩ (.int .u8 k)).setCell ⟨bx,1,none⟩ (.string ⟨#[]⟩)).setCell ⟨bx,2,none⟩ (.string ⟨#[]⟩)).setCell ⟨bx,3,none⟩ (.int .i64 0)).setCell ⟨bx,4,none⟩ (.slice (some ⟨u.heap.size,0,none⟩) 2 2):=⟨_,rfl⟩
 have Zt:u1.heap.size=u.heap.size:=by rw[WM];simp[World.setCell]
 have hF1:FAt rb B w u1 l:=by
  rw[WM];have hw:w.heap.size≤bx:=by omega
  exact((((h.setNew ZJ _ _ hw).setNew ZJ _ _ hw).setNew ZJ _ _ hw).setNew ZJ _ _ hw).setNew ZJ _ _ hw
 have hkeep:∀c,c≠bx→u1.heap[c]?=u.heap[c]?:=fun c hc=>by
  rw[WM,Below.heap_setCell _ _ _ _ (by show c≠bx;exact hc),Below.heap_setCell _ _ _ _ (by show c≠bx;exact hc),Below.heap_setCell _ _ _ _ (by show c≠bx;exact hc),Below.heap_setCell _ _ _ _ (by show c≠bx;exact hc),Below.heap_setCell _ _ _ _ (by show c≠bx;exact hc)]
 rw[←WM]at hfin;rw[←WM];obtain⟨W',hW'⟩:∃W',W'=u1.alloc (.cells #[x0,x1,x2,x3,x4,y0,y1,y2,y3,y4] 25):=⟨_,rfl⟩
 have ZS:W'.heap.size=u.heap.size+1:=by rw[hW',World.size_alloc,Zt]
 have Y8:∀c,c≠bx→c<u.heap.size→W'.heap[c]?=u.heap[c]?:=fun c hc hl=>by rw[hW',←hkeep c hc];exact Below.heap_alloc u1 _ _ (by rw[Zt];exact hl)
 have hkx:∀n cs z,ExOn (Rg B bx u) n u cs z→ExOn (Rg B bx W') n W' cs z:=fun n cs z hz =>
  (hz.keep (w':=W') fun g ⟨_,g2,g3⟩=>Y8 g g3 g2).mono fun g ⟨g1,g2,g3⟩=>⟨g1,by omega,g3⟩
 have YA:W'.heap[u.heap.size]?=some (.cells #[x0,x1,x2,x3,x4,y0,y1,y2,y3,y4] 25):=by
  have:=heap_alloc_new u1 (.cells #[x0,x1,x2,x3,x4,y0,y1,y2,y3,y4] 25);rw[Zt,←hW']at this;exact this
 refine⟨W',hW',?_,?_,?_,hkx,Y8,by omega⟩
 ·rw[hW'];exact hF1.alloc _
 ·rw[hW'];exact(Below.heap_alloc u1 _ _ (by rw[Zt];exact ZK)).trans hfin
 ·exact z4r k ⟨by omega,by omega,by omega⟩ YA ((hkx _ _ _ hx).up (by omega)) ((hkx _ _ _ hy).up (by omega))
theorem box1{rb B bx m:Nat}{w u:World}{l:List Tk}{x:Ex}{z0 z1 z2 z3 z4 x0 x1 x2 x3 x4:Value}(h:FAt rb B w u l)(hB:w.heap.size≤B)(ZJ:B<bx)(xb:u.heap[bx]?=some (.cells #[z0,z1,z2,z3,z4] 25))
 (hx:ExOn (Rg B bx u) m u [x0,x1,x2,x3,x4] x) :
 ∃W',W'=((((u.setCell ⟨bx,0,none⟩ x0).setCell ⟨bx,1,none⟩ x1).setCell ⟨bx,2,none⟩ x2).setCell ⟨bx,3,none⟩ x3).setCell ⟨bx,4,none⟩ x4 ∧
  FAt rb B w W' l∧W'.heap[bx]?=some (.cells #[x0,x1,x2,x3,x4] 25)∧ExOn (Rg B bx W') m W' [x0,x1,x2,x3,x4] x∧W'.heap.size=u.heap.size:=by
 have hfin:=zck xb x0 x1 x2 x3 x4;obtain⟨W',hW'⟩:∃W',W'=((((u.setCell ⟨bx,0,none⟩ x0).setCell ⟨bx,1,none⟩ x1).setCell ⟨bx,2,none⟩ x2).setCell ⟨bx,3,none⟩ x3).setCell ⟨bx,4,none⟩ x4:=⟨_,rfl⟩
 rw[←hW']at hfin
 have hkeep:∀c,c≠bx→W'.heap[c]?=u.heap[c]?:=fun c hc=>by
  rw[hW',Below.heap_setCell _ _ _ _ (by show c≠bx;exact hc),Below.heap_setCell _ _ _ _ (by show c≠bx;exact hc),Below.heap_setCell _ _ _ _ (by show c≠bx;exact hc),Below.heap_setCell _ _ _ _ (by show c≠bx;exact hc),Below.heap_setCell _ _ _ _ (by show c≠bx;exact hc)]
 have ZS:W'.heap.size=u.heap.size:=by rw[hW'];simp[World.setCell]
 refine⟨W',hW',?_,hfin,?_,ZS⟩
 ·rw[hW']
  have hw:w.heap.size≤bx:=by omega
  exact((((h.setNew ZJ _ _ hw).setNew ZJ _ _ hw).setNew ZJ _ _ hw).setNew ZJ _ _ hw).setNew ZJ _ _ hw
 ·exact(hx.keep (w':=W') fun g ⟨_,_,g3⟩=>hkeep g g3).mono fun g ⟨g1,g2,g3⟩=>⟨g1,by omega,g3⟩
theorem zbn{B bx n rb:Nat}{u u':World}{cs:List Value}{x:Ex}(hx:ExOn (Rg B bx u) n u cs x)(hg:u.grownBy u' (some rb))(YO:rb<B):ExOn (Rg B bx u') n u' cs x :=
 (hx.keep (w':=u') fun g ⟨g1,g2,_⟩=>hg.block g g2 (fun e=>by injection e with e;omega)).mono fun g ⟨g1,g2,g3⟩=>⟨g1,Nat.lt_of_lt_of_le g2 hg.size,g3⟩
theorem ybn{B bx n lo:Nat}{u:World}{cs:List Value}{x:Ex}(hx:ExOn (fun g=>lo≤g∧g<u.heap.size) n u cs x)(h1:B+2≤lo)(h2:bx<lo∨u.heap.size≤bx):ExOn (Rg B bx u) n u cs x :=
 hx.mono fun g ⟨g1,g2⟩=>⟨by omega,g2,by omega⟩
theorem zq2{B bx by' n:Nat}{u:World}{cs:List Value}{x:Ex}(hx:ExOn (Rg B bx u) n u cs x)(h:by'<B+2):ExOn (Rg B by' u) n u cs x:=hx.mono fun g ⟨g1,g2,_⟩=>⟨g1,g2,by omega⟩
theorem zwt{rb B bx:Nat}{w u u5:World}{l:List Tk}{x y tx:Ex}{s:Int}{z0 z1 z2 z3 z4 x0 x1 x2 x3 x4 y0 y1 y2 y3 y4 t0 t1 t2 t3 t4:Value}(Z2:B+2≤bx)(h:FAt rb B w u5 l)(hB:B=w.heap.size)
 (xb:u5.heap[bx]?=some (.cells #[z0,z1,z2,z3,z4] 25)) (tb:u5.heap[B+1]?=some (.cells #[t0,t1,t2,t3,t4] 25)) (Zm:s=0∨∃m,ExOn (Rg B bx u) m u [t0,t1,t2,t3,t4] tx)
 (hx:∃m,ExOn (Rg B bx u) m u [x0,x1,x2,x3,x4] x) (hg:u.grownBy u5 (some rb)) (hy:∃m,ExOn (fun g=>u.drew.heap.size≤g∧g<u5.heap.size) m u5 [y0,y1,y2,y3,y4] y) (ZK:bx<u.heap.size) :
 ∃W',W'=(((((u5.setCell ⟨bx,0,none⟩ (.int .u8 6)).setCell ⟨bx,1,none⟩ (.string ⟨#[]⟩)).setCell ⟨bx,2,none⟩ (.string ⟨#[]⟩)).setCell ⟨bx,3,none⟩ (.int .i64 0)).setCell ⟨bx,4,none⟩ (.slice (some ⟨u5.heap.size,0,none⟩) 2 2)).alloc (.cells #[x0,x1,x2,x3,x4,y0,y1,y2,y3,y4] 25) ∧
  FAt rb B w W' l∧W'.heap[B+1]?=some (.cells #[t0,t1,t2,t3,t4] 25)∧(s=0∨∃m,ExOn (Rg B bx W') m W' [t0,t1,t2,t3,t4] tx) ∧
  W'.heap[bx]?=some (.cells #[.int .u8 6,.string ⟨#[]⟩,.string ⟨#[]⟩,.int .i64 0,.slice (some ⟨u5.heap.size,0,none⟩) 2 2] 25) ∧
  (∃m,ExOn (Rg B bx W') m W' [.int .u8 6,.string ⟨#[]⟩,.string ⟨#[]⟩,.int .i64 0,.slice (some ⟨u5.heap.size,0,none⟩) 2 2] (tEx2 6 x y)):=by
 obtain⟨m,hx⟩:=hx;obtain⟨m2,hy⟩:=hy;have YO:=h.lt;have ZS:u.drew.heap.size=u.heap.size:=rfl;have htl:=(Z8 tb);have WV:=hg.size;have Wa:B+2≤u.heap.size:=by omega
 obtain⟨W',hW',ha,hb,hc,hd,he,_⟩:=box2 (bx:=bx) 6 h (by omega) (by omega) xb (zbn hx hg YO) (ybn hy (by rw[ZS];omega) (by rw[ZS];omega));exact⟨W',hW',ha,(he _ (by omega) htl).trans tb,Zm.imp id fun⟨m3,h3⟩=>⟨m3,hd _ _ _ (zbn h3 hg YO)⟩,hb,⟨_,hc⟩⟩
theorem zs7{n rb:Nat}{v0 v1 v2 v3 v4:Value}{x:Ex}{sa:Option Addr}{sl sc:Nat}{w W:World}{l:List Tk}(hs:[v0,v1,v2,v3,v4]=[.int .u8 x.kind,.string x.rat,.string x.name,.int .i64 x.date,.slice sa sl sc])
 (hx:ExOn (fun g=>w.heap.size≤g∧g<W.heap.size) n W [v0,v1,v2,v3,v4] x) (hr:RAt rb W l) (hg:w.grownBy W (some rb)) :
 ∃v,Ending.returned (.agg #[v0,v1,v2,v3,v4])=.returned v∧VEx w.heap.size x W v∧RAt rb W l∧w.grownBy W (some rb):=by
 injection hs with h0 hs;injection hs with h1 hs;injection hs with h2 hs;injection hs with h3 hs;injection hs with h4 _
 subst h0 h1 h2 h3 h4;exact⟨_,rfl,⟨n,sa,sl,sc,rfl,hx⟩,hr,hg⟩
def comb(s:Int)(t x:Ex):Ex:=if s=0 then x else tEx2 s t x
structure SumR(rb n0 N:Nat)(F:RdX)(GR:Rd Ex)(B:Nat)(w:World)(k:Nat)(s:Int)(t0 t1 t2 t3 t4:Value)(l:List Tk)(wr:World):Prop where
 at_:FAt rb B w wr l
 tot:wr.heap[B+1]?=some (.cells #[t0,t1,t2,t3,t4] 25)
 sign:s=0∨s=4∨s=5
 len:l.length=k
 le:k≤n0
 leN:k≤N
 rest:∃(a m:Nat)(tx:Ex),k≤a∧(s=0∨ExOn (Rg B (B+1) wr) m wr [t0,t1,t2,t3,t4] tx)∧GR=(zda F N l).bind fun y l=>tAdd F N a (comb s tx y) l
structure TermR(rb n0 KO N:Nat)(F:RdX)(R:Rd Ex)(B bx:Nat)(w:World)(k:Nat)(t0 t1 t2 t3 t4:Value)(s:Int)(tx:Ex)(x:Ex)(xa:Option Addr)(xl xc:Nat)(l:List Tk)(wr:World):Prop where
 at_:FAt rb B w wr l
 tot:wr.heap[B+1]?=some (.cells #[t0,t1,t2,t3,t4] 25)
 tex:s=0∨∃m,ExOn (Rg B bx wr) m wr [t0,t1,t2,t3,t4] tx
 box:wr.heap[bx]?=some (.cells #[.int .u8 x.kind,.string x.rat,.string x.name,.int .i64 x.date,.slice xa xl xc] 25)
 ex:∃m,ExOn (Rg B bx wr) m wr [.int .u8 x.kind,.string x.rat,.string x.name,.int .i64 x.date,.slice xa xl xc] x
 bxl:B+2≤bx
 len:l.length=k
 le:k≤n0
 lt:k<KO
 rest:∃c,k<c∧R=zet F c x l
theorem ybj{rb n0:Nat}(S T:RdX)(hp:zd9 rb n0 S T)(cS:∀l,(S l).Cons l)(cT:∀l,(T l).Cons l)(N:Nat)(w:World)(l:List Tk)(h:RAt rb w l)(hl:l.length≤n0)(hN:l.length≤N) :
 Calls Tryz.prog 64 #[.pointer (some ⟨rb,0,none⟩)] w (zaf (VEx w.heap.size) rb w (tSum (zbu S T) N l)):=by
 obtain⟨F,hF⟩:∃F,F=zbu S T:=⟨_,rfl⟩
 have HFC:Hid (∀W l,RAt rb W l→l.length≤n0→Calls Tryz.prog 113 #[.pointer (some ⟨rb,0,none⟩)] W (zaf (VEx W.heap.size) rb W (F l))):=Z9 (fun W l hW hl=>by rw[hF];exact zvj S T hp cS cT W l hW hl);have HCF:Hid (∀l,(F l).Cons l):=Z9 (fun l=>by rw[hF];exact zew S T cS cT l);rw[←hF];have HIS:=Z9 (fun s W l (hW:RAt rb W l)=>zjg rb 5 s W l hW);have HR:=Z9 h;have Z1:=h.lt;have HLE:=Z9 (And.intro hl hN);obtain⟨GR,ZX⟩:∃GR,GR=tSum F N l:=⟨_,rfl⟩
 rw[←ZX];have HGR:Hid (GR=(zda F N l).bind fun y l=>tAdd F N N (comb 0 default y) l):=Z9 ZX;clear h hl hN hp cS cT hF ZX;go_enter Tryz.func64,Tryz.ntmps64;go_wp2_with fail;go_step3;go_wp2_with fail;go_step3;go_wp2_with fail;obtain⟨B,WG⟩:∃B,B=w.heap.size:=⟨_,rfl⟩
 obtain⟨W0,Z7⟩:∃W0,W0=(w.alloc zC).alloc zC:=⟨_,rfl⟩
 have ZO:W0.heap[B+1]?=some zC:=by
  have:=heap_alloc_new (w.alloc zC) zC;rw[World.size_alloc,←WG,←Z7]at this;exact this
 have hF0:FAt rb B w W0 l:=by rw[Z7,WG];exact(FAt.start HR.out).alloc _
 have HS0:Hid (SumR rb n0 N F GR B w l.length 0 (.int .u8 0) (.string ⟨#[]⟩) (.string ⟨#[]⟩) (.int .i64 0) (.slice none 0 0) l W0):=Z9 ⟨hF0,ZO,.inl rfl,rfl,HLE.out.1,HLE.out.2,N,0,default,HLE.out.2,.inl rfl,HGR.out⟩;change Code.wp _ _ _ _ ((w.alloc zC).alloc zC);rw[←Z7];rw[←WG]at Z1 ⊢;have HBB:=Z9 WG;clear ZO hF0 Z7 WG HGR HLE HR;go_loopg [4] l.length (fun k sv wr=>∃(s:Int)(t0 t1 t2 t3 t4:Value)(l':List Tk),sv=.int .u8 s∧Hid (SumR rb n0 N F GR B w k s t0 t1 t2 t3 t4 l' wr))
 case atStart=>exact⟨0,_,_,_,_,_,l,rfl,HS0⟩
 case round =>
  obtain⟨w1,rfl⟩:∃w1:World,w1=wr:=⟨_,rfl⟩
  obtain⟨s,t0,t1,t2,t3,t4,l',rfl,Xa⟩:=hrel;clear HS0;obtain⟨K,hK⟩:∃K,K=gk:=⟨_,rfl⟩
  go_wp2_with fail;refine(HFC.out _ l' Xa.out.at_.rd (by rw[Xa.out.len];exact Xa.out.le)).mono ?_
  cases hq:F l' with
  |no lq =>
   obtain⟨a,m,tx,_,_,ZX⟩:=Xa.out.rest;have E:GR=.no lq:=by rw[ZX];unfold zda;rw[hq];rfl
   rintro e u ⟨rfl,hr,hg⟩;exact⟨rfl,zal E ⟨rfl,hr,(Xa.out.at_.call hg hr).grown⟩⟩
  |ok x l1 =>
   rintro e u ⟨vv,rfl,⟨mm,xa,xl,xc,rfl,hx⟩,hr,hg⟩;obtain⟨a,m,tx,So,Zm,ZX⟩:=Xa.out.rest;obtain⟨R,hR⟩:∃R,R=zda F N l':=⟨_,rfl⟩
   have hRp:R=zet F N x l1:=by rw[hR];unfold zda;rw[hq];rfl
   have Z4:=(HCF.out l').lt hq;rw[Xa.out.len]at Z4;rw[←hR]at ZX;obtain⟨bx,Z2⟩:∃bx,bx=u.heap.size:=⟨_,rfl⟩
   have hB2:B+2≤w1.heap.size:=by have:=(Z8 Xa.out.tot);omega
   have hT0:Hid (TermR rb n0 K N F R B bx w l1.length t0 t1 t2 t3 t4 s tx x xa xl xc l1 (u.alloc (.cells #[.int .u8 x.kind,.string x.rat,.string x.name,.int .i64 x.date,.slice xa xl xc] 25))):=by
    have SY:=World.grownBy_alloc u (.cells #[.int .u8 x.kind,.string x.rat,.string x.name,.int .i64 x.date,.slice xa xl xc] 25) (some rb);refine Z9 ⟨(Xa.out.at_.call hg hr).alloc _,zaj (zaj Xa.out.tot hg (by omega)) SY (by omega),?_,by rw[Z2];exact heap_alloc_new u _,⟨mm,?_⟩,by have:=hg.size;omega,rfl,by have:=Xa.out.le;omega,by omega,N,by have:=Xa.out.leN;omega,hRp⟩
    ·rcases Zm with h0 |h1
     ·exact .inl h0
     ·right
      refine⟨m,zbn (zbn ?_ hg Z1) SY Z1⟩
      exact h1.mono fun g ⟨g1,g2,_⟩=>⟨g1,g2,by have:=hg.size;omega⟩
    ·exact(zbn (ybn hx hB2 (by omega)) SY Z1)
   have HG:=Z9 (And.intro ZX (And.intro So Z4));rw[Z2]at hT0;clear hx hr hg ZX So Zm hRp hq hR Z4 hB2 Z2;go_wp2_with fail;go_loopg [9] l1.length (fun k _ wr=>∃(x:Ex)(xa:Option Addr)(xl xc:Nat)(l2:List Tk),Hid (TermR rb n0 K N F R B u.heap.size w k t0 t1 t2 t3 t4 s tx x xa xl xc l2 wr))
   case atStart=>exact⟨x,xa,xl,xc,l1,hT0⟩
   case round =>
    obtain⟨w2,rfl⟩:∃w2:World,w2=wr:=⟨_,rfl⟩
    obtain⟨x,xa,xl,xc,l2,ZF⟩:=hrel;clear hT0;go_wp2_with fail;refine(HIS.out ⟨#[42]⟩ _ l2 ZF.out.at_.rd).mono ?_;change ∀e u',BelB w2 (tIs 5 [42] l2) e u'→_
    cases hs:tIs 5 [42] l2 with
    |true =>
     obtain⟨t,r,rfl⟩:=zb7 hs;rintro e u3 ⟨rfl,hb⟩;have HT3:=Z9 (ZF.out.at_.below hb);have Zw:=hb;go_wp2_with fail;refine(zaz rb _ t r HT3.out.rd).mono ?_;rintro e u4 ⟨v4,rfl,rfl,hr,hg⟩;have hg24:=Lib.grownBy_trans (zaq (rb:=rb) (zae Zw)) hg;have HT4:=Z9 (HT3.out.call hg hr);have htot4:=zaj ZF.out.tot hg24 (by omega);have hbox4:=zaj ZF.out.box hg24 (by have:=ZF.out.bxl;omega);have HTOT:=Z9 htot4;have HBOX:=Z9 hbox4;obtain⟨m4,hm4⟩:=ZF.out.ex;have HEX:=Z9 (zbn hm4 hg24 Z1);have HTEX:Hid (s=0∨∃m,ExOn (Rg B u.heap.size u4) m u4 [t0,t1,t2,t3,t4] tx):=Z9 (ZF.out.tex.imp id fun⟨m,hm⟩=>⟨m,zbn hm hg24 Z1⟩);obtain⟨q0,q1,q2,q3,q4⟩:=zad hbox4
     have hrbx:rb<u.heap.size:=Nat.lt_trans Z1 (by have:=ZF.out.bxl;omega);have hbxl:=(Z8 hbox4);have hru4:rb<u4.heap.size:=hr.lt;have hlr:r.length<gk:=by have:=ZF.out.len;rw[List.length_cons]at this;omega
     have hlr0:r.length≤n0:=by have:=ZF.out.le;omega
     have HRr:=Z9 hr;obtain⟨c,Ur,Uj⟩:=ZF.out.rest;have hRc2:∃c',c=c'+1:=⟨c-1,by omega⟩
     obtain⟨c',rfl⟩:=hRc2
     have hRr:R=(F r).bind fun y l=>zet F c' (tEx2 6 x y) l:=by
      rw[Uj]
      show(if tIs 5 [42] (t :: r)=true then _ else _)=_
      rw[hs,if_pos rfl];rfl
     have hHC:=HFC.out u4.drew r (hr.below (Below.refl _ _).drew) hlr0;have HHC:=Z9 hHC;have HRR:=Z9 hRr;have HKC:=Z9 (And.intro Ur hlr);clear hb Zw hr hg hg24 htot4 hbox4 hm4 hHC hRr Uj Ur hs
     cases Zp:F r with
     |no lq =>
      have E:GR=.no lq:=by rw[HG.out.1,HRR.out,Zp];rfl
      have HE:=Z9 E;rw[Zp]at HHC;clear E Zp;go_wp2_with fail;refine wp_region_any (by kernel_rfl) ?_;change wpAny _ _ _ _ _ _ _ (World.drew _);refine wpAny_take (i:=1) (v := ?_) rfl (by kernel_rfl) (by kernel_rfl) (by kernel_rfl) (fun _ _ _ h=>h) (Or.inl ⟨by rfl,?hyP⟩) ?restP
      case hyP=>(intro w;go_simp<;>with_reducible rfl)
      refine wpAny_ready (rs:=[0,2]) (by kernel_rfl) (by simp) ?_;refine AllReady.cons rfl (fun K hK => ?_) ?_
      ·go_simp
       refine hK _ _ ?_;clear hK K;refine wpAny_ready (rs:=[2]) (by kernel_rfl) (by simp) ?_;refine AllReady.cons rfl (fun K hK => ?_) AllReady.nil;go_simp;refine HHC.out.mono ?_;rintro e u5 ⟨rfl,hr,hg⟩;exact⟨rfl,zal HE.out ⟨rfl,hr,(HT4.out.call (u':=u5) ⟨hg.os,hg.tape,hg.output,hg.size,hg.block⟩ hr).grown⟩⟩
      ·refine AllReady.cons rfl (fun K hK => ?_) AllReady.nil
       go_simp;refine HHC.out.mono ?_;rintro e u5 ⟨rfl,hr,hg⟩;exact⟨rfl,zal HE.out ⟨rfl,hr,(HT4.out.call (u':=u5) ⟨hg.os,hg.tape,hg.output,hg.size,hg.block⟩ hr).grown⟩⟩
     |ok y l3 =>
      have HRY:Hid (R=zet F c' (tEx2 6 x y) l3):=Z9 (by rw[HRR.out,Zp];rfl);have HL3:=Z9 ((HCF.out r).lt Zp);rw[Zp]at HHC;clear Zp;go_wp2_with fail
      go_region_law (first
       |(go_simp;refine HHC.out.mono ?_;rintro e u5 ⟨vv,rfl,⟨mm,ya,yl,yc,rfl,hy⟩,Xf,YU⟩;have HY:=Z9 hy;have HU5:=Z9 (HT4.out.call (u':=u5) ⟨YU.os,YU.tape,YU.output,YU.size,YU.block⟩ Xf);have hbox5:=zaj HBOX.out (u:=u5) ⟨YU.os,YU.tape,YU.output,YU.size,YU.block⟩ (Nat.ne_of_lt hrbx);have htot5:=zaj HTOT.out (u:=u5) ⟨YU.os,YU.tape,YU.output,YU.size,YU.block⟩ (by omega);obtain⟨p0,p1,p2,p3,p4⟩:=zad hbox5;have fp:∀i,u5.frozen? ⟨u.heap.size,i,none⟩=false:=Lib.frozen_of_heap hbox5;have hbxl5:=(Z8 hbox5);have HBOX5:=Z9 hbox5;have HTOT5:=Z9 htot5;have HG5:Hid (u4.grownBy u5 (some rb)):=Z9 ⟨YU.os,YU.tape,YU.output,YU.size,YU.block⟩;clear hy Xf YU hbox5 htot5))
      all_goals
       have HNEW:=Z9 (zwt ZF.out.bxl HU5.out HBB.out HBOX5.out HTOT5.out HTEX.out ⟨_,HEX.out⟩ HG5.out ⟨_,HY.out⟩ hbxl);clear HY HU5 HBOX5 HTOT5 HG5;go_wp2_with fail;obtain⟨W',hW',ha,hb,hc,hd,he⟩:=HNEW.out;rw[←hW'];go_roundg l3.length
       case measure=>have:=HL3.out;have:=HKC.out.2;omega
       case rel=>exact⟨tEx2 6 x y,_,_,_,l3,Z9 ⟨ha,hb,hc,hd,he,ZF.out.bxl,rfl,by have:=HL3.out;omega,by have:=HL3.out;have:=ZF.out.lt;have:=HKC.out;omega,c',by have:=HL3.out;have:=HKC.out;omega,HRY.out⟩⟩
    |false =>
     rintro e u3 ⟨rfl,hb⟩;have HT3:=Z9 (ZF.out.at_.below hb);have Yq:=zaq (rb:=rb) (zae hb);have hbxr:rb≠u.heap.size:=by have:=ZF.out.bxl;omega
     have htot3:=zaj ZF.out.tot Yq (by omega:rb≠B+1);have hbox3:=zaj ZF.out.box Yq hbxr;obtain⟨m3,S5⟩:=ZF.out.ex;have hex3:=zbn S5 Yq Z1
     have htex3:s=0∨∃m,ExOn (Rg B u.heap.size u3) m u3 [t0,t1,t2,t3,t4] tx:=ZF.out.tex.imp id fun⟨m,hm⟩=>⟨m,zbn hm Yq Z1⟩
     obtain⟨c,Ur,Uj⟩:=ZF.out.rest
     have hR2:R=.ok x l2:=by
      obtain⟨c',rfl⟩:∃c',c=c'+1:=⟨c-1,by omega⟩
      rw[Uj]
      show(if tIs 5 [42] l2=true then _ else _)=_
      rw[hs,if_neg (by decide)]
     have hkl:=ZF.out.lt;have So:=HG.out.2.1;have TR:=Xa.out.le;have hkN:=Xa.out.leN;obtain⟨a',rfl⟩:∃a',a=a'+1:=⟨a-1,by omega⟩
     have hGA:GR=tAdd F N (a'+1) (comb s tx x) l2:=by rw[HG.out.1,hR2];rfl
     have hHT1:B+1<u3.heap.size:=(Z8 htot3);have hHT2:u.heap.size<u3.heap.size:=(Z8 hbox3);obtain⟨q0,q1,q2,q3,q4⟩:=zad hbox3;obtain⟨p0,p1,p2,p3,p4⟩:=zad htot3;have fp:∀i,u3.frozen? ⟨B+1,i,none⟩=false:=Lib.frozen_of_heap htot3
     rcases Classical.em (s=0)with hs0 |hs0
     ·subst hs0
      have ZT:=Z9 (box1 HT3.out (Nat.le_of_eq HBB.out.symm) (Nat.lt_succ_self B) htot3 (zq2 hex3 (Nat.lt_succ_self (B+1))));have HGA:Hid (GR=tAdd F N (a'+1) x l2):=Z9 (by rw[hGA];rfl);clear hb Yq hbxr htot3 hbox3 S5 hex3 htex3 Ur Uj hR2 hs hGA;go_wp2_with fail;obtain⟨WT,Ty,hA,Tv,hE,_⟩:=ZT.out;rw[←Ty];have HA:=Z9 hA;have HTB:=Z9 Tv;have HEX2:Hid (∃m,ExOn (Rg B (B+1) WT) m WT [.int .u8 x.kind,.string x.rat,.string x.name,.int .i64 x.date,.slice xa xl xc] x):=Z9 ⟨_,hE⟩;clear Ty hA Tv hE ZT p0 p1 p2 p3 p4 q0 q1 q2 q3 q4 fp;refine(HIS.out ⟨#[43]⟩ WT l2 HA.out.rd).mono ?_;change ∀e u',BelB WT (tIs 5 [43] l2) e u'→_
      cases Zt:tIs 5 [43] l2 with
      |true =>
       obtain⟨t,r,rfl⟩:=zb7 Zt;rintro e u6 ⟨rfl,hb⟩;have HA6:=Z9 (HA.out.below hb);have hTB6:=zaj HTB.out (zaq (rb:=rb) (zae hb)) (by omega);have HEX6:Hid (∃m,ExOn (Rg B (B+1) u6) m u6 [.int .u8 x.kind,.string x.rat,.string x.name,.int .i64 x.date,.slice xa xl xc] x):=Z9 (HEX2.out.imp fun m hm=>zbn hm (zaq (rb:=rb) (zae hb)) Z1);have HTB6:=Z9 hTB6;have hl6:r.length<K:=by have:=ZF.out.lt;have:=ZF.out.len;rw[List.length_cons]at this;omega
       have HG6:Hid (GR=(zda F N r).bind fun y l=>tAdd F N a' (comb 4 x y) l):=Z9 (by
        rw[HGA.out]
        show(if tIs 5 [43] (t :: r)=true then _ else _)=_
        rw[Zt,if_pos rfl];rfl)
       clear hb hTB6 Zt;go_wp2_with fail;refine(zaz rb u6 t r HA6.out.rd).mono ?_;rintro e u7 ⟨v7,rfl,rfl,hr,hg⟩
       have HS7:Hid (SumR rb n0 N F GR B w r.length 4 (.int .u8 x.kind) (.string x.rat) (.string x.name) (.int .i64 x.date) (.slice xa xl xc) r u7):=Z9 ⟨HA6.out.call hg hr,zaj HTB6.out hg (by omega),.inr (.inl rfl),rfl,by omega,by omega,a',by
        obtain⟨m,hm⟩:=HEX6.out
        exact⟨m,_,by omega,.inr (zbn hm hg Z1),HG6.out⟩⟩
       clear hr hg;go_wp2_with fail;go_roundg r.length
       case measure=>omega
       case rel=>exact⟨4,_,_,_,_,_,r,rfl,HS7⟩
      |false =>
       rintro e u6 ⟨rfl,hb⟩;have HA6:=Z9 (HA.out.below hb);have HTB6:=Z9 (zaj HTB.out (zaq (rb:=rb) (zae hb)) (by omega));have HEX6:Hid (∃m,ExOn (Rg B (B+1) u6) m u6 [.int .u8 x.kind,.string x.rat,.string x.name,.int .i64 x.date,.slice xa xl xc] x):=Z9 (HEX2.out.imp fun m hm=>zbn hm (zaq (rb:=rb) (zae hb)) Z1)
       have HG6:Hid (GR=if tIs 5 [45] l2=true then(zda F N l2.tail).bind fun y l=>tAdd F N a' (tEx2 5 x y) l else .ok x l2):=Z9 (by
        rw[HGA.out]
        show(if tIs 5 [43] l2=true then _ else _)=_
        rw[Zt,if_neg (by decide)])
       clear hb Zt;go_wp2_with fail;refine(HIS.out ⟨#[45]⟩ u6 l2 HA6.out.rd).mono ?_;change ∀e u',BelB u6 (tIs 5 [45] l2) e u'→_
       cases YJ:tIs 5 [45] l2 with
       |true =>
        obtain⟨t,r,rfl⟩:=zb7 YJ;rintro e u8 ⟨rfl,hb⟩;have HA8:=Z9 (HA6.out.below hb);have HTB8:=Z9 (zaj HTB6.out (zaq (rb:=rb) (zae hb)) (by omega));have HEX8:Hid (∃m,ExOn (Rg B (B+1) u8) m u8 [.int .u8 x.kind,.string x.rat,.string x.name,.int .i64 x.date,.slice xa xl xc] x):=Z9 (HEX6.out.imp fun m hm=>zbn hm (zaq (rb:=rb) (zae hb)) Z1);have hl6:r.length<K:=by have:=ZF.out.lt;have:=ZF.out.len;rw[List.length_cons]at this;omega
        have HG8:Hid (GR=(zda F N r).bind fun y l=>tAdd F N a' (comb 5 x y) l):=Z9 (by rw[HG6.out,YJ,if_pos rfl];rfl);clear hb YJ;go_wp2_with fail;refine(zaz rb u8 t r HA8.out.rd).mono ?_;rintro e u7 ⟨v7,rfl,rfl,hr,hg⟩
        have HS7:Hid (SumR rb n0 N F GR B w r.length 5 (.int .u8 x.kind) (.string x.rat) (.string x.name) (.int .i64 x.date) (.slice xa xl xc) r u7):=Z9 ⟨HA8.out.call hg hr,zaj HTB8.out hg (by omega),.inr (.inr rfl),rfl,by omega,by omega,a',by
         obtain⟨m,hm⟩:=HEX8.out
         exact⟨m,_,by omega,.inr (zbn hm hg Z1),HG8.out⟩⟩
        clear hr hg;go_wp2_with fail;go_roundg r.length
        case measure=>omega
        case rel=>exact⟨5,_,_,_,_,_,r,rfl,HS7⟩
       |false =>
        rintro e u8 ⟨rfl,hb⟩;have HA8:=Z9 (HA6.out.below hb);have hTB8:=zaj HTB6.out (zaq (rb:=rb) (zae hb)) (by omega:rb≠B+1);obtain⟨m8,TY⟩:=HEX6.out;have hm9:=zbn TY (zaq (rb:=rb) (zae hb)) Z1;have HG8:Hid (GR=.ok x l2):=Z9 (by rw[HG6.out,YJ,if_neg (by decide)]);have HFIN:=Z9 (HA8.out.fin (Nat.le_of_eq HBB.out.symm) (Nat.lt_succ_self B) (hm9.mono (S':=fun g=>B+1≤g∧g<u8.heap.size) fun g ⟨g1,g2,_⟩=>⟨by omega,g2⟩));obtain⟨y0,y1,y2,y3,y4⟩:=zad hTB8;obtain⟨z0,z1,z2,z3,z4⟩:=zad (show u8.heap[B]?=some (.cells #[.int .u8 0,.string ⟨#[]⟩,.string ⟨#[]⟩,.int .i64 0,.slice none 0 0] 25)from HA8.out.box)
        have fz:∀i,u8.frozen? ⟨B,i,none⟩=false:=Lib.frozen_of_heap (show u8.heap[B]?=some (.cells #[.int .u8 0,.string ⟨#[]⟩,.string ⟨#[]⟩,.int .i64 0,.slice none 0 0] 25)from HA8.out.box)
        have zb:=HA8.out.blt;have hyl:=(Z8 hTB8);clear hb hTB8 YJ TY hm9;go_wp2_with fail;obtain⟨W',hW',hx,YY,hr,hg⟩:=HFIN.out;rw[←hW'];obtain⟨c0,c1,c2,c3,c4⟩:=zad YY;rw[Exit.noGoto_ret];obtain⟨sa,sl,sc,XX⟩:=hx.shape;exact bodyPost_ret (v:=.agg #[.int .u8 x.kind,.string x.rat,.string x.name,.int .i64 x.date,.slice xa xl xc]) (by simp[results,Tryz.results64,go_sem,c0,c1,c2,c3,c4]) rfl (zbl HG8.out (zs7 XX hx hr hg))
     ·obtain⟨mt,hmt⟩:∃m,ExOn (Rg B u.heap.size u3) m u3 [t0,t1,t2,t3,t4] tx:=htex3.resolve_left hs0
      have ZY:=Z9 (box2 s HT3.out (Nat.le_of_eq HBB.out.symm) (Nat.lt_succ_self B) htot3 (zq2 hmt (Nat.lt_succ_self (B+1))) (zq2 hex3 (Nat.lt_succ_self (B+1))));have HGA:Hid (GR=tAdd F N (a'+1) (tEx2 s tx x) l2):=Z9 (by rw[hGA];unfold comb;rw[if_neg hs0]);have Ub:(s == 0)=false:=by simp[hs0]
      clear hb Yq hbxr htot3 hbox3 S5 hex3 htex3 Ur Uj hR2 hs hGA hmt;go_wp2_with fail;obtain⟨WT,Ty,hA,Tv,hE,_⟩:=ZY.out;rw[←Ty];have HA:=Z9 hA;have HTB:=Z9 Tv;have HEX2:Hid (∃m,ExOn (Rg B (B+1) WT) m WT [.int .u8 s,.string ⟨#[]⟩,.string ⟨#[]⟩,.int .i64 0,.slice (some ⟨u3.heap.size,0,none⟩) 2 2] (tEx2 s tx x)):=Z9 ⟨_,hE⟩;clear Ty hA Tv hE ZY p0 p1 p2 p3 p4 q0 q1 q2 q3 q4 fp;refine(HIS.out ⟨#[43]⟩ WT l2 HA.out.rd).mono ?_;change ∀e u',BelB WT (tIs 5 [43] l2) e u'→_
      cases Zt:tIs 5 [43] l2 with
      |true =>
       obtain⟨t,r,rfl⟩:=zb7 Zt;rintro e u6 ⟨rfl,hb⟩;have HA6:=Z9 (HA.out.below hb);have hTB6:=zaj HTB.out (zaq (rb:=rb) (zae hb)) (by omega);have HEX6:Hid (∃m,ExOn (Rg B (B+1) u6) m u6 [.int .u8 s,.string ⟨#[]⟩,.string ⟨#[]⟩,.int .i64 0,.slice (some ⟨u3.heap.size,0,none⟩) 2 2] (tEx2 s tx x)):=Z9 (HEX2.out.imp fun m hm=>zbn hm (zaq (rb:=rb) (zae hb)) Z1);have HTB6:=Z9 hTB6;have hl6:r.length<K:=by have:=ZF.out.lt;have:=ZF.out.len;rw[List.length_cons]at this;omega
       have HG6:Hid (GR=(zda F N r).bind fun y l=>tAdd F N a' (comb 4 (tEx2 s tx x) y) l):=Z9 (by
        rw[HGA.out]
        show(if tIs 5 [43] (t :: r)=true then _ else _)=_
        rw[Zt,if_pos rfl];rfl)
       clear hb hTB6 Zt;go_wp2_with fail;refine(zaz rb u6 t r HA6.out.rd).mono ?_;rintro e u7 ⟨v7,rfl,rfl,hr,hg⟩
       have HS7:Hid (SumR rb n0 N F GR B w r.length 4 (.int .u8 s) (.string ⟨#[]⟩) (.string ⟨#[]⟩) (.int .i64 0) (.slice (some ⟨u3.heap.size,0,none⟩) 2 2) r u7):=Z9 ⟨HA6.out.call hg hr,zaj HTB6.out hg (by omega),.inr (.inl rfl),rfl,by omega,by omega,a',by
        obtain⟨m,hm⟩:=HEX6.out
        exact⟨m,_,by omega,.inr (zbn hm hg Z1),HG6.out⟩⟩
       clear hr hg;go_wp2_with fail;go_roundg r.length
       case measure=>omega
       case rel=>exact⟨4,_,_,_,_,_,r,rfl,HS7⟩
      |false =>
       rintro e u6 ⟨rfl,hb⟩;have HA6:=Z9 (HA.out.below hb);have HTB6:=Z9 (zaj HTB.out (zaq (rb:=rb) (zae hb)) (by omega));have HEX6:Hid (∃m,ExOn (Rg B (B+1) u6) m u6 [.int .u8 s,.string ⟨#[]⟩,.string ⟨#[]⟩,.int .i64 0,.slice (some ⟨u3.heap.size,0,none⟩) 2 2] (tEx2 s tx x)):=Z9 (HEX2.out.imp fun m hm=>zbn hm (zaq (rb:=rb) (zae hb)) Z1)
       have HG6:Hid (GR=if tIs 5 [45] l2=true then(zda F N l2.tail).bind fun y l=>tAdd F N a' (tEx2 5 (tEx2 s tx x) y) l else .ok (tEx2 s tx x) l2):=Z9 (by
        rw[HGA.out]
        show(if tIs 5 [43] l2=true then _ else _)=_
        rw[Zt,if_neg (by decide)])
       clear hb Zt;go_wp2_with fail;refine(HIS.out ⟨#[45]⟩ u6 l2 HA6.out.rd).mono ?_;change ∀e u',BelB u6 (tIs 5 [45] l2) e u'→_
       cases YJ:tIs 5 [45] l2 with
       |true =>
        obtain⟨t,r,rfl⟩:=zb7 YJ;rintro e u8 ⟨rfl,hb⟩;have HA8:=Z9 (HA6.out.below hb);have HTB8:=Z9 (zaj HTB6.out (zaq (rb:=rb) (zae hb)) (by omega));have HEX8:Hid (∃m,ExOn (Rg B (B+1) u8) m u8 [.int .u8 s,.string ⟨#[]⟩,.string ⟨#[]⟩,.int .i64 0,.slice (some ⟨u3.heap.size,0,none⟩) 2 2] (tEx2 s tx x)):=Z9 (HEX6.out.imp fun m hm=>zbn hm (zaq (rb:=rb) (zae hb)) Z1);have hl6:r.length<K:=by have:=ZF.out.lt;have:=ZF.out.len;rw[List.length_cons]at this;omega
        have HG8:Hid (GR=(zda F N r).bind fun y l=>tAdd F N a' (comb 5 (tEx2 s tx x) y) l):=Z9 (by rw[HG6.out,YJ,if_pos rfl];rfl);clear hb YJ;go_wp2_with fail;refine(zaz rb u8 t r HA8.out.rd).mono ?_;rintro e u7 ⟨v7,rfl,rfl,hr,hg⟩
        have HS7:Hid (SumR rb n0 N F GR B w r.length 5 (.int .u8 s) (.string ⟨#[]⟩) (.string ⟨#[]⟩) (.int .i64 0) (.slice (some ⟨u3.heap.size,0,none⟩) 2 2) r u7):=Z9 ⟨HA8.out.call hg hr,zaj HTB8.out hg (by omega),.inr (.inr rfl),rfl,by omega,by omega,a',by
         obtain⟨m,hm⟩:=HEX8.out
         exact⟨m,_,by omega,.inr (zbn hm hg Z1),HG8.out⟩⟩
        clear hr hg;go_wp2_with fail;go_roundg r.length
        case measure=>omega
        case rel=>exact⟨5,_,_,_,_,_,r,rfl,HS7⟩
       |false =>
        rintro e u8 ⟨rfl,hb⟩;have HA8:=Z9 (HA6.out.below hb);have hTB8:=zaj HTB6.out (zaq (rb:=rb) (zae hb)) (by omega:rb≠B+1);obtain⟨m8,TY⟩:=HEX6.out;have hm9:=zbn TY (zaq (rb:=rb) (zae hb)) Z1;have HG8:Hid (GR=.ok (tEx2 s tx x) l2):=Z9 (by rw[HG6.out,YJ,if_neg (by decide)]);have HFIN:=Z9 (HA8.out.fin (Nat.le_of_eq HBB.out.symm) (Nat.lt_succ_self B) (hm9.mono (S':=fun g=>B+1≤g∧g<u8.heap.size) fun g ⟨g1,g2,_⟩=>⟨by omega,g2⟩));obtain⟨y0,y1,y2,y3,y4⟩:=zad hTB8;obtain⟨z0,z1,z2,z3,z4⟩:=zad (show u8.heap[B]?=some (.cells #[.int .u8 0,.string ⟨#[]⟩,.string ⟨#[]⟩,.int .i64 0,.slice none 0 0] 25)from HA8.out.box)
        have fz:∀i,u8.frozen? ⟨B,i,none⟩=false:=Lib.frozen_of_heap (show u8.heap[B]?=some (.cells #[.int .u8 0,.string ⟨#[]⟩,.string ⟨#[]⟩,.int .i64 0,.slice none 0 0] 25)from HA8.out.box)
        have zb:=HA8.out.blt;have hyl:=(Z8 hTB8);clear hb hTB8 YJ TY hm9;go_wp2_with fail;obtain⟨W',hW',hx,YY,hr,hg⟩:=HFIN.out;rw[←hW'];obtain⟨c0,c1,c2,c3,c4⟩:=zad YY;rw[Exit.noGoto_ret];obtain⟨sa,sl,sc,XX⟩:=hx.shape;exact bodyPost_ret (v:=.agg #[.int .u8 s,.string ⟨#[]⟩,.string ⟨#[]⟩,.int .i64 0,.slice (some ⟨u3.heap.size,0,none⟩) 2 2]) (by simp[results,Tryz.results64,go_sem,c0,c1,c2,c3,c4]) rfl (zbl HG8.out (zs7 XX hx hr hg))
theorem za6(w:World)(es:Array MapEntry)(c:Nat)(k:ByteArray)(val:Value)(hf:Instr.findNow .string (.string k) es.toList 0=some none) :
 (Instr.mapUpdate 138 (.map (some w.heap.size)) (.string k) val).run Tryz.prog (w.alloc (.map es c))=.ok () (w.alloc (.map (es.push ⟨.string k,val,c⟩) (c+1))):=by
 have hb:(w.alloc (.map es c)).heap[w.heap.size]?=some (.map es c):=heap_alloc_new _ _;have hc:(Instr.checkKey false 10000 9 (.string k)).run Tryz.prog (w.alloc (.map es c))=.ok () (w.alloc (.map es c)):=MapKept.run_checkKey Tryz.underlying9 (by simp[MapKept.IsKey]) false 9999
 have e:(w.heap.push (Obj.map es c)).setIfInBounds w.heap.size (Obj.map (es.push ⟨.string k,val,c⟩) (c+1))=w.heap.push (Obj.map (es.push ⟨.string k,val,c⟩) (c+1)):=by
  apply Array.ext';simp[Array.toList_setIfInBounds]
 have hs:(setObj w.heap.size (.map (es.push ⟨.string k,val,c⟩) (c+1))).run Tryz.prog (w.alloc (.map es c))=.ok () (w.alloc (.map (es.push ⟨.string k,val,c⟩) (c+1))):=by
  rw[MapKept.run_setObj_map _ hb]
  show Result.ok () { (w.alloc (.map es c))with heap:=(w.heap.push (Obj.map es c)).setIfInBounds w.heap.size _ }=_
  rw[e];rfl
 simp[Instr.mapUpdate,run_underlying Tryz.underlying138,MapKept.run_getObj_map hb,hc,MapKept.run_findKey Tryz.underlying9 hf,hs,Result.andThen]
theorem zas{W:World}{bm:Nat}{es:Array MapEntry}{c:Nat}(hb:W.heap[bm]?=some (.map es c)){k:ByteArray}{v:Value}{i:Nat}(hf:Instr.findNow .string (.string k) es.toList 0=some (some (i,v))) :
 (Instr.lookup 138 (.map (some bm)) (.string k) false).run Tryz.prog W=.ok v W:=by
 have hc:∀q,(Instr.checkKey q 10000 9 (.string k)).run Tryz.prog W=.ok () W:=fun q=>MapKept.run_checkKey Tryz.underlying9 (by simp[MapKept.IsKey]) q 9999
 simp[Instr.lookup,run_underlying Tryz.underlying138,MapKept.run_getObj_map hb,hc,MapKept.run_findKey Tryz.underlying9 hf,Result.andThen]
theorem zhi{W:World}{bm:Nat}{es:Array MapEntry}{c:Nat}(hb:W.heap[bm]?=some (.map es c)){k:ByteArray}(hf:Instr.findNow .string (.string k) es.toList 0=some none) :
 (Instr.lookup 138 (.map (some bm)) (.string k) false).run Tryz.prog W=.ok (.int .u8 0) W:=by
 have hc:∀q,(Instr.checkKey q 10000 9 (.string k)).run Tryz.prog W=.ok () W:=fun q=>MapKept.run_checkKey Tryz.underlying9 (by simp[MapKept.IsKey]) q 9999
 simp[Instr.lookup,run_underlying Tryz.underlying138,MapKept.run_getObj_map hb,hc,MapKept.run_findKey Tryz.underlying9 hf,Result.andThen]
theorem zs0(a b:ByteArray):Instr.sameNow .string (.string a) (.string b)=some (a == b):=by
 simp[Instr.sameNow]
def tkEs:Array MapEntry:=#[⟨.string ⟨#[108,101,115,115]⟩,.int .u8 11,0⟩,⟨.string ⟨#[101,113,117,97,108]⟩,.int .u8 12,1⟩,⟨.string ⟨#[97,110,100]⟩,.int .u8 13,2⟩,⟨.string ⟨#[111,114]⟩,.int .u8 14,3⟩,⟨.string ⟨#[110,111,116]⟩,.int .u8 15,4⟩]
theorem z73{S:ByteArray}(h:∀b ∈ [[108,101,115,115],[101,113,117,97,108],[97,110,100],[111,114],[110,111,116]],¬S.data.toList=b):Instr.findNow .string (.string S) tkEs.toList 0=some none:=by
 have e:∀b ∈ [[108,101,115,115],[101,113,117,97,108],[97,110,100],[111,114],[110,111,116]],(S == (⟨List.toArray b⟩:ByteArray))=false:=fun b hb=>by
  cases hq:S == (⟨List.toArray b⟩:ByteArray)with
  |false=>rfl
  |true =>
   change (S.data == List.toArray b)=true at hq;exact absurd (congrArg Array.toList (eq_of_beq hq)) (h b hb)
 have e0:(S == (⟨#[108,101,115,115]⟩:ByteArray))=false:=e [108,101,115,115] (by simp);have e1:(S == (⟨#[101,113,117,97,108]⟩:ByteArray))=false:=e [101,113,117,97,108] (by simp);have e2:(S == (⟨#[97,110,100]⟩:ByteArray))=false:=e [97,110,100] (by simp);have e3:(S == (⟨#[111,114]⟩:ByteArray))=false:=e [111,114] (by simp);have e4:(S == (⟨#[110,111,116]⟩:ByteArray))=false:=e [110,111,116] (by simp)
 show Instr.findNow .string (.string S) [⟨.string ⟨#[108,101,115,115]⟩,.int .u8 11,0⟩,⟨.string ⟨#[101,113,117,97,108]⟩,.int .u8 12,1⟩,⟨.string ⟨#[97,110,100]⟩,.int .u8 13,2⟩,⟨.string ⟨#[111,114]⟩,.int .u8 14,3⟩,⟨.string ⟨#[110,111,116]⟩,.int .u8 15,4⟩] 0=some none
 simp only[Instr.findNow,zs0,e0,e1,e2,e3,e4]
theorem ziw(W:World):(Instr.mapUpdate 138 (.map (some W.heap.size)) (.string ⟨#[108,101,115,115]⟩) (.int .u8 11)).run Tryz.prog (W.alloc (.map #[] 0))=.ok () (W.alloc (.map #[⟨.string ⟨#[108,101,115,115]⟩,.int .u8 11,0⟩] 1)) ∧
 (Instr.mapUpdate 138 (.map (some W.heap.size)) (.string ⟨#[101,113,117,97,108]⟩) (.int .u8 12)).run Tryz.prog (W.alloc (.map #[⟨.string ⟨#[108,101,115,115]⟩,.int .u8 11,0⟩] 1))=.ok () (W.alloc (.map #[⟨.string ⟨#[108,101,115,115]⟩,.int .u8 11,0⟩,⟨.string ⟨#[101,113,117,97,108]⟩,.int .u8 12,1⟩] 2)) ∧
 (Instr.mapUpdate 138 (.map (some W.heap.size)) (.string ⟨#[97,110,100]⟩) (.int .u8 13)).run Tryz.prog (W.alloc (.map #[⟨.string ⟨#[108,101,115,115]⟩,.int .u8 11,0⟩,⟨.string ⟨#[101,113,117,97,108]⟩,.int .u8 12,1⟩] 2))=.ok () (W.alloc (.map #[⟨.string ⟨#[108,101,115,115]⟩,.int .u8 11,0⟩,⟨.string ⟨#[101,113,117,97,108]⟩,.int .u8 12,1⟩,⟨.string ⟨#[97,110,100]⟩,.int .u8 13,2⟩] 3)) ∧
 (Instr.mapUpdate 138 (.map (some W.heap.size)) (.string ⟨#[111,114]⟩) (.int .u8 14)).run Tryz.prog (W.alloc (.map #[⟨.string ⟨#[108,101,115,115]⟩,.int .u8 11,0⟩,⟨.string ⟨#[101,113,117,97,108]⟩,.int .u8 12,1⟩,⟨.string ⟨#[97,110,100]⟩,.int .u8 13,2⟩] 3))=.ok () (W.alloc (.map #[⟨.string ⟨#[108,101,115,115]⟩,.int .u8 11,0⟩,⟨.string ⟨#[101,113,117,97,108]⟩,.int .u8 12,1⟩,⟨.string ⟨#[97,110,100]⟩,.int .u8 13,2⟩,⟨.string ⟨#[111,114]⟩,.int .u8 14,3⟩] 4)) ∧
 (Instr.mapUpdate 138 (.map (some W.heap.size)) (.string ⟨#[110,111,116]⟩) (.int .u8 15)).run Tryz.prog (W.alloc (.map #[⟨.string ⟨#[108,101,115,115]⟩,.int .u8 11,0⟩,⟨.string ⟨#[101,113,117,97,108]⟩,.int .u8 12,1⟩,⟨.string ⟨#[97,110,100]⟩,.int .u8 13,2⟩,⟨.string ⟨#[111,114]⟩,.int .u8 14,3⟩] 4))=.ok () (W.alloc (.map tkEs 5)) :=
 ⟨za6 W _ _ _ _ rfl,za6 W _ _ _ _ rfl,za6 W _ _ _ _ rfl,za6 W _ _ _ _ rfl,za6 W _ _ _ _ rfl⟩
theorem zt5{rb:Nat}(w:World)(l:List Tk)(h:RAt rb w l)(hn:∀b ∈ [[108,101,115,115],[101,113,117,97,108],[97,110,100],[111,114],[110,111,116]],¬zap l=b) :
 Calls Tryz.prog 63 #[.pointer (some ⟨rb,0,none⟩)] w (zaf (VEx w.heap.size) rb w (.no l)):=by
 have HHD:=Z9 (fun W (hW:RAt rb W l)=>za1 rb W l hW);have XC:Instr.findNow .string (.string (zfb l)) tkEs.toList 0=some none:=z73 (fun b hb=>by rw[zfq];exact hn b hb);obtain⟨S,hS⟩:∃S,S=zfb l:=⟨_,rfl⟩
 rw[←hS]at HHD XC;have HSTOP:=Z9 (fun W=>zg2 rb W);have HR:=Z9 h;have HFN:=Z9 XC;clear h hn hS XC;have Yg:=@run_makeMap Tryz.prog;go_enter Tryz.func63,Tryz.ntmps63;go_wp2_with fail;have HF0:=Z9 (FAt.start HR.out);refine(HHD.out _ HF0.out.rd).mono ?_;rintro e u ⟨rfl,hb⟩;have HU:=Z9 (HF0.out.below hb);clear hb;obtain⟨u0,u1,u2,u3,u4⟩:=ziw u;have L0:(Instr.lookup 138 (.map (some u.heap.size)) (.string S) false).run Tryz.prog (u.alloc (.map tkEs 5))=.ok (.int .u8 0) (u.alloc (.map tkEs 5)):=zhi (heap_alloc_new _ _) HFN.out;have HU1:=Z9 (HU.out.alloc (.map tkEs 5));go_wp2_with fail;refine(HSTOP.out _).mono ?_
 rintro e u2 ⟨rfl,rfl⟩;exact⟨rfl,rfl,HU1.out.rd,HU1.out.grown⟩
theorem zt6{rb n0:Nat}(S T:RdX)(hp:zd9 rb n0 S T)(cS:∀l,(S l).Cons l)(cT:∀l,(T l).Cons l)(w:World)(l:List Tk)(h:RAt rb w l)(hl:l.length≤n0)(hh:zap l=[108,101,115,115]) :
 Calls Tryz.prog 63 #[.pointer (some ⟨rb,0,none⟩)] w (zaf (VEx w.heap.size) rb w (zby 11 (([true,true]:List Bool).map (zbj S T)) l.tail)):=by
 have hmf:∀(fn:Fn)(first cap:Array Value)(w:World),(Instr.makeFunc fn first cap).run Tryz.prog w=.ok (.func fn first cap) w:=fun _ _ _ _=>rfl
 obtain⟨t,r,rfl⟩:=zav (l:=l) (by rw[hh];simp);have HHD:=Z9 (fun W (hW:RAt rb W (t :: r))=>za1 rb W (t :: r) hW);rw[za0 hh]at HHD;have HTK:=Z9 (fun W (hW:RAt rb W (t :: r))=>zaz rb W t r hW);have HLI:=Z9 (fun W gp (hW:RAt rb W r) (hl:r.length≤n0) (h1:gp<W.heap.size) (h2:gp≠rb) (h3:∀i (hi:i<([true,true]:List Bool).length),W.cell? ⟨gp,i,none⟩=some (fnV rb (fnF (([true,true]:List Bool)[i]'hi))))=>ze0 S T hp cS cT 11 ([true,true]:List Bool) 2 gp rfl (by decide) W r hW hl h1 h2 h3);have HR:=Z9 h;have HL:Hid (r.length≤n0):=Z9 (by rw[List.length_cons]at hl;omega);obtain⟨GR,ZX⟩:∃GR,GR=zby 11 (([true,true]:List Bool).map (zbj S T)) (t :: r).tail:=⟨_,rfl⟩
 rw[←ZX];have HGR:=Z9 ZX;clear h hl hh hp cS cT ZX;have Yg:=@run_makeMap Tryz.prog;go_enter Tryz.func63,Tryz.ntmps63;go_wp2_with fail;have HF0:=Z9 (FAt.start HR.out);refine(HHD.out _ HF0.out.rd).mono ?_;rintro e u ⟨rfl,hb⟩;have HU:=Z9 (HF0.out.below hb);clear hb;obtain⟨u0,u1,u2,u3,u4⟩:=ziw u;have L0:(Instr.lookup 138 (.map (some u.heap.size)) (.string ⟨#[108,101,115,115]⟩) false).run Tryz.prog (u.alloc (.map tkEs 5))=.ok (.int .u8 11) (u.alloc (.map tkEs 5)):=zas (i:=0) (heap_alloc_new _ _) rfl;have HU1:=Z9 (HU.out.alloc (.map tkEs 5));have HMB:=Z9 (heap_alloc_new u (.map tkEs 5));go_wp2_with fail
 refine(HTK.out _ HU1.out.rd).mono ?_;rintro e w2 ⟨v,rfl,rfl,hr,hg⟩;have Zn:=Z9 (HU1.out.call hg hr);have hmb:=zaj HMB.out hg (Nat.ne_of_lt HU.out.rd.lt);have L1:(Instr.lookup 138 (.map (some u.heap.size)) (.string ⟨#[108,101,115,115]⟩) false).run Tryz.prog w2=.ok (.int .u8 11) w2:=zas (i:=0) hmb rfl;have L2:(Instr.lookup 138 (.map (some u.heap.size)) (.string ⟨#[108,101,115,115]⟩) false).run Tryz.prog (w2.alloc (.cells #[.func (.func 64) #[.pointer (some ⟨rb,0,none⟩)] #[],.func (.func 64) #[.pointer (some ⟨rb,0,none⟩)] #[]] 93))=.ok (.int .u8 11) (w2.alloc (.cells #[.func (.func 64) #[.pointer (some ⟨rb,0,none⟩)] #[],.func (.func 64) #[.pointer (some ⟨rb,0,none⟩)] #[]] 93)):=zas (i:=0) (zaj (rb:=rb) hmb (World.grownBy_alloc w2 _ _) (Nat.ne_of_lt HU.out.rd.lt)) rfl
 have HU3:=Z9 (Zn.out.alloc (.cells #[.func (.func 64) #[.pointer (some ⟨rb,0,none⟩)] #[],.func (.func 64) #[.pointer (some ⟨rb,0,none⟩)] #[]] 93));clear hr hg hmb u0 u1 u2 u3 u4 L0;go_wp2_with fail
 have ZV:∀i (hi:i<([true,true]:List Bool).length),(w2.alloc (.cells #[.func (.func 64) #[.pointer (some ⟨rb,0,none⟩)] #[],.func (.func 64) #[.pointer (some ⟨rb,0,none⟩)] #[]] 93)).cell? ⟨w2.heap.size,i,none⟩=some (fnV rb (fnF (([true,true]:List Bool)[i]'hi))):=by
  intro i hi;have ha:=heap_alloc_new w2 (.cells #[.func (.func 64) #[.pointer (some ⟨rb,0,none⟩)] #[],.func (.func 64) #[.pointer (some ⟨rb,0,none⟩)] #[]] 93);simp only[List.length_cons,List.length_nil]at hi;unfold World.cell?
  show(match (w2.alloc _).heap[w2.heap.size]? with |some (.cells c _ _)=>c[i]? |_=>none)=_
  rw[ha]
  match i,hi with
  |0,_=>rfl
  |1,_=>rfl
 have hrl:=Zn.out.rd.lt;have HM:=Z9 (HLI.out _ w2.heap.size HU3.out.rd HL.out (by simp) (by omega) ZV);clear ZV;have e2:zby 11 (([true,true]:List Bool).map (zbj S T)) r=GR:=HGR.out.symm;rw[e2]at HM;refine HM.out.mono ?_;clear e2
 cases hq:GR with
 |no lq =>
  rintro e w3 ⟨rfl,hr,hg⟩;exact⟨rfl,zal rfl ⟨rfl,hr,(HU3.out.call hg hr).grown⟩⟩
 |ok y ly =>
  rintro e w3 ⟨vv,rfl,⟨mm,pa,pl,pc,rfl,hx⟩,hr,hg⟩;have HU4:=Z9 (HU3.out.call hg hr);have HFIN:=Z9 (HU4.out.fin (Nat.le_refl _) HU3.out.blt hx);obtain⟨z0,z1,z2,z3,z4⟩:=zad (show w3.heap[w.heap.size]?=some (.cells #[.int .u8 0,.string ⟨#[]⟩,.string ⟨#[]⟩,.int .i64 0,.slice none 0 0] 25)from HU4.out.box)
  have fz:∀i,w3.frozen? ⟨w.heap.size,i,none⟩=false:=Lib.frozen_of_heap (show w3.heap[w.heap.size]?=some (.cells #[.int .u8 0,.string ⟨#[]⟩,.string ⟨#[]⟩,.int .i64 0,.slice none 0 0] 25)from HU4.out.box)
  have zb:=HU4.out.blt;clear hx hr hg;go_wp2_with fail;obtain⟨W',hW',hx,YY,hr,hg⟩:=HFIN.out;rw[←hW'];obtain⟨c0,c1,c2,c3,c4⟩:=zad YY;exact bodyPost_ret (v:=.agg #[.int .u8 y.kind,.string y.rat,.string y.name,.int .i64 y.date,.slice pa pl pc]) (by simp[results,Tryz.results63,go_sem,c0,c1,c2,c3,c4]) rfl (zbl hq ⟨_,rfl,⟨_,pa,pl,pc,rfl,hx⟩,hr,hg⟩)
theorem zqm{rb n0:Nat}(S T:RdX)(hp:zd9 rb n0 S T)(cS:∀l,(S l).Cons l)(cT:∀l,(T l).Cons l)(w:World)(l:List Tk)(h:RAt rb w l)(hl:l.length≤n0)(hh:zap l=[101,113,117,97,108]) :
 Calls Tryz.prog 63 #[.pointer (some ⟨rb,0,none⟩)] w (zaf (VEx w.heap.size) rb w (zby 12 (([true,true]:List Bool).map (zbj S T)) l.tail)):=by
 have hmf:∀(fn:Fn)(first cap:Array Value)(w:World),(Instr.makeFunc fn first cap).run Tryz.prog w=.ok (.func fn first cap) w:=fun _ _ _ _=>rfl
 obtain⟨t,r,rfl⟩:=zav (l:=l) (by rw[hh];simp);have HHD:=Z9 (fun W (hW:RAt rb W (t :: r))=>za1 rb W (t :: r) hW);rw[za0 hh]at HHD;have HTK:=Z9 (fun W (hW:RAt rb W (t :: r))=>zaz rb W t r hW);have HLI:=Z9 (fun W gp (hW:RAt rb W r) (hl:r.length≤n0) (h1:gp<W.heap.size) (h2:gp≠rb) (h3:∀i (hi:i<([true,true]:List Bool).length),W.cell? ⟨gp,i,none⟩=some (fnV rb (fnF (([true,true]:List Bool)[i]'hi))))=>ze0 S T hp cS cT 12 ([true,true]:List Bool) 2 gp rfl (by decide) W r hW hl h1 h2 h3);have HR:=Z9 h;have HL:Hid (r.length≤n0):=Z9 (by rw[List.length_cons]at hl;omega);obtain⟨GR,ZX⟩:∃GR,GR=zby 12 (([true,true]:List Bool).map (zbj S T)) (t :: r).tail:=⟨_,rfl⟩
 rw[←ZX];have HGR:=Z9 ZX;clear h hl hh hp cS cT ZX;have Yg:=@run_makeMap Tryz.prog;go_enter Tryz.func63,Tryz.ntmps63;go_wp2_with fail;have HF0:=Z9 (FAt.start HR.out);refine(HHD.out _ HF0.out.rd).mono ?_;rintro e u ⟨rfl,hb⟩;have HU:=Z9 (HF0.out.below hb);clear hb;obtain⟨u0,u1,u2,u3,u4⟩:=ziw u;have L0:(Instr.lookup 138 (.map (some u.heap.size)) (.string ⟨#[101,113,117,97,108]⟩) false).run Tryz.prog (u.alloc (.map tkEs 5))=.ok (.int .u8 12) (u.alloc (.map tkEs 5)):=zas (i:=1) (heap_alloc_new _ _) rfl;have HU1:=Z9 (HU.out.alloc (.map tkEs 5));have HMB:=Z9 (heap_alloc_new u (.map tkEs 5));go_wp2_with fail
 refine(HTK.out _ HU1.out.rd).mono ?_;rintro e w2 ⟨v,rfl,rfl,hr,hg⟩;have Zn:=Z9 (HU1.out.call hg hr);have hmb:=zaj HMB.out hg (Nat.ne_of_lt HU.out.rd.lt);have L1:(Instr.lookup 138 (.map (some u.heap.size)) (.string ⟨#[101,113,117,97,108]⟩) false).run Tryz.prog w2=.ok (.int .u8 12) w2:=zas (i:=1) hmb rfl;have L2:(Instr.lookup 138 (.map (some u.heap.size)) (.string ⟨#[101,113,117,97,108]⟩) false).run Tryz.prog (w2.alloc (.cells #[.func (.func 64) #[.pointer (some ⟨rb,0,none⟩)] #[],.func (.func 64) #[.pointer (some ⟨rb,0,none⟩)] #[]] 93))=.ok (.int .u8 12) (w2.alloc (.cells #[.func (.func 64) #[.pointer (some ⟨rb,0,none⟩)] #[],.func (.func 64) #[.pointer (some ⟨rb,0,none⟩)] #[]] 93)):=zas (i:=1) (zaj (rb:=rb) hmb (World.grownBy_alloc w2 _ _) (Nat.ne_of_lt HU.out.rd.lt)) rfl
 have HU3:=Z9 (Zn.out.alloc (.cells #[.func (.func 64) #[.pointer (some ⟨rb,0,none⟩)] #[],.func (.func 64) #[.pointer (some ⟨rb,0,none⟩)] #[]] 93));clear hr hg hmb u0 u1 u2 u3 u4 L0;go_wp2_with fail
 have ZV:∀i (hi:i<([true,true]:List Bool).length),(w2.alloc (.cells #[.func (.func 64) #[.pointer (some ⟨rb,0,none⟩)] #[],.func (.func 64) #[.pointer (some ⟨rb,0,none⟩)] #[]] 93)).cell? ⟨w2.heap.size,i,none⟩=some (fnV rb (fnF (([true,true]:List Bool)[i]'hi))):=by
  intro i hi;have ha:=heap_alloc_new w2 (.cells #[.func (.func 64) #[.pointer (some ⟨rb,0,none⟩)] #[],.func (.func 64) #[.pointer (some ⟨rb,0,none⟩)] #[]] 93);simp only[List.length_cons,List.length_nil]at hi;unfold World.cell?
  show(match (w2.alloc _).heap[w2.heap.size]? with |some (.cells c _ _)=>c[i]? |_=>none)=_
  rw[ha]
  match i,hi with
  |0,_=>rfl
  |1,_=>rfl
 have hrl:=Zn.out.rd.lt;have HM:=Z9 (HLI.out _ w2.heap.size HU3.out.rd HL.out (by simp) (by omega) ZV);clear ZV;have e2:zby 12 (([true,true]:List Bool).map (zbj S T)) r=GR:=HGR.out.symm;rw[e2]at HM;refine HM.out.mono ?_;clear e2
 cases hq:GR with
 |no lq =>
  rintro e w3 ⟨rfl,hr,hg⟩;exact⟨rfl,zal rfl ⟨rfl,hr,(HU3.out.call hg hr).grown⟩⟩
 |ok y ly =>
  rintro e w3 ⟨vv,rfl,⟨mm,pa,pl,pc,rfl,hx⟩,hr,hg⟩;have HU4:=Z9 (HU3.out.call hg hr);have HFIN:=Z9 (HU4.out.fin (Nat.le_refl _) HU3.out.blt hx);obtain⟨z0,z1,z2,z3,z4⟩:=zad (show w3.heap[w.heap.size]?=some (.cells #[.int .u8 0,.string ⟨#[]⟩,.string ⟨#[]⟩,.int .i64 0,.slice none 0 0] 25)from HU4.out.box)
  have fz:∀i,w3.frozen? ⟨w.heap.size,i,none⟩=false:=Lib.frozen_of_heap (show w3.heap[w.heap.size]?=some (.cells #[.int .u8 0,.string ⟨#[]⟩,.string ⟨#[]⟩,.int .i64 0,.slice none 0 0] 25)from HU4.out.box)
  have zb:=HU4.out.blt;clear hx hr hg;go_wp2_with fail;obtain⟨W',hW',hx,YY,hr,hg⟩:=HFIN.out;rw[←hW'];obtain⟨c0,c1,c2,c3,c4⟩:=zad YY;exact bodyPost_ret (v:=.agg #[.int .u8 y.kind,.string y.rat,.string y.name,.int .i64 y.date,.slice pa pl pc]) (by simp[results,Tryz.results63,go_sem,c0,c1,c2,c3,c4]) rfl (zbl hq ⟨_,rfl,⟨_,pa,pl,pc,rfl,hx⟩,hr,hg⟩)
theorem zwo{rb n0:Nat}(S T:RdX)(hp:zd9 rb n0 S T)(cS:∀l,(S l).Cons l)(cT:∀l,(T l).Cons l)(w:World)(l:List Tk)(h:RAt rb w l)(hl:l.length≤n0)(hh:zap l=[97,110,100]) :
 Calls Tryz.prog 63 #[.pointer (some ⟨rb,0,none⟩)] w (zaf (VEx w.heap.size) rb w (zby 13 (([false,false]:List Bool).map (zbj S T)) l.tail)):=by
 have hmf:∀(fn:Fn)(first cap:Array Value)(w:World),(Instr.makeFunc fn first cap).run Tryz.prog w=.ok (.func fn first cap) w:=fun _ _ _ _=>rfl
 obtain⟨t,r,rfl⟩:=zav (l:=l) (by rw[hh];simp);have HHD:=Z9 (fun W (hW:RAt rb W (t :: r))=>za1 rb W (t :: r) hW);rw[za0 hh]at HHD;have HTK:=Z9 (fun W (hW:RAt rb W (t :: r))=>zaz rb W t r hW);have HLI:=Z9 (fun W gp (hW:RAt rb W r) (hl:r.length≤n0) (h1:gp<W.heap.size) (h2:gp≠rb) (h3:∀i (hi:i<([false,false]:List Bool).length),W.cell? ⟨gp,i,none⟩=some (fnV rb (fnF (([false,false]:List Bool)[i]'hi))))=>ze0 S T hp cS cT 13 ([false,false]:List Bool) 2 gp rfl (by decide) W r hW hl h1 h2 h3);have HR:=Z9 h;have HL:Hid (r.length≤n0):=Z9 (by rw[List.length_cons]at hl;omega);obtain⟨GR,ZX⟩:∃GR,GR=zby 13 (([false,false]:List Bool).map (zbj S T)) (t :: r).tail:=⟨_,rfl⟩
 rw[←ZX];have HGR:=Z9 ZX;clear h hl hh hp cS cT ZX;have Yg:=@run_makeMap Tryz.prog;go_enter Tryz.func63,Tryz.ntmps63;go_wp2_with fail;have HF0:=Z9 (FAt.start HR.out);refine(HHD.out _ HF0.out.rd).mono ?_;rintro e u ⟨rfl,hb⟩;have HU:=Z9 (HF0.out.below hb);clear hb;obtain⟨u0,u1,u2,u3,u4⟩:=ziw u;have L0:(Instr.lookup 138 (.map (some u.heap.size)) (.string ⟨#[97,110,100]⟩) false).run Tryz.prog (u.alloc (.map tkEs 5))=.ok (.int .u8 13) (u.alloc (.map tkEs 5)):=zas (i:=2) (heap_alloc_new _ _) rfl;have HU1:=Z9 (HU.out.alloc (.map tkEs 5));have HMB:=Z9 (heap_alloc_new u (.map tkEs 5));go_wp2_with fail;refine(HTK.out _ HU1.out.rd).mono ?_
 rintro e w2 ⟨v,rfl,rfl,hr,hg⟩;have Zn:=Z9 (HU1.out.call hg hr);have hmb:=zaj HMB.out hg (Nat.ne_of_lt HU.out.rd.lt);have L1:(Instr.lookup 138 (.map (some u.heap.size)) (.string ⟨#[97,110,100]⟩) false).run Tryz.prog w2=.ok (.int .u8 13) w2:=zas (i:=2) hmb rfl;have L2:(Instr.lookup 138 (.map (some u.heap.size)) (.string ⟨#[97,110,100]⟩) false).run Tryz.prog (w2.alloc (.cells #[.func (.func 63) #[.pointer (some ⟨rb,0,none⟩)] #[],.func (.func 63) #[.pointer (some ⟨rb,0,none⟩)] #[]] 93))=.ok (.int .u8 13) (w2.alloc (.cells #[.func (.func 63) #[.pointer (some ⟨rb,0,none⟩)] #[],.func (.func 63) #[.pointer (some ⟨rb,0,none⟩)] #[]] 93)):=zas (i:=2) (zaj (rb:=rb) hmb (World.grownBy_alloc w2 _ _) (Nat.ne_of_lt HU.out.rd.lt)) rfl
 have HU3:=Z9 (Zn.out.alloc (.cells #[.func (.func 63) #[.pointer (some ⟨rb,0,none⟩)] #[],.func (.func 63) #[.pointer (some ⟨rb,0,none⟩)] #[]] 93));clear hr hg hmb u0 u1 u2 u3 u4 L0;go_wp2_with fail
 have ZV:∀i (hi:i<([false,false]:List Bool).length),(w2.alloc (.cells #[.func (.func 63) #[.pointer (some ⟨rb,0,none⟩)] #[],.func (.func 63) #[.pointer (some ⟨rb,0,none⟩)] #[]] 93)).cell? ⟨w2.heap.size,i,none⟩=some (fnV rb (fnF (([false,false]:List Bool)[i]'hi))):=by
  intro i hi;have ha:=heap_alloc_new w2 (.cells #[.func (.func 63) #[.pointer (some ⟨rb,0,none⟩)] #[],.func (.func 63) #[.pointer (some ⟨rb,0,none⟩)] #[]] 93);simp only[List.length_cons,List.length_nil]at hi;unfold World.cell?
  show(match (w2.alloc _).heap[w2.heap.size]? with |some (.cells c _ _)=>c[i]? |_=>none)=_
  rw[ha]
  match i,hi with
  |0,_=>rfl
  |1,_=>rfl
 have hrl:=Zn.out.rd.lt;have HM:=Z9 (HLI.out _ w2.heap.size HU3.out.rd HL.out (by simp) (by omega) ZV);clear ZV;have e2:zby 13 (([false,false]:List Bool).map (zbj S T)) r=GR:=HGR.out.symm;rw[e2]at HM;refine HM.out.mono ?_;clear e2
 cases hq:GR with
 |no lq =>
  rintro e w3 ⟨rfl,hr,hg⟩;exact⟨rfl,zal rfl ⟨rfl,hr,(HU3.out.call hg hr).grown⟩⟩
 |ok y ly =>
  rintro e w3 ⟨vv,rfl,⟨mm,pa,pl,pc,rfl,hx⟩,hr,hg⟩;have HU4:=Z9 (HU3.out.call hg hr);have HFIN:=Z9 (HU4.out.fin (Nat.le_refl _) HU3.out.blt hx);obtain⟨z0,z1,z2,z3,z4⟩:=zad (show w3.heap[w.heap.size]?=some (.cells #[.int .u8 0,.string ⟨#[]⟩,.string ⟨#[]⟩,.int .i64 0,.slice none 0 0] 25)from HU4.out.box)
  have fz:∀i,w3.frozen? ⟨w.heap.size,i,none⟩=false:=Lib.frozen_of_heap (show w3.heap[w.heap.size]?=some (.cells #[.int .u8 0,.string ⟨#[]⟩,.string ⟨#[]⟩,.int .i64 0,.slice none 0 0] 25)from HU4.out.box)
  have zb:=HU4.out.blt;clear hx hr hg;go_wp2_with fail;obtain⟨W',hW',hx,YY,hr,hg⟩:=HFIN.out;rw[←hW'];obtain⟨c0,c1,c2,c3,c4⟩:=zad YY;exact bodyPost_ret (v:=.agg #[.int .u8 y.kind,.string y.rat,.string y.name,.int .i64 y.date,.slice pa pl pc]) (by simp[results,Tryz.results63,go_sem,c0,c1,c2,c3,c4]) rfl (zbl hq ⟨_,rfl,⟨_,pa,pl,pc,rfl,hx⟩,hr,hg⟩)
theorem z1m{rb n0:Nat}(S T:RdX)(hp:zd9 rb n0 S T)(cS:∀l,(S l).Cons l)(cT:∀l,(T l).Cons l)(w:World)(l:List Tk)(h:RAt rb w l)(hl:l.length≤n0)(hh:zap l=[111,114]) :
 Calls Tryz.prog 63 #[.pointer (some ⟨rb,0,none⟩)] w (zaf (VEx w.heap.size) rb w (zby 14 (([false,false]:List Bool).map (zbj S T)) l.tail)):=by
 have hmf:∀(fn:Fn)(first cap:Array Value)(w:World),(Instr.makeFunc fn first cap).run Tryz.prog w=.ok (.func fn first cap) w:=fun _ _ _ _=>rfl
 obtain⟨t,r,rfl⟩:=zav (l:=l) (by rw[hh];simp);have HHD:=Z9 (fun W (hW:RAt rb W (t :: r))=>za1 rb W (t :: r) hW);rw[za0 hh]at HHD;have HTK:=Z9 (fun W (hW:RAt rb W (t :: r))=>zaz rb W t r hW);have HLI:=Z9 (fun W gp (hW:RAt rb W r) (hl:r.length≤n0) (h1:gp<W.heap.size) (h2:gp≠rb) (h3:∀i (hi:i<([false,false]:List Bool).length),W.cell? ⟨gp,i,none⟩=some (fnV rb (fnF (([false,false]:List Bool)[i]'hi))))=>ze0 S T hp cS cT 14 ([false,false]:List Bool) 2 gp rfl (by decide) W r hW hl h1 h2 h3);have HR:=Z9 h;have HL:Hid (r.length≤n0):=Z9 (by rw[List.length_cons]at hl;omega);obtain⟨GR,ZX⟩:∃GR,GR=zby 14 (([false,false]:List Bool).map (zbj S T)) (t :: r).tail:=⟨_,rfl⟩
 rw[←ZX];have HGR:=Z9 ZX;clear h hl hh hp cS cT ZX;have Yg:=@run_makeMap Tryz.prog;go_enter Tryz.func63,Tryz.ntmps63;go_wp2_with fail;have HF0:=Z9 (FAt.start HR.out);refine(HHD.out _ HF0.out.rd).mono ?_;rintro e u ⟨rfl,hb⟩;have HU:=Z9 (HF0.out.below hb);clear hb;obtain⟨u0,u1,u2,u3,u4⟩:=ziw u;have L0:(Instr.lookup 138 (.map (some u.heap.size)) (.string ⟨#[111,114]⟩) false).run Tryz.prog (u.alloc (.map tkEs 5))=.ok (.int .u8 14) (u.alloc (.map tkEs 5)):=zas (i:=3) (heap_alloc_new _ _) rfl;have HU1:=Z9 (HU.out.alloc (.map tkEs 5));have HMB:=Z9 (heap_alloc_new u (.map tkEs 5));go_wp2_with fail;refine(HTK.out _ HU1.out.rd).mono ?_
 rintro e w2 ⟨v,rfl,rfl,hr,hg⟩;have Zn:=Z9 (HU1.out.call hg hr);have hmb:=zaj HMB.out hg (Nat.ne_of_lt HU.out.rd.lt);have L1:(Instr.lookup 138 (.map (some u.heap.size)) (.string ⟨#[111,114]⟩) false).run Tryz.prog w2=.ok (.int .u8 14) w2:=zas (i:=3) hmb rfl;have L2:(Instr.lookup 138 (.map (some u.heap.size)) (.string ⟨#[111,114]⟩) false).run Tryz.prog (w2.alloc (.cells #[.func (.func 63) #[.pointer (some ⟨rb,0,none⟩)] #[],.func (.func 63) #[.pointer (some ⟨rb,0,none⟩)] #[]] 93))=.ok (.int .u8 14) (w2.alloc (.cells #[.func (.func 63) #[.pointer (some ⟨rb,0,none⟩)] #[],.func (.func 63) #[.pointer (some ⟨rb,0,none⟩)] #[]] 93)):=zas (i:=3) (zaj (rb:=rb) hmb (World.grownBy_alloc w2 _ _) (Nat.ne_of_lt HU.out.rd.lt)) rfl
 have HU3:=Z9 (Zn.out.alloc (.cells #[.func (.func 63) #[.pointer (some ⟨rb,0,none⟩)] #[],.func (.func 63) #[.pointer (some ⟨rb,0,none⟩)] #[]] 93));clear hr hg hmb u0 u1 u2 u3 u4 L0;go_wp2_with fail
 have ZV:∀i (hi:i<([false,false]:List Bool).length),(w2.alloc (.cells #[.func (.func 63) #[.pointer (some ⟨rb,0,none⟩)] #[],.func (.func 63) #[.pointer (some ⟨rb,0,none⟩)] #[]] 93)).cell? ⟨w2.heap.size,i,none⟩=some (fnV rb (fnF (([false,false]:List Bool)[i]'hi))):=by
  intro i hi;have ha:=heap_alloc_new w2 (.cells #[.func (.func 63) #[.pointer (some ⟨rb,0,none⟩)] #[],.func (.func 63) #[.pointer (some ⟨rb,0,none⟩)] #[]] 93);simp only[List.length_cons,List.length_nil]at hi;unfold World.cell?
  show(match (w2.alloc _).heap[w2.heap.size]? with |some (.cells c _ _)=>c[i]? |_=>none)=_
  rw[ha]
  match i,hi with
  |0,_=>rfl
  |1,_=>rfl
 have hrl:=Zn.out.rd.lt;have HM:=Z9 (HLI.out _ w2.heap.size HU3.out.rd HL.out (by simp) (by omega) ZV);clear ZV;have e2:zby 14 (([false,false]:List Bool).map (zbj S T)) r=GR:=HGR.out.symm;rw[e2]at HM;refine HM.out.mono ?_;clear e2
 cases hq:GR with
 |no lq =>
  rintro e w3 ⟨rfl,hr,hg⟩;exact⟨rfl,zal rfl ⟨rfl,hr,(HU3.out.call hg hr).grown⟩⟩
 |ok y ly =>
  rintro e w3 ⟨vv,rfl,⟨mm,pa,pl,pc,rfl,hx⟩,hr,hg⟩;have HU4:=Z9 (HU3.out.call hg hr);have HFIN:=Z9 (HU4.out.fin (Nat.le_refl _) HU3.out.blt hx);obtain⟨z0,z1,z2,z3,z4⟩:=zad (show w3.heap[w.heap.size]?=some (.cells #[.int .u8 0,.string ⟨#[]⟩,.string ⟨#[]⟩,.int .i64 0,.slice none 0 0] 25)from HU4.out.box)
  have fz:∀i,w3.frozen? ⟨w.heap.size,i,none⟩=false:=Lib.frozen_of_heap (show w3.heap[w.heap.size]?=some (.cells #[.int .u8 0,.string ⟨#[]⟩,.string ⟨#[]⟩,.int .i64 0,.slice none 0 0] 25)from HU4.out.box)
  have zb:=HU4.out.blt;clear hx hr hg;go_wp2_with fail;obtain⟨W',hW',hx,YY,hr,hg⟩:=HFIN.out;rw[←hW'];obtain⟨c0,c1,c2,c3,c4⟩:=zad YY;exact bodyPost_ret (v:=.agg #[.int .u8 y.kind,.string y.rat,.string y.name,.int .i64 y.date,.slice pa pl pc]) (by simp[results,Tryz.results63,go_sem,c0,c1,c2,c3,c4]) rfl (zbl hq ⟨_,rfl,⟨_,pa,pl,pc,rfl,hx⟩,hr,hg⟩)
theorem zwn{rb n0:Nat}(S T:RdX)(hp:zd9 rb n0 S T)(cS:∀l,(S l).Cons l)(cT:∀l,(T l).Cons l)(w:World)(l:List Tk)(h:RAt rb w l)(hl:l.length≤n0)(hh:zap l=[110,111,116]) :
 Calls Tryz.prog 63 #[.pointer (some ⟨rb,0,none⟩)] w (zaf (VEx w.heap.size) rb w (zby 15 (([false]:List Bool).map (zbj S T)) l.tail)):=by
 have hmf:∀(fn:Fn)(first cap:Array Value)(w:World),(Instr.makeFunc fn first cap).run Tryz.prog w=.ok (.func fn first cap) w:=fun _ _ _ _=>rfl
 obtain⟨t,r,rfl⟩:=zav (l:=l) (by rw[hh];simp);have HHD:=Z9 (fun W (hW:RAt rb W (t :: r))=>za1 rb W (t :: r) hW);rw[za0 hh]at HHD;have HTK:=Z9 (fun W (hW:RAt rb W (t :: r))=>zaz rb W t r hW);have HLI:=Z9 (fun W gp (hW:RAt rb W r) (hl:r.length≤n0) (h1:gp<W.heap.size) (h2:gp≠rb) (h3:∀i (hi:i<([false]:List Bool).length),W.cell? ⟨gp,i,none⟩=some (fnV rb (fnF (([false]:List Bool)[i]'hi))))=>ze0 S T hp cS cT 15 ([false]:List Bool) 1 gp rfl (by decide) W r hW hl h1 h2 h3);have HR:=Z9 h;have HL:Hid (r.length≤n0):=Z9 (by rw[List.length_cons]at hl;omega);obtain⟨GR,ZX⟩:∃GR,GR=zby 15 (([false]:List Bool).map (zbj S T)) (t :: r).tail:=⟨_,rfl⟩
 rw[←ZX];have HGR:=Z9 ZX;clear h hl hh hp cS cT ZX;have Yg:=@run_makeMap Tryz.prog;go_enter Tryz.func63,Tryz.ntmps63;go_wp2_with fail;have HF0:=Z9 (FAt.start HR.out);refine(HHD.out _ HF0.out.rd).mono ?_;rintro e u ⟨rfl,hb⟩;have HU:=Z9 (HF0.out.below hb);clear hb;obtain⟨u0,u1,u2,u3,u4⟩:=ziw u;have L0:(Instr.lookup 138 (.map (some u.heap.size)) (.string ⟨#[110,111,116]⟩) false).run Tryz.prog (u.alloc (.map tkEs 5))=.ok (.int .u8 15) (u.alloc (.map tkEs 5)):=zas (i:=4) (heap_alloc_new _ _) rfl;have HU1:=Z9 (HU.out.alloc (.map tkEs 5));have HMB:=Z9 (heap_alloc_new u (.map tkEs 5));go_wp2_with fail;refine(HTK.out _ HU1.out.rd).mono ?_
 rintro e w2 ⟨v,rfl,rfl,hr,hg⟩;have Zn:=Z9 (HU1.out.call hg hr);have hmb:=zaj HMB.out hg (Nat.ne_of_lt HU.out.rd.lt);have L1:(Instr.lookup 138 (.map (some u.heap.size)) (.string ⟨#[110,111,116]⟩) false).run Tryz.prog w2=.ok (.int .u8 15) w2:=zas (i:=4) hmb rfl;have L2:(Instr.lookup 138 (.map (some u.heap.size)) (.string ⟨#[110,111,116]⟩) false).run Tryz.prog (w2.alloc (.cells #[.func (.func 63) #[.pointer (some ⟨rb,0,none⟩)] #[]] 93))=.ok (.int .u8 15) (w2.alloc (.cells #[.func (.func 63) #[.pointer (some ⟨rb,0,none⟩)] #[]] 93)):=zas (i:=4) (zaj (rb:=rb) hmb (World.grownBy_alloc w2 _ _) (Nat.ne_of_lt HU.out.rd.lt)) rfl
 have HU3:=Z9 (Zn.out.alloc (.cells #[.func (.func 63) #[.pointer (some ⟨rb,0,none⟩)] #[]] 93));clear hr hg hmb u0 u1 u2 u3 u4 L0;go_wp2_with fail
 have ZV:∀i (hi:i<([false]:List Bool).length),(w2.alloc (.cells #[.func (.func 63) #[.pointer (some ⟨rb,0,none⟩)] #[]] 93)).cell? ⟨w2.heap.size,i,none⟩=some (fnV rb (fnF (([false]:List Bool)[i]'hi))):=by
  intro i hi;have ha:=heap_alloc_new w2 (.cells #[.func (.func 63) #[.pointer (some ⟨rb,0,none⟩)] #[]] 93);simp only[List.length_cons,List.length_nil]at hi;unfold World.cell?
  show(match (w2.alloc _).heap[w2.heap.size]? with |some (.cells c _ _)=>c[i]? |_=>none)=_
  rw[ha]
  match i,hi with
  |0,_=>rfl
 have hrl:=Zn.out.rd.lt;have HM:=Z9 (HLI.out _ w2.heap.size HU3.out.rd HL.out (by simp) (by omega) ZV);clear ZV;have e2:zby 15 (([false]:List Bool).map (zbj S T)) r=GR:=HGR.out.symm;rw[e2]at HM;refine HM.out.mono ?_;clear e2
 cases hq:GR with
 |no lq =>
  rintro e w3 ⟨rfl,hr,hg⟩;exact⟨rfl,zal rfl ⟨rfl,hr,(HU3.out.call hg hr).grown⟩⟩
 |ok y ly =>
  rintro e w3 ⟨vv,rfl,⟨mm,pa,pl,pc,rfl,hx⟩,hr,hg⟩;have HU4:=Z9 (HU3.out.call hg hr);have HFIN:=Z9 (HU4.out.fin (Nat.le_refl _) HU3.out.blt hx);obtain⟨z0,z1,z2,z3,z4⟩:=zad (show w3.heap[w.heap.size]?=some (.cells #[.int .u8 0,.string ⟨#[]⟩,.string ⟨#[]⟩,.int .i64 0,.slice none 0 0] 25)from HU4.out.box)
  have fz:∀i,w3.frozen? ⟨w.heap.size,i,none⟩=false:=Lib.frozen_of_heap (show w3.heap[w.heap.size]?=some (.cells #[.int .u8 0,.string ⟨#[]⟩,.string ⟨#[]⟩,.int .i64 0,.slice none 0 0] 25)from HU4.out.box)
  have zb:=HU4.out.blt;clear hx hr hg;go_wp2_with fail;obtain⟨W',hW',hx,YY,hr,hg⟩:=HFIN.out;rw[←hW'];obtain⟨c0,c1,c2,c3,c4⟩:=zad YY;exact bodyPost_ret (v:=.agg #[.int .u8 y.kind,.string y.rat,.string y.name,.int .i64 y.date,.slice pa pl pc]) (by simp[results,Tryz.results63,go_sem,c0,c1,c2,c3,c4]) rfl (zbl hq ⟨_,rfl,⟨_,pa,pl,pc,rfl,hx⟩,hr,hg⟩)
theorem z1l{rb n0:Nat}(S T:RdX)(hp:zd9 rb n0 S T)(cS:∀l,(S l).Cons l)(cT:∀l,(T l).Cons l)(w:World)(l:List Tk)(h:RAt rb w l)(hl:l.length≤n0) :
 Calls Tryz.prog 63 #[.pointer (some ⟨rb,0,none⟩)] w (zaf (VEx w.heap.size) rb w (zdk S T l)):=by
 unfold zdk
 by_cases h0:zap l=[108,101,115,115]
 ·rw[if_pos h0];exact zt6 S T hp cS cT w l h hl h0
 rw[if_neg h0]
 by_cases h1:zap l=[101,113,117,97,108]
 ·rw[if_pos h1];exact zqm S T hp cS cT w l h hl h1
 rw[if_neg h1]
 by_cases h2:zap l=[97,110,100]
 ·rw[if_pos h2];exact zwo S T hp cS cT w l h hl h2
 rw[if_neg h2]
 by_cases h3:zap l=[111,114]
 ·rw[if_pos h3];exact z1m S T hp cS cT w l h hl h3
 rw[if_neg h3]
 by_cases h4:zap l=[110,111,116]
 ·rw[if_pos h4];exact zwn S T hp cS cT w l h hl h4
 rw[if_neg h4]
 exact zt5 w l h (by
  intro b hb;simp only[List.mem_cons,List.not_mem_nil,or_false]at hb
  rcases hb with rfl |rfl |rfl |rfl |rfl
  ·exact h0
  ·exact h1
  ·exact h2
  ·exact h3
  ·exact h4)
theorem znm(rb:Nat):∀n,zd9 rb n (rdE n true) (rdE n false)
 |0=>fun b W l h hl=>absurd hl (Nat.not_lt_zero _)
 |n+1=>fun b W l h hl=>by
  have ih:=znm rb n
  cases b with
  |true=>exact ybj (rdE n true) (rdE n false) ih (zbi n true) (zbi n false) (n+1) W l h (by omega) (by omega)
  |false=>exact z1l (rdE n true) (rdE n false) ih (zbi n true) (zbi n false) W l h (by omega)
def CSm:Nat→Ct→Prop
 |0,_=>False
 |d+1,x=>(x.name.size≤200∧x.frm.size≤200∧x.too.size≤200∧x.dates.length≤20000∧x.expr.size≤1000)∧SmX (d+1) x.expr∧∀y ∈ x.sub,CSm d y
theorem zbz{w:World}{g:Nat}{c0 c1 c2 c3 c4 c5 c6 c7 c8 c9 ca cb:Value}{t:TypeId}(h:w.heap[g]?=some (.cells #[c0,c1,c2,c3,c4,c5,c6,c7,c8,c9,ca,cb] t)) :
 w.cell? ⟨g,0,none⟩=some c0∧w.cell? ⟨g,1,none⟩=some c1∧w.cell? ⟨g,2,none⟩=some c2∧w.cell? ⟨g,3,none⟩=some c3∧w.cell? ⟨g,4,none⟩=some c4∧w.cell? ⟨g,5,none⟩=some c5∧w.cell? ⟨g,6,none⟩=some c6∧w.cell? ⟨g,7,none⟩=some c7∧w.cell? ⟨g,8,none⟩=some c8∧w.cell? ⟨g,9,none⟩=some c9∧w.cell? ⟨g,10,none⟩=some ca∧w.cell? ⟨g,11,none⟩=some cb :=
 ⟨zbf h 0,zbf h 1,zbf h 2,zbf h 3,zbf h 4,zbf h 5,zbf h 6,zbf h 7,zbf h 8,zbf h 9,zbf h 10,zbf h 11⟩
theorem CtAt.elem{n:Nat}{w w1:World}{g o k:Nat}{x:Ct}(hg:g<w.heap.size)(hb:Below w.heap.size w w1)(hk:k<x.sub.length)
 (Zq:∀i (hi:i<x.sub.length),∃cs',(∀j,j<12→w.cell? ⟨g,o+i*12+j,none⟩=cs'[j]?)∧CtAt n w cs' x.sub[i]) :
 ∃y,y=x.sub[k]∧∃ea el ec da dl dc a len cap,(w1.cell? ⟨g,o+k*12,none⟩=some (.int .u8 y.kind)∧w1.cell? ⟨g,o+k*12+1,none⟩=some (.string y.frm)∧w1.cell? ⟨g,o+k*12+2,none⟩=some (.string y.too)∧w1.cell? ⟨g,o+k*12+3,none⟩=some (.string y.name) ∧
  w1.cell? ⟨g,o+k*12+4,none⟩=some (.int .u8 y.expr.kind)∧w1.cell? ⟨g,o+k*12+5,none⟩=some (.string y.expr.rat)∧w1.cell? ⟨g,o+k*12+6,none⟩=some (.string y.expr.name)∧w1.cell? ⟨g,o+k*12+7,none⟩=some (.int .i64 y.expr.date)∧w1.cell? ⟨g,o+k*12+8,none⟩=some (.slice ea el ec) ∧
  w1.cell? ⟨g,o+k*12+9,none⟩=some (.int .i64 y.date)∧w1.cell? ⟨g,o+k*12+10,none⟩=some (.slice da dl dc)∧w1.cell? ⟨g,o+k*12+11,none⟩=some (.slice a len cap))∧CtAt n w [.int .u8 y.kind,.string y.frm,.string y.too,.string y.name,.int .u8 y.expr.kind,.string y.expr.rat,.string y.expr.name,.int .i64 y.expr.date,.slice ea el ec,.int .i64 y.date,.slice da dl dc,.slice a len cap] y:=by
 obtain⟨cs',Z5,hx⟩:=Zq k hk;obtain⟨ea,el,ec,da,dl,dc,a,len,cap,YG,_⟩:=hx.shape
 have ZZ:∀j,j<12→w1.cell? ⟨g,o+k*12+j,none⟩=cs'[j]?:=fun j hj=>((zbg hb).1 g _ hg).trans (Z5 j hj)
 rw[YG]at ZZ hx;exact⟨_,rfl,ea,el,ec,da,dl,dc,a,len,cap,⟨ZZ 0 (by omega),ZZ 1 (by omega),ZZ 2 (by omega),ZZ 3 (by omega),ZZ 4 (by omega),ZZ 5 (by omega),ZZ 6 (by omega),ZZ 7 (by omega),ZZ 8 (by omega),ZZ 9 (by omega),ZZ 10 (by omega),ZZ 11 (by omega)⟩,hx⟩
theorem zo1(l:List Int)(da db:Option Addr)(dl ca cb:Nat)(w:World)(ha:DaysAt w da dl l)(hb:DaysAt w db dl l)(hz:dl≤20000) :
 Calls Tryz.prog 59 #[.slice da dl ca,.slice db dl cb] w (BelB w true):=by
 have HA:=Z9 ha;have HB:=Z9 hb;clear ha hb;go_enter Tryz.func59,Tryz.ntmps59;go_wp2_with fail;go_loopw [5] (fun iv wr=>∃(k q:Nat),k≤dl∧iv=.int .i64 (k:Int)∧wr=w.drewN q) (fun iv _=>dl-(intOf iv).toNat)
 case atStart=>exact⟨0,0,Nat.zero_le _,rfl,rfl⟩
 case round =>
  obtain⟨k,q,hk,rfl,rfl⟩:=hrel
  by_cases Z4:k<dl
  ·rcases HA.out.2 with h0 |⟨ga,oa,rfl,_,Ye⟩
   ·omega
   rcases HB.out.2 with h0 |⟨gb,ob,rfl,_,YX⟩
   ·omega
   have e0:=Ye k Z4;have e1:=YX k Z4;obtain⟨d,hd⟩:∃d,d=l[k]?.getD 0:=⟨_,rfl⟩
   rw[←hd]at e0 e1;have YL:(0:Int)≤(k:Int):=by omega
   have Zh:(k:Int)<(dl:Int):=by omega
   clear Ye YX hd;go_wp2_with fail;go_quiet (fail);go_wp2_with fail;go_roundw
   case rel=>exact⟨k+1,_,by omega,by go_num,rfl⟩
   case measure=>simp[intOf]<;>omega
  ·go_wp2_with fail
   go_ret;exact⟨rfl,za4 (Below.refl _ _) _⟩
theorem zgt:∀(n:Nat)(x:Ct)(cs1 cs2:List Value)(w:World),CtAt n w cs1 x→CtAt n w cs2 x→x.size≤1000→(∃d,CSm d x) →
 Calls Tryz.prog 23 #[.agg cs1.toArray,.agg cs2.toArray] w (BelB w true):=by
 intro n
 induction n with
 |zero=>intro x cs1 cs2 w h;exact h.elim
 |succ n ih =>
  intro x cs1 cs2 w h1 h2 hz XM;obtain⟨ea1,el1,ec1,da1,dl1,dc1,a1,len1,cap1,rfl,TJ,VM,Z6,Zt⟩:=h1;obtain⟨ea2,el2,ec2,da2,dl2,dc2,a2,len2,cap2,rfl,TK,WU,XE,YJ⟩:=h2;obtain rfl:len1=len2:=Z6.symm.trans XE;obtain rfl:dl1=dl2:=VM.1.symm.trans WU.1;have hsl:=x.sub_len;have ZH:len1≤1000:=by omega
  have Vc:=x.expr_size;have hexz:x.expr.size≤1000:=by omega
  have hdz:dl1≤20000:=by
   obtain⟨d,hd⟩:=XM
   match d,hd with
   |d+1,⟨h,_,_⟩=>have:=VM.1;omega
  have HSM:Hid (∀y ∈ x.sub,∃d,CSm d y):=fun y hy=>by
   obtain⟨d,hd⟩:=XM
   match d,hd with
   |d+1,⟨_,_,h⟩=>exact⟨d,h y hy⟩
  have HI:=Z9 ih;have UC:=Z9 Zt;have Xj:=Z9 YJ;have HLEN:=Z9 Z6;have HZ:=Z9 hz;have HX1:=Z9 TJ;have HX2:=Z9 TK;have WO:=Z9 VM;have HD2:=Z9 WU;clear ih Zt YJ Z6 XE hz hsl TJ TK VM WU XM Vc
  show Calls Tryz.prog 23 #[.agg #[.int .u8 x.kind,.string x.frm,.string x.too,.string x.name,.int .u8 x.expr.kind,.string x.expr.rat,.string x.expr.name,.int .i64 x.expr.date,.slice ea1 el1 ec1,.int .i64 x.date,.slice da1 dl1 dc1,.slice a1 len1 cap1],.agg #[.int .u8 x.kind,.string x.frm,.string x.too,.string x.name,.int .u8 x.expr.kind,.string x.expr.rat,.string x.expr.name,.int .i64 x.expr.date,.slice ea2 el2 ec2,.int .i64 x.date,.slice da2 dl1 dc2,.slice a2 len1 cap2]] w _
  go_enter Tryz.func23,Tryz.ntmps23;go_wp2_with fail;obtain⟨W0,Z7⟩:∃W0,W0=(w.alloc (.cells #[.int .u8 x.kind,.string x.frm,.string x.too,.string x.name,.int .u8 x.expr.kind,.string x.expr.rat,.string x.expr.name,.int .i64 x.expr.date,.slice ea1 el1 ec1,.int .i64 x.date,.slice da1 dl1 dc1,.slice a1 len1 cap1] 40)).alloc (.cells #[.int .u8 x.kind,.string x.frm,.string x.too,.string x.name,.int .u8 x.expr.kind,.string x.expr.rat,.string x.expr.name,.int .i64 x.expr.date,.slice ea2 el2 ec2,.int .i64 x.date,.slice da2 dl1 dc2,.slice a2 len1 cap2] 40):=⟨_,rfl⟩
  have ZJ:W0.heap[w.heap.size]?=some (.cells #[.int .u8 x.kind,.string x.frm,.string x.too,.string x.name,.int .u8 x.expr.kind,.string x.expr.rat,.string x.expr.name,.int .i64 x.expr.date,.slice ea1 el1 ec1,.int .i64 x.date,.slice da1 dl1 dc1,.slice a1 len1 cap1] 40):=by rw[Z7];exact zg8 ..
  have Z3:W0.heap[w.heap.size+1]?=some (.cells #[.int .u8 x.kind,.string x.frm,.string x.too,.string x.name,.int .u8 x.expr.kind,.string x.expr.rat,.string x.expr.name,.int .i64 x.expr.date,.slice ea2 el2 ec2,.int .i64 x.date,.slice da2 dl1 dc2,.slice a2 len1 cap2] 40):=by
   rw[Z7];show((w.heap.push _).push _)[w.heap.size+1]?=_;rw[Array.getElem?_push,if_pos (by simp)]
  have hB0:Below w.heap.size w W0:=by rw[Z7];exact(zaa w _).alloc (by simp) _
  rw[←Z7];have HBX1:=Z9 ZJ;have HBX2:=Z9 Z3;have HB0:=Z9 hB0;have hsz2:w.heap.size+1<W0.heap.size:=(Z8 Z3);clear Z7 ZJ Z3 hB0;go_loopw [5] (fun iv wr=>∃k:Nat,k≤len1∧iv=.int .i64 (k:Int)∧Below W0.heap.size W0 wr) (fun iv _=>len1-(intOf iv).toNat)
  case atStart=>exact⟨0,Nat.zero_le _,rfl,Below.refl _ _⟩
  case round =>
   obtain⟨w1,rfl⟩:∃w1:World,w1=wr:=⟨_,rfl⟩
   obtain⟨k,hk,rfl,hb⟩:=hrel;have HBW:=Z9 (HB0.out.trans (hb.mono HB0.out.size));have HB:=Z9 hb
   have HA1:Hid (∀W,Below W0.heap.size W0 W→_):=fun W hW=>zbz ((hW.block _ (show w.heap.size<W0.heap.size by omega)).trans HBX1.out)
   have HA2:Hid (∀W,Below W0.heap.size W0 W→_):=fun W hW=>zbz ((hW.block _ hsz2).trans HBX2.out)
   clear hb
   by_cases Z4:k<len1
   ·have ZR:k<x.sub.length:=by rw[HLEN.out];exact Z4
    rcases UC.out with h0 |⟨g1,o1,Tz,Yt,Wq⟩
    ·omega
    rcases Xj.out with h0 |⟨g2,o2,UK,Yz,Wr⟩
    ·omega
    subst Tz UK;obtain⟨y,hy,eay,ely,ecy,day,dly,dcy,ay,leny,capy,YF,ZB⟩:=CtAt.elem Yt HBW.out ZR Wq;obtain⟨y',hy',eaz,elz,ecz,daz,dlz,dcz,az,lenz,capz,Yd,Zu⟩:=CtAt.elem Yz HBW.out ZR Wr;obtain rfl:y=y':=hy.trans hy'.symm;have hym:y ∈ x.sub:=by rw[hy];exact List.getElem_mem _
    have Ys:=Ct.sub_size hym;have m0:=(HA1.out _ HB.out).2.2.2.2.2.2.2.2.2.2.2;have m1:=(HA2.out _ HB.out).2.2.2.2.2.2.2.2.2.2.2;have HCALL:=Z9 (HI.out y _ _ w1.drew (CtAt.below (HBW.out.drew) ZB) (CtAt.below (HBW.out.drew) Zu) (by have:=HZ.out;omega) (HSM.out y hym));have YL:(0:Int)≤(k:Int):=by omega
    have Zh:(k:Int)<(len1:Int):=by omega
    clear ZB Zu hy hy' hym Ys Wq Wr;have z1:w.heap.size<w1.heap.size:=Nat.lt_of_lt_of_le (by omega) HB.out.size;have z2:w.heap.size+1<w1.heap.size:=Nat.lt_of_lt_of_le hsz2 HB.out.size;have z3:g1<w1.heap.size:=Nat.lt_of_lt_of_le Yt HBW.out.size;have z4:g2<w1.heap.size:=Nat.lt_of_lt_of_le Yz HBW.out.size;obtain⟨e0,e1,e2,e3,e4,e5,e6,e7,e8,e9,ea_,eb_⟩:=YF;obtain⟨f0,f1,f2,f3,f4,f5,f6,f7,f8,f9,fa_,fb_⟩:=Yd
    have SBf:∀W,Below w1.heap.size w1 W→W.cell? ⟨w.heap.size,11,none⟩=some (.slice (some ⟨g1,o1,none⟩) len1 cap1)∧W.cell? ⟨w.heap.size+1,11,none⟩=some (.slice (some ⟨g2,o2,none⟩) len1 cap2)∧W.cell? ⟨g1,o1+k*12,none⟩=some (.int .u8 y.kind)∧W.cell? ⟨g1,o1+k*12+1,none⟩=some (.string y.frm)∧W.cell? ⟨g1,o1+k*12+2,none⟩=some (.string y.too)∧W.cell? ⟨g1,o1+k*12+3,none⟩=some (.string y.name)∧W.cell? ⟨g1,o1+k*12+4,none⟩=some (.int .u8 y.expr.kind)∧W.cell? ⟨g1,o1+k*12+5,none⟩=some (.string y.expr.rat)∧W.cell? ⟨g1,o1+k*12+6,none⟩=some (.string y.expr.name)∧W.cell? ⟨g1,o1+k*12+7,none⟩=some (.int .i64 y.expr.date)∧W.cell? ⟨g1,o1+k*12+8,none⟩=some (.slice eay ely ecy)∧W.cell? ⟨g1,o1+k*12+9,none⟩=some (.int .i64 y.date)∧W.cell? ⟨g1,o1+k*12+10,none⟩=some (.slice day dly dcy)∧W.cell? ⟨g1,o1+k*12+11,none⟩=some (.slice ay leny capy)∧W.cell? ⟨g2,o2+k*12,none⟩=some (.int .u8 y.kind)∧W.cell? ⟨g2,o2+k*12+1,none⟩=some (.string y.frm)∧W.cell? ⟨g2,o2+k*12+2,none⟩=some (.string y.too)∧W.cell? ⟨g2,o2+k*12+3,none⟩=some (.string y.name)∧W.cell? ⟨g2,o2+k*12+4,none⟩=some (.int .u8 y.expr.kind)∧W.cell? ⟨g2,o2+k*12+5,none⟩=some (.string y.expr.rat)∧W.cell? ⟨g2,o2+k*12+6,none⟩=some (.string y.expr.name)∧W.cell? ⟨g2,o2+k*12+7,none⟩=some (.int .i64 y.expr.date)∧W.cell? ⟨g2,o2+k*12+8,none⟩=some (.slice eaz elz ecz)∧W.cell? ⟨g2,o2+k*12+9,none⟩=some (.int .i64 y.date)∧W.cell? ⟨g2,o2+k*12+10,none⟩=some (.slice daz dlz dcz)∧W.cell? ⟨g2,o2+k*12+11,none⟩=some (.slice az lenz capz):=fun W h=>by
     have e:∀g' o',g'<w1.heap.size→W.cell? ⟨g',o',none⟩=w1.cell? ⟨g',o',none⟩:=fun g' o' h'=>(zbg h).1 _ _ h'
     exact⟨(e _ _ z1).trans m0,(e _ _ z2).trans m1,(e _ _ z3).trans e0,(e _ _ z3).trans e1,(e _ _ z3).trans e2,(e _ _ z3).trans e3,(e _ _ z3).trans e4,(e _ _ z3).trans e5,(e _ _ z3).trans e6,(e _ _ z3).trans e7,(e _ _ z3).trans e8,(e _ _ z3).trans e9,(e _ _ z3).trans ea_,(e _ _ z3).trans eb_,
      (e _ _ z4).trans f0,(e _ _ z4).trans f1,(e _ _ z4).trans f2,(e _ _ z4).trans f3,(e _ _ z4).trans f4,(e _ _ z4).trans f5,(e _ _ z4).trans f6,(e _ _ z4).trans f7,(e _ _ z4).trans f8,(e _ _ z4).trans f9,(e _ _ z4).trans fa_,(e _ _ z4).trans fb_⟩
    have HSB:=Z9 SBf;have HST:=Z9 (Below.refl w1.heap.size w1);have HD0:Hid (Below w1.heap.size w1 w1.drew):=(Below.refl _ w1).drew;clear SBf;go_wp2_with fail
    go_region_held3 (fun W=>W.cell? ⟨w.heap.size,11,none⟩=some (.slice (some ⟨g1,o1,none⟩) len1 cap1)∧W.cell? ⟨w.heap.size+1,11,none⟩=some (.slice (some ⟨g2,o2,none⟩) len1 cap2)∧W.cell? ⟨g1,o1+k*12,none⟩=some (.int .u8 y.kind)∧W.cell? ⟨g1,o1+k*12+1,none⟩=some (.string y.frm)∧W.cell? ⟨g1,o1+k*12+2,none⟩=some (.string y.too)∧W.cell? ⟨g1,o1+k*12+3,none⟩=some (.string y.name)∧W.cell? ⟨g1,o1+k*12+4,none⟩=some (.int .u8 y.expr.kind)∧W.cell? ⟨g1,o1+k*12+5,none⟩=some (.string y.expr.rat)∧W.cell? ⟨g1,o1+k*12+6,none⟩=some (.string y.expr.name)∧W.cell? ⟨g1,o1+k*12+7,none⟩=some (.int .i64 y.expr.date)∧W.cell? ⟨g1,o1+k*12+8,none⟩=some (.slice eay ely ecy)∧W.cell? ⟨g1,o1+k*12+9,none⟩=some (.int .i64 y.date)∧W.cell? ⟨g1,o1+k*12+10,none⟩=some (.slice day dly dcy)∧W.cell? ⟨g1,o1+k*12+11,none⟩=some (.slice ay leny capy)∧W.cell? ⟨g2,o2+k*12,none⟩=some (.int .u8 y.kind)∧W.cell? ⟨g2,o2+k*12+1,none⟩=some (.string y.frm)∧W.cell? ⟨g2,o2+k*12+2,none⟩=some (.string y.too)∧W.cell? ⟨g2,o2+k*12+3,none⟩=some (.string y.name)∧W.cell? ⟨g2,o2+k*12+4,none⟩=some (.int .u8 y.expr.kind)∧W.cell? ⟨g2,o2+k*12+5,none⟩=some (.string y.expr.rat)∧W.cell? ⟨g2,o2+k*12+6,none⟩=some (.string y.expr.name)∧W.cell? ⟨g2,o2+k*12+7,none⟩=some (.int .i64 y.expr.date)∧W.cell? ⟨g2,o2+k*12+8,none⟩=some (.slice eaz elz ecz)∧W.cell? ⟨g2,o2+k*12+9,none⟩=some (.int .i64 y.date)∧W.cell? ⟨g2,o2+k*12+10,none⟩=some (.slice daz dlz dcz)∧W.cell? ⟨g2,o2+k*12+11,none⟩=some (.slice az lenz capz))
     ((first |with_reducible exact HSB.out _ HST.out |with_reducible exact HSB.out _ HD0.out |with_reducible exact HSB.out _ WO.out))
     ((go_at_call 23;refine HCALL.out.mono ?_;rintro e w2 ⟨rfl,Z3⟩;have WO:=Z9 (HD0.out.trans (Z3.mono HD0.out.size))))
    have ZY:=Z9 (HB.out.trans (WO.out.mono HB.out.size));clear Z3;go_wp2_with fail;go_roundw
    case rel=>exact⟨k+1,Z4,by go_num,ZY.out⟩
    case measure=>simp[intOf]<;>omega
   ·obtain⟨c0,c1,c2,c3,c4,c5,c6,c7,c8,c9,ca,cb⟩:=HA1.out _ HB.out
    obtain⟨d0,d1,d2,d3,d4,d5,d6,d7,d8,d9,da,db⟩:=HA2.out _ HB.out;have HSX:=Z9 (zo0 (n+1) x.expr _ _ w1 (ExAt.below HBW.out HX1.out) (ExAt.below HBW.out HX2.out) hexz);go_wp2_with fail;refine HSX.out.mono ?_;rintro e w2 ⟨rfl,Z3⟩;have ZY:=Z9 (HB.out.trans (Z3.mono HB.out.size));have HBW2:=Z9 (HB0.out.trans (ZY.out.mono HB0.out.size));clear c0 c1 c2 c3 c4 c5 c6 c7 c8 c9 ca cb d0 d1 d2 d3 d4 d5 d6 d7 d8 d9 da db Z3;obtain⟨c0,c1,c2,c3,c4,c5,c6,c7,c8,c9,ca,cb⟩:=HA1.out _ ZY.out;obtain⟨d0,d1,d2,d3,d4,d5,d6,d7,d8,d9,da,db⟩:=HA2.out _ ZY.out;have HSD:=Z9 (zo1 x.dates da1 da2 dl1 dc1 dc2 w2 (WO.out.below HBW2.out) (HD2.out.below HBW2.out) hdz)
    go_wp2_with fail;refine HSD.out.mono ?_;rintro e w3 ⟨rfl,Zw⟩;have HF:=Z9 (HBW2.out.trans (Zw.mono HBW2.out.size));clear Zw;go_wp2_with fail;go_ret;exact⟨rfl,HF.out⟩
def zf8(S:Nat→Prop)(w:World)(da:Option Addr)(dl:Nat)(l:List Int):Prop :=
 l.length=dl∧(dl=0∨∃g,da=some ⟨g,0,none⟩∧S g∧∀i,i<dl→w.cell? ⟨g,i,none⟩=some (.int .i64 (l[i]?.getD 0)))
def CtOn(S:Nat→Prop):Nat→World→List Value→Ct→Prop
 |0,_,_,_=>False
 |n+1,w,cs,x=>∃ea el ec da dl dc a len cap,cs=zdp x ea el ec da dl dc a len cap ∧
  ExOn S (n+1) w [.int .u8 x.expr.kind,.string x.expr.rat,.string x.expr.name,.int .i64 x.expr.date,.slice ea el ec] x.expr∧zf8 S w da dl x.dates∧x.sub.length=len ∧
  (len=0∨∃g,a=some ⟨g,0,none⟩∧S g∧∀i (hi:i<x.sub.length),∃cs',(∀j,j<12→w.cell? ⟨g,i*12+j,none⟩=cs'[j]?)∧CtOn S n w cs' x.sub[i])
theorem CtOn.mono{S S':Nat→Prop}(hS:∀g,S g→S' g):∀{n:Nat}{w:World}{cs:List Value}{x:Ct},CtOn S n w cs x→CtOn S' n w cs x
 |0,_,_,_,h=>h
 |n+1,w,cs,x,⟨ea,el,ec,da,dl,dc,a,len,cap,h1,he,hd,h2,h3⟩=>⟨ea,el,ec,da,dl,dc,a,len,cap,h1,he.mono hS,⟨hd.1,hd.2.imp id fun⟨g,ha,hg,hi⟩=>⟨g,ha,hS g hg,hi⟩⟩,h2,h3.imp id fun⟨g,ha,hg,hi⟩=>⟨g,ha,hS g hg,fun i h=>by
  obtain⟨cs',hc,hx⟩:=hi i h
  exact⟨cs',hc,CtOn.mono hS hx⟩⟩⟩
theorem CtOn.keep{S:Nat→Prop}{w w':World}(hw:∀g,S g→w'.heap[g]?=w.heap[g]?):∀{n:Nat}{cs:List Value}{x:Ct},CtOn S n w cs x→CtOn S n w' cs x
 |0,_,_,h=>h
 |n+1,cs,x,⟨ea,el,ec,da,dl,dc,a,len,cap,h1,he,hd,h2,h3⟩=>⟨ea,el,ec,da,dl,dc,a,len,cap,h1,he.keep hw,⟨hd.1,hd.2.imp id fun⟨g,ha,hg,hi⟩=>⟨g,ha,hg,fun i h=>(World.cell?_of_block (w:=w) (w':=w') (a:=⟨g,i,none⟩) (hw g hg)).trans (hi i h)⟩⟩,h2,h3.imp id fun⟨g,ha,hg,hi⟩=>⟨g,ha,hg,fun i h=>by
  obtain⟨cs',hc,hx⟩:=hi i h
  exact⟨cs',fun j hj=>(World.cell?_of_block (w:=w) (w':=w') (a:=⟨g,i*12+j,none⟩) (hw g hg)).trans (hc j hj),CtOn.keep hw hx⟩⟩⟩
theorem CtOn.at{S:Nat→Prop}{w:World}(hS:∀g,S g→g<w.heap.size):∀{n:Nat}{cs:List Value}{x:Ct},CtOn S n w cs x→CtAt n w cs x
 |0,_,_,h=>h
 |n+1,cs,x,⟨ea,el,ec,da,dl,dc,a,len,cap,h1,he,hd,h2,h3⟩=>⟨ea,el,ec,da,dl,dc,a,len,cap,h1,ExOn.at hS he,⟨hd.1,hd.2.imp id fun⟨g,ha,hg,hi⟩=>⟨g,0,ha,hS g hg,fun i h=>by rw[Nat.zero_add];exact hi i h⟩⟩,h2,h3.imp id fun⟨g,ha,hg,hi⟩=>⟨g,0,ha,hS g hg,fun i h=>by
  obtain⟨cs',hc,hx⟩:=hi i h
  exact⟨cs',fun j hj=>by rw[Nat.zero_add];exact hc j hj,CtOn.at hS hx⟩⟩⟩
def VDs(B:Nat)(ds:List Int)(w':World)(v:Value):Prop:=∃a cap,v=.slice a ds.length cap∧zf8 (fun g=>B≤g∧g<w'.heap.size) w' a ds.length ds
theorem z4j:(Tryz.prog.info? 3).map (fun i=>(i.zero,i.size,i.bytes))=some (some (.int .i64 0),1,8):=by kernel_rfl
theorem zr1{B:Nat}{w:World}{v:Value}{ds:List Int}(h:w.ownsRow B 3 1 v ds.length (ds.map fun d=>.int .i64 d)):VDs B ds w v:=by
 rcases h.2 with⟨rfl,h0⟩ |⟨g,cap,cur,rfl,hg,hc,Y6,hm,YG,ht⟩
 ·refine⟨none,0,by rw[h0],rfl,.inl h0⟩
 ·have V1:g<w.heap.size:=(Z8 hc)
  refine⟨_,cap,rfl,rfl,.inr ⟨g,rfl,⟨hg,V1⟩,fun i hi => ?_⟩⟩
  have h1:(cur.toList.take (ds.length*1))[i]?=(ds.map fun d=>Value.int .i64 d)[i]?:=by rw[ht]
  rw[List.getElem?_take_of_lt (by omega),List.getElem?_map,List.getElem?_eq_getElem hi]at h1
  show(match w.heap[g]? with |some (.cells c _ _)=>c[i]? |_=>none)=_
  rw[hc];simpa[List.getElem?_eq_getElem hi]using h1
theorem zxm(w:World)(B:Nat)(hB:B≤w.heap.size)(d:Int):(w.alloc (.cells #[.int .i64 d] 3)).ownsRow B 3 1 (.slice (some ⟨w.heap.size,0,none⟩) 1 1) 1 [.int .i64 d] :=
 ⟨rfl,.inr ⟨w.heap.size,1,#[.int .i64 d],rfl,hB,heap_alloc_new w _,Nat.le_refl _,by decide,rfl,rfl⟩⟩
theorem zcu{rb:Nat}(n:Nat)(w:World)(l:List Tk)(h:RAt rb w l)(hn:l.length≤n)(Yr:n≤100000) :
 Calls Tryz.prog 134 #[.pointer (some ⟨rb,0,none⟩)] w (zaf (VDs w.heap.size) rb w (zb9 n l)):=by
 have hfld:=zco;obtain⟨i0,hi,ZE,ZO,ZA⟩:=info_parts z4j;have HI0:=Z9 hi;have HI1:=Z9 ZE;have HI2:=Z9 ZO;have HI3:=Z9 ZA;have HOF:=Z9 (fun W l (hW:RAt rb W l)=>zf6 rb 4 W l hW);have HIS:=Z9 (fun W l (hW:RAt rb W l)=>zjg rb 5 ⟨#[44]⟩ W l hW);have HR:=Z9 h;have HN:=Z9 hn;have HN2:=Z9 Yr;have Z1:=h.lt;obtain⟨GR,ZX⟩:∃GR,GR=zb9 n l:=⟨_,rfl⟩
 rw[←ZX];have HGR:=Z9 ZX;clear h hn ZX hi ZE ZO ZA Yr;go_enter Tryz.func134,Tryz.ntmps134;go_wp2_with fail;refine(HOF.out _ l HR.out).mono ?_
 cases hq:tOf 4 l with
 |no lq =>
  rintro e u ⟨rfl,hr,hg⟩;exact⟨rfl,zal (l:=lq) (by rw[HGR.out];unfold zb9;rw[hq];rfl) ⟨rfl,hr,hg⟩⟩
 |ok t l1 =>
  rintro e u ⟨v,rfl,rfl,hr,hg⟩;have X9:=(zdu 4 l).lt hq
  have hG1:GR=(zfr n l1).bind fun ds l=>.ok ([t.date] ++ ds) l:=by rw[HGR.out];unfold zb9;rw[hq];rfl
  have ZS:=hg.size;have HRow:=Z9 (zxm u w.heap.size ZS t.date);have Xy:=Z9 (hr.below (zaa u (.cells #[.int .i64 t.date] 3)));have HG1:=Z9 (Lib.grownBy_allocR hg (.cells #[.int .i64 t.date] 3));have HE1:=Z9 hG1;have HL1:=Z9 X9;clear hr hg hG1 X9 hq;go_wp2_with fail;go_loopg [3] l1.length (fun k v wr=>∃(ds:List Int)(l':List Tk)(c:Nat),l'.length=k∧k<c∧ds.length+k≤n+1∧Hid (wr.ownsRow w.heap.size 3 1 v ds.length (ds.map fun d=>.int .i64 d))∧Hid (RAt rb wr l')∧Hid (w.grownBy wr (some rb))∧Hid (GR=(zfr c l').bind fun es l=>.ok (ds ++ es) l))
  case atStart=>exact⟨[t.date],l1,n,rfl,by have:=HL1.out;have:=HN.out;omega,by have:=HL1.out;have:=HN.out;simp;omega,HRow,Xy,HG1,HE1⟩
  case round =>
   obtain⟨w1,rfl⟩:∃w1:World,w1=wr:=⟨_,rfl⟩
   obtain⟨ds,l',c,Ss,Ur,SS,Xz,Yc,WF,HE⟩:=hrel;clear HRow Xy HG1 HE1;go_wp2_with fail;refine(HIS.out _ l' Yc.out).mono ?_;change ∀e u',BelB w1 (tIs 5 [44] l') e u'→_
   cases hs:tIs 5 [44] l' with
   |true =>
    obtain⟨t2,r,rfl⟩:=zb7 hs;rintro e y2 ⟨rfl,hb⟩;obtain⟨c',rfl⟩:∃c',c=c'+1:=⟨c-1,by omega⟩
    have XO:GR=(tOf 4 r).bind fun t l=>(zfr c' l).bind fun es l=>.ok (ds ++ (t.date :: es)) l:=by
     rw[HE.out]
     show((if tIs 5 [44] (t2 :: r)=true then _ else _:Rd (List Int)).bind _)=_
     rw[hs,if_pos rfl];rw[Rd.bind_assoc]
     congr 1
     funext t l
     rw[Rd.bind_assoc];rfl
    have HE2:=Z9 XO;have Yy:=Z9 (Yc.out.below hb);have HG2:=Z9 (Lib.grownBy_trans WF.out (zaq (rb:=rb) (zae hb)));have HW2:=Z9 (Xz.out.kept (row:=none) ⟨hb.os,hb.tape,hb.output,hb.size,fun i hi _=>hb.block i hi⟩ (by cases u3.ownBlock<;>simp));clear hb hs XO;go_wp2_with fail;refine(zaz rb _ t2 r Yy.out).mono ?_;rintro e y3 ⟨v3,rfl,rfl,hr,hg⟩;have HR3:=Z9 hr;have HG3:=Z9 (Lib.grownBy_trans HG2.out hg)
    have hvb:∀q,u3.ownBlock=some q→w.heap.size≤q:=fun q e=>(HW2.out.lt q e).1
    have HVB:=Z9 hvb
    have VB:=Z9 (HW2.out.kept hg (by
     cases hv:u3.ownBlock with
     |none=>exact .inl rfl
     |some q=>exact .inr (fun e=>by injection e with e;have:=hvb q hv;omega)))
    clear hr hg hvb;go_wp2_with fail;refine(HOF.out _ r HR3.out).mono ?_
    cases U1:tOf 4 r with
    |no lq =>
     rintro e y4 ⟨rfl,hr,hg⟩;exact⟨rfl,zal (l:=lq) (by rw[HE2.out,U1];rfl) ⟨rfl,hr,Lib.grownBy_trans HG3.out hg⟩⟩
    |ok t4 l4 =>
     rintro e y4 ⟨v4,rfl,rfl,hr,hg⟩;have HL4:=Z9 ((zdu 4 r).lt U1)
     have HE4:Hid (GR=(zfr c' l4).bind fun es l=>.ok ((ds ++ [t4.date]) ++ es) l):=Z9 (by
      rw[HE2.out,U1]
      show(zfr c' l4).bind _=_
      congr 1
      funext es l
      rw[List.append_assoc];rfl)
     have Vv:y4.ownsRow w.heap.size 3 1 u3 ds.length (ds.map fun d=>.int .i64 d):=VB.out.kept hg (by
      cases hv:u3.ownBlock with
      |none=>exact .inl rfl
      |some q=>exact .inr (fun e=>by injection e with e;have:=HVB.out q hv;omega))
     have hsz4:=(Lib.grownBy_trans HG3.out hg).size;have HOA:=Z9 (Vv.alloc (.cells #[.int .i64 t4.date] 3));have HR4:=Z9 (hr.below (zaa y4 (.cells #[.int .i64 t4.date] 3)));have HG4:=Z9 (Lib.grownBy_allocR (Lib.grownBy_trans HG3.out hg) (.cells #[.int .i64 t4.date] 3));have HNC:=Z9 (Boxed.cell (Boxed.new y4 3 (.int .i64 t4.date)));have HSZ:Hid (w.heap.size≤(y4.alloc (.cells #[.int .i64 t4.date] 3)).heap.size):=Z9 (by rw[World.size_alloc];omega);have HDN:=Z9 SS;clear hr hg Vv U1;go_wp2_with (at_builtin;refine zay _ rfl (.tmp 12) (.tmp 16) 37 rfl w.heap.size 3 i0 (.int .i64 0) 8 Tryz.underlying37 HI0.out HI1.out HI2.out HI3.out rfl _ _ _ rfl HOA.out ⟨y4.heap.size,0,none⟩ 1 (.int .i64 t4.date) rfl ?c1 rfl ?c3 ?c4 ?c5 ?_)
     case c1=>exact HNC.out
     case c3=>have:=HDN.out;have:=HN2.out;unfold maxLen;omega
     case c4=>have:=HDN.out;have:=HN2.out;omega
     case c5=>exact HSZ.out
     intro v' w5 ZL Za Z0 hwh;have HOW5:=Z9 ZL;have HR5:=Z9 (HR4.out.grown Za (fun q e=>by have:=HVB.out q e;omega))
     have HG5:Hid (w.grownBy w5 (some rb)):=Z9 ⟨Za.os.trans HG4.out.os,Za.tape.trans HG4.out.tape,Za.output.trans HG4.out.output,Nat.le_trans HG4.out.size Za.size,fun j hj hn=>by
      rw[Za.block j (Nat.lt_of_lt_of_le hj HG4.out.size) (fun e=>by have:=HVB.out j e.symm;omega)]
      exact HG4.out.block j hj hn⟩
     clear ZL Za Z0 hwh;go_wp2_with fail;go_roundg l4.length
     case measure=>have:=HL4.out;rw[List.length_cons]at Ss;omega
     case rel=>exact⟨ds ++ [t4.date],l4,c',rfl,by have:=HL4.out;rw[List.length_cons]at Ss;omega,by have:=HL4.out;rw[List.length_cons]at Ss;simp;omega,by rw[List.length_append,List.map_append];exact HOW5,HR5,HG5,HE4⟩
   |false =>
    rintro e y2 ⟨rfl,hb⟩;obtain⟨c',rfl⟩:∃c',c=c'+1:=⟨c-1,by omega⟩
    have HE2:Hid (GR=.ok ds l'):=Z9 (by
     rw[HE.out]
     show((if tIs 5 [44] l'=true then _ else _:Rd (List Int)).bind _)=_
     rw[hs,if_neg (by decide)]
     show Rd.ok (ds ++ []) l'=_
     rw[List.append_nil])
    have Yy:=Z9 (Yc.out.below hb);have HG2:=Z9 (Lib.grownBy_trans WF.out (zaq (rb:=rb) (zae hb)));have HW2:=Z9 (Xz.out.kept (row:=none) ⟨hb.os,hb.tape,hb.output,hb.size,fun i hi _=>hb.block i hi⟩ (by cases u3.ownBlock<;>simp));clear hb hs;go_wp2_with fail;go_ret;exact zbl HE2.out ⟨_,rfl,zr1 HW2.out,Yy.out,HG2.out⟩
end Go.Proofs.YtkobkpepgdddeaaGreatDoor
