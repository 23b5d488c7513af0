/-
  The reference's division. No condition.
-/
import Derived.Test.YtkobkpepgdddeaaGreatDoorYaa
import Derived.Deep.OwnRows
import Derived.Deep.LoopGhost
import Derived.Deep.DeepCutAuto
import Derived.IntWalk
import Derived.RegionTactic
import Derived.Outline
namespace Go.Proofs.YtkobkpepgdddeaaGreatDoor
open Go.RowKit
set_option maxHeartbeats 16000000
set_option maxRecDepth 100000
theorem zqd(g o n:Nat):(⟨g,o,none⟩:Addr).add n=⟨g,o+n,none⟩:=by
 unfold Addr.add
 split
 ·rename_i h;subst h;rfl
 ·rfl
theorem zg3(k:IntKind)(l:List Nat)(i x:Nat):(nums k l).set i (.int k (x:Int))=nums k (l.set i x):=by simp[nums,List.map_set]
theorem zgq:(Tryz.prog.info? 247).map (fun i=>(i.zero,i.size,i.bytes))=some (some (.int .u32 0),1,4):=by kernel_rfl
theorem zjf{w:World}{B e:Nat}{a:Option Addr}{n c k:Nat}{xs:List Value}(h:w.ownsRow B e 1 (.slice a n c) n xs)(hk:k≤n):w.ownsRow B e 1 (.slice a k c) k (xs.take k):=by
 obtain⟨h1,h2⟩:=h;refine⟨by rw[List.length_take];omega,?_⟩
 rcases h2 with⟨h,_⟩ |⟨g,cap,cur,h,hb,hg,T2,Wn,YG,Vy⟩
 ·injection h with e1 e2 e3
  subst e1 e2 e3;exact .inl ⟨by rw[show k=0 by omega],by omega⟩
 ·injection h with e1 _ e3
  subst e1 e3;refine .inr ⟨g,c,cur,rfl,hb,hg,by omega,Wn,YG,?_⟩;rw[←Vy,List.take_take]
  congr 1;omega
theorem zyq(k:IntKind)(l:List Nat)(n:Nat):(nums k l).take n=nums k (l.take n):=by simp[nums,List.map_take]
def zt3(w:World)(a:Option Addr)(n c:Nat)(l:List Nat)(e:Ending)(w':World):Prop :=
 (∃k,k≤n∧e=.returned (.slice a k c)∧Rep (l.take k) (val l))∧w=w'
def ydz(a:Option Addr)(n c:Nat)(l:List Nat)(v:Value):Prop:=∃k:Nat,k≤n∧v=.slice a k c∧val (l.take k)=val l
theorem zjr(a:Option Addr)(n c:Nat)(l:List Nat)(w:World)(hl:l.length=n)(hn:n≤1000000)(hc:n≤c)(d:∀x ∈ l,x<Bs)(ha:Nums .u32 w a l) :
 Calls Tryz.prog 248 #[.slice a n c] w (zt3 w a n c l):=by
 have HL:=Z9 hl;have HA:=Z9 ha;have HD:=Z9 d;clear hl ha d;go_enter Tryz.func248,Tryz.ntmps248;go_wp2_with fail;go_loop [0] (ydz a n c l) (fun v=>match v with | .slice _ k _=>k |_=>0)
 case atStart=>exact⟨n,Nat.le_refl _,rfl,by rw[List.take_of_length_le (by have:=HL.out;omega)]⟩
 case round =>
  obtain⟨k,hk,rfl,hv⟩:=hrel;have HV:=Z9 hv;clear hv
  by_cases YL:1≤k
  ·obtain⟨j,rfl⟩:∃j,k=j+1:=⟨k-1,by omega⟩
   obtain⟨g,o,rfl,hg,VX⟩:=HA.out j (by have:=HL.out;omega);obtain⟨y,hy⟩:∃y,y=l.getD j 0:=⟨_,rfl⟩
   rw[←hy]at VX
   by_cases Zc:y=0
   ·have Yr:=zwp l j (by rw[←hy];exact Zc)
    have t1:((y:Int) == 0)=true:=by rw[beq_iff_eq];omega
    have HN:=Z9 (Yr.symm.trans HV.out);clear Yr hy Zc;go_wp2_with fail;go_round
    case rel=>exact⟨j,by omega,rfl,HN.out⟩
    case measure=>simp
   ·have hr:=zsm l (j+1) HD.out (by have:=HL.out;omega) (.inr (by rw[Nat.add_sub_cancel,←hy];exact Zc)) HV.out
    have t1:((y:Int) == 0)=false:=by rw[beq_eq_false_iff_ne];omega
    have HR:=Z9 hr;clear hr hy Zc;go_wp2_with fail;go_ret;exact⟨⟨j+1,hk,rfl,HR.out⟩,rfl⟩
  ·obtain rfl:k=0:=by omega
   have hr:=Z9 (zsm l 0 HD.out (Nat.zero_le _) (.inl rfl) HV.out);go_wp2_with fail;go_ret;exact⟨⟨0,Nat.zero_le _,rfl,hr.out⟩,rfl⟩
theorem zgs{a b:List Nat}{i:Nat}(hl:a.length=b.length)(h:∀j,i≤j→a.getD j 0=b.getD j 0):a.drop i=b.drop i:=by
 apply List.ext_getElem
 ·simp[hl]
 ·intro j h1 h2
  rw[List.length_drop]at h1 h2;have:=h (i+j) (by omega);rw[List.getD_eq_getElem?_getD,List.getD_eq_getElem?_getD,List.getElem?_eq_getElem (by omega),List.getElem?_eq_getElem (by omega)]at this;simpa using this
def CmR(la lb:List Nat)(n:Nat)(i:Value):Prop:=∃k:Int,-1≤k∧k<n∧i=.int .i64 k∧∀j:Nat,k<j→la.getD j 0=lb.getD j 0
theorem z32(a b:Option Addr)(n m c d:Nat)(w:World)(hn:n≤1000000)(hm:m≤1000000)(h:n≠m) :
 Calls Tryz.prog 246 #[.slice a n c,.slice b m d] w fun e w'=>e=.returned (.int .i64 (cmpN n m))∧∃q,w'=w.drewN q:=by
 rcases Nat.lt_or_ge n m with h1 |h1
 ·have t1:((n:Int) != (m:Int))=true:=by rw[bne_iff_ne];omega
  have HC:=Z9 (zi8 h1);have HN:=Z9 h;clear h;go_enter Tryz.func246,Tryz.ntmps246;go_wp2_with fail
  all_goals
   go_ret;exact⟨zaw (by rw[HC.out]),0,rfl⟩
 ·have h2:m<n:=by omega
  have t1:((n:Int) != (m:Int))=true:=by rw[bne_iff_ne];omega
  have HC:=Z9 (zhx h2);have HN:=Z9 h;clear h;go_enter Tryz.func246,Tryz.ntmps246;go_wp2_with fail
  all_goals
   go_ret;exact⟨zaw (by rw[HC.out]),0,rfl⟩
theorem zy3(a b:Option Addr)(n c d:Nat)(la lb:List Nat)(w:World)(Zs:la.length=n)(ZH:lb.length=n)(hn:n≤1000000)
 (da:∀x ∈ la,x<Bs) (db:∀x ∈ lb,x<Bs) (ha:Nums .u32 w a la) (hb:Nums .u32 w b lb) :
 Calls Tryz.prog 246 #[.slice a n c,.slice b n d] w fun e w'=>e=.returned (.int .i64 (cmpN (val la) (val lb)))∧∃q,w'=w.drewN q:=by
 have ZD:=Z9 Zs;have Zg:=Z9 ZH;have HA:=Z9 ha;have HB:=Z9 hb;have DA:=Z9 da;have DB:=Z9 db;clear Zs ZH ha hb da db;go_enter Tryz.func246,Tryz.ntmps246;go_wp2_with fail;go_loopw [5] (fun i wr=>CmR la lb n i∧∃q,wr=w.drewN q) (fun i _=>(intOf i+1).toNat)
 case atStart=>exact⟨⟨(n:Int)-1,by omega,by omega,rfl,fun j hj=>by rw[zha (by have:=ZD.out;omega),zha (by have:=Zg.out;omega)]⟩,0,rfl⟩
 case round =>
  obtain⟨⟨k,Zh,Y3,rfl,he⟩,q,rfl⟩:=hrel;have HE:=Z9 he;clear he
  by_cases hk:0≤k
  ·obtain⟨j,rfl⟩:=Int.eq_ofNat_of_zero_le hk
   obtain⟨ga,oa,rfl,SY,Ye⟩:=HA.out j (by have:=ZD.out;omega);obtain⟨gb,ob,rfl,Yq,YX⟩:=HB.out j (by have:=Zg.out;omega);obtain⟨x,hx⟩:∃x,x=la.getD j 0:=⟨_,rfl⟩
   obtain⟨y,hy⟩:∃y,y=lb.getD j 0:=⟨_,rfl⟩
   rw[←hx]at Ye;rw[←hy]at YX;have HX:=Z9 hx;have HY:=Z9 hy;have Z6:la.length=lb.length:=by rw[ZD.out,Zg.out]
   have hr:(x=y→∀i:Nat,(j:Int)-1<i→la.getD i 0=lb.getD i 0)∧(y<x→cmpN (val la) (val lb)=1)∧(x<y→cmpN (val la) (val lb) = -1):=by
    refine⟨fun e=>fun i hi => ?_,fun h=>zhx (z0i lb la j Z6.symm (by have:=Zg.out;omega) DB.out (zgs Z6.symm fun i hi=>(HE.out i (by omega)).symm) (by rw[←HX.out,←HY.out];exact h)),fun h=>zi8 (z0i la lb j Z6 (by have:=ZD.out;omega) DA.out (zgs Z6 fun i hi=>HE.out i (by omega)) (by rw[←HX.out,←HY.out];exact h))⟩
    by_cases Vm:i=j
    ·rw[Vm,←HX.out,←HY.out,e]
    ·exact HE.out i (by omega)
   have HR:=Z9 hr;clear hr hx hy Z6
   rcases Nat.lt_trichotomy x y with h |h |h
   ·have t1:((x:Int) != (y:Int))=true:=by rw[bne_iff_ne];omega
    have t2:decide ((x:Int)<(y:Int))=true:=by simp;omega
    have HQ:=Z9 (HR.out.2.2 h);go_wp2_with fail;go_quiet (fail);go_wp2_with fail;go_quiet (fail);go_wp2_with fail;go_ret;exact⟨zaw HQ.out.symm,_,by rw[World.drewN_drewN,World.drewN_drewN]⟩
   ·have HQ:=Z9 (HR.out.1 h)
    have t1:((x:Int) != (y:Int))=false:=by rw[h];simp
    have HXY:=Z9 h;clear h;go_wp2_with fail;go_quiet (fail);go_wp2_with fail;go_roundw
    case rel=>exact⟨⟨(j:Int)-1,by omega,by omega,rfl,HQ.out⟩,_,rfl⟩
    case measure=>simp[intOf]<;>omega
   ·have t1:((x:Int) != (y:Int))=true:=by rw[bne_iff_ne];omega
    have t2:decide ((x:Int)<(y:Int))=false:=by simp;omega
    have HQ:=Z9 (HR.out.2.1 h);go_wp2_with fail;go_quiet (fail);go_wp2_with fail;go_quiet (fail);go_wp2_with fail;go_ret;exact⟨zaw HQ.out.symm,_,by rw[World.drewN_drewN,World.drewN_drewN]⟩
  ·have hv:val la=val lb:=by
    have:la=lb:=by
     have:=zgs (a:=la) (b:=lb) (i:=0) (by rw[ZD.out,Zg.out]) (fun j _=>HE.out j (by omega));simpa using this
    rw[this]
   have HQ:=Z9 (zn3 hv);clear hv;go_wp2_with fail;go_ret;exact⟨zaw HQ.out.symm,_,rfl⟩
theorem zj0(a b:Option Addr)(n m c d A B:Nat)(la lb:List Nat)(w:World)(Zs:la.length=n)(ZH:lb.length=m)(hn:n≤1000000)(hm:m≤1000000)
 (ra:Rep la A) (rb:Rep lb B) (ha:Nums .u32 w a la) (hb:Nums .u32 w b lb) :
 Calls Tryz.prog 246 #[.slice a n c,.slice b m d] w fun e w'=>e=.returned (.int .i64 (cmpN A B))∧∃q,w'=w.drewN q:=by
 by_cases h:n=m
 ·subst h
  have:=zy3 a b n c d la lb w Zs ZH hn ra.1 rb.1 ha hb
  rwa [ra.2.2,rb.2.2]at this
 ·have:=z32 a b n m c d w hn hm h
  have e:cmpN n m=cmpN A B:=by
   rcases Nat.lt_or_ge n m with h1 |h1
   ·rw[zi8 h1,zi8 (zmb la lb A B ra rb (by omega))]
   ·rw[zhx (by omega),zhx (zmb lb la B A rb ra (by omega))]
  rwa [e]at this
def zji(w:World)(N:Nat)(e:Ending)(w':World):Prop:=ya7 .u32 247 w (fun l=>Rep l N) e w'
theorem zeu{w:World}{B:Nat}{v:Value}{n:Nat}{l:List Nat}(h:w.ownsRow B 247 1 v n (nums .u32 l))(hn:n≤1000000)(d:∀x ∈ l,x<Bs) :
 Calls Tryz.prog 248 #[v] w fun e w'=>(∃v2 l2,e=.returned v2∧w.ownsRow B 247 1 v2 l2.length (nums .u32 l2)∧Rep l2 (val l))∧w=w':=by
 obtain⟨a,c,rfl,hl,hc,ha⟩:=zbd h
 refine(zjr a n c l w hl hn hc d ha).mono fun e w' ⟨⟨k,hk,e1,e2⟩,e3⟩=>⟨⟨_,l.take k,e1,?_,e2⟩,e3⟩
 have:=zjf h hk;rw[zyq]at this
 rwa [List.length_take,show min k l.length=k by omega]
def SubR(w:World)(la lb:List Nat)(n:Nat)(o b i:Value)(wr:World):Prop :=
 ∃(k br:Nat)(out:List Nat),k≤n∧i=.int .i64 k∧b=.int .u32 br∧wr.ownsRow w.heap.size 247 1 o k (nums .u32 out)∧zf4 la lb out k br∧Below w.heap.size w wr
def SubC(la lb out:List Nat)(k:Nat)(y:Nat)(xv bv:Value):Prop :=
 ∃x br:Nat,xv=.int .u32 x∧bv=.int .u32 br∧y≤x∧x<2000000000∧zf4 la lb (out ++ [x-y]) (k+1) br
theorem zpm(a b:Option Addr)(n m c d:Nat)(la lb:List Nat)(w:World)(Zs:la.length=n)(ZH:lb.length=m)(hn:n≤900000)(UU:m≤n)
 (da:∀x ∈ la,x<Bs) (db:∀x ∈ lb,x<Bs) (Y6:val lb≤val la) (ha:Nums .u32 w a la) (hb:Nums .u32 w b lb) :
 Calls Tryz.prog 240 #[.slice a n c,.slice b m d] w (zji w (val la-val lb)):=by
 obtain⟨i0,hi,ZE,ZO,ZA⟩:=info_parts zgq;have ZD:=Z9 Zs;have Zg:=Z9 ZH;have HA:=Z9 ha;have HB:=Z9 hb;have DA:=Z9 da;have DB:=Z9 db;have HLE:=Z9 Y6;clear Zs ZH ha hb da db Y6;go_enter Tryz.func240,Tryz.ntmps240;go_wp2_with (at_make;refine wpList_make_own _ rfl _ _ 239 rfl w.heap.size 247 i0 (.int .u32 0) 1 Tryz.underlying239 hi ZE ZO .i64 .i64 _ n rfl rfl rfl ?b2 ?b3 ?b4 ?_)
 case b2=>rw[ZA];omega
 case b3=>unfold maxLen;omega
 case b4=>exact Nat.le_refl _
 intro w1 Yn Yt;have ZN:SubR w la lb n (.slice (some ⟨w.heap.size,0,none⟩) 0 n) (.int .u32 0) (.int .i64 0) w1:=⟨0,0,[],Nat.zero_le _,rfl,rfl,Yn,zrf _ _,(Below.refl _ _).grown Yt (Nat.le_refl _) (fun k hk=>by cases hk)⟩;have HST:=Z9 ZN;clear Yn Yt ZN;go_wp2_with fail;go_loopw [5,6,15] (SubR w la lb n) (fun _ _ i _=>n-(intOf i).toNat)
 case atStart=>exact HST.out
 case round =>
  obtain⟨k,br,out,hk,rfl,rfl,ho,ZZ,ZK⟩:=hrel;have HO:=Z9 ho;have HT:=Z9 ZZ;have HBL:=Z9 ZK;clear ho ZZ ZK HST
  by_cases Z4:k<n
  ·obtain⟨x,hx⟩:∃x,x=la.getD k 0:=⟨_,rfl⟩
   obtain⟨y,hy⟩:∃y,y=lb.getD k 0:=⟨_,rfl⟩
   obtain⟨g,og,rfl,hg,hc⟩:=HA.out.below HBL.out k (by have:=ZD.out;omega);rw[←hx]at hc;have hx10:x<1000000000:=by rw[hx];exact zba la k DA.out
   have hy10:y<1000000000:=by rw[hy];exact zba lb k DB.out
   have VJ:br≤1:=HT.out.2.2.1;have HX:=Z9 hx;have HY:=Z9 hy;clear hx hy
   go_upto_if 24 with(fail)
   go_cut [9] (fun s wx=>s=.int .u32 ((br+y:Nat):Int)∧wr=wx)
   case first=>as_aux_lemma =>
    by_cases Vo:k<m
    ·obtain⟨gb,ob,rfl,Yq,YX⟩:=HB.out.below HBL.out k (by have:=Zg.out;omega)
     rw[←HY.out]at YX;go_wp2_with fail;go_meet;exact⟨by congr 1,rfl⟩
    ·have Zc:y=0:=by rw[HY.out,zha (by have:=Zg.out;omega)]
     have HY0:=Z9 Zc;clear Zc;go_wp2_with fail;go_meet;exact⟨by rw[HY0.out];rfl,rfl⟩
   case rest=>as_aux_lemma =>
    obtain⟨rfl,rfl⟩:=hcut
    have YG:(br+y≤x→SubC la lb out k (br+y) (.int .u32 x) (.int .u32 0))∧(x<br+y→SubC la lb out k (br+y) (.int .u32 ((x+1000000000:Nat):Int)) (.int .u32 1)):=by
     refine⟨fun h=>⟨x,0,rfl,rfl,h,by omega,?_⟩,fun h=>⟨x+1000000000,1,rfl,rfl,by omega,by omega,?_⟩⟩
     ·have:=zre la lb out k br DA.out HT.out (by rw[←HX.out,←HY.out];exact h)
      rwa [←HX.out,←HY.out]at this
     ·have:=zrd la lb out k br DB.out HT.out (by rw[←HX.out,←HY.out];exact h)
      rwa [←HX.out,←HY.out]at this
    have HCS:=Z9 YG;clear YG hc;obtain⟨z,hz⟩:∃z,z=br+y:=⟨_,rfl⟩
    have hz10:z≤1000000000:=by omega
    rw[←hz]at HCS ⊢;clear hz
    go_upto_if 33 with(fail)
    go_cut [6,8] (fun b x wx=>SubC la lb out k z x b∧wr=wx)
    case first=>as_aux_lemma =>
     by_cases Vc:z≤x
     ·have t1:decide ((x:Int)<(z:Int))=false:=by simp;omega
      have HQ:=Z9 (HCS.out.1 Vc);go_wp2_with fail;go_meet;exact⟨HQ.out,rfl⟩
     ·have t1:decide ((x:Int)<(z:Int))=true:=by simp;omega
      have HQ:=Z9 (HCS.out.2 (by omega));go_wp2_with fail;go_meet;exact⟨HQ.out,rfl⟩
    case rest=>as_aux_lemma =>
     obtain⟨⟨x2,b2,rfl,rfl,Sr,Zu,X6⟩,rfl⟩:=hcut;have HT2:=Z9 X6;obtain⟨r,hr⟩:∃r:Nat,(x2:Int)-(z:Int)=(r:Int)∧x2-z=r:=⟨x2-z,by omega,rfl⟩
     rw[hr.2]at HT2;have HR:=Z9 hr;clear X6 hr HCS;go_wp2_with (at_builtin;refine zay _ rfl (.tmp 36) (.tmp 40) 239 rfl w.heap.size 247 i0 (.int .u32 0) 4 Tryz.underlying239 hi ZE ZO ZA rfl _ _ _ rfl (HO.out.alloc _) ⟨wr.heap.size,0,none⟩ 1 (.int .u32 r) rfl ?c1 rfl ?c3 ?c4 ?c5 ?_)
     case c1=>simp[HR.out.1]
     case c3=>unfold maxLen;omega
     case c4=>omega
     case c5=>have:=HBL.out.size;simp;omega
     intro v1 w2 ZI Yz Ym XT;have n2:Below w.heap.size w w2:=(HBL.out.alloc HBL.out.size _).grown Yz (by have:=HBL.out.size;simp;omega) (fun k hk=>(HO.out.lt k hk).1);rw[zd0]at ZI;have HO2:=Z9 ZI;have N2:=Z9 n2;clear ZI n2 Yz Ym XT;go_wp2_with fail;go_roundw
     case rel=>exact⟨k+1,b2,out ++ [r],by omega,by go_num,rfl,HO2.out,HT2.out,N2.out⟩
     case measure=>simp[intOf]<;>omega
  ·obtain rfl:k=n:=by omega
   have hv:=zy1 la lb out br (by rw[ZD.out,Zg.out];exact UU) HLE.out (by rw[ZD.out];exact HT.out);have Y4:=zeu HO.out (by omega) HT.out.2.1;rw[hv]at Y4;have ZF:=Z9 Y4;clear hv Y4;go_wp2_with fail;refine ZF.out.mono ?_;rintro e w' ⟨⟨v2,l2,rfl,ZI,Zr⟩,rfl⟩;have HO2:=Z9 ZI;have Yy:=Z9 Zr;clear ZI Zr;go_wp2_with fail;go_ret;exact⟨_,l2,rfl,HO2.out,Yy.out,HBL.out⟩
theorem ze5(n:Nat):(madeCells #[Value.int .u32 0] n).toList=nums .u32 (List.replicate n 0):=by
 apply List.ext_getElem
 ·simp[nums,size_madeCells]
 ·intro i h1 h2
  simp[nums,madeCells,Nat.mod_one]
def MulR(w:World)(la lb:List Nat)(n N:Nat)(iv:Value)(wr:World):Prop :=
 ∃(i:Nat)(out:List Nat),i≤n∧iv=.int .i64 i∧wr.ownsRow w.heap.size 247 1 (.slice (some ⟨w.heap.size,0,none⟩) N N) N (nums .u32 out)∧zlo la lb out i∧Below w.heap.size w wr
def MulI(w:World)(la lb:List Nat)(i m N:Nat)(cv jv:Value)(wr:World):Prop :=
 ∃(j c:Nat)(out:List Nat),j≤m∧jv=.int .i64 j∧cv=.int .u64 c∧wr.ownsRow w.heap.size 247 1 (.slice (some ⟨w.heap.size,0,none⟩) N N) N (nums .u32 out)∧zln la lb out i j c∧Below w.heap.size w wr
theorem zyz{x y:Nat}(hx:x<1000000000)(hy:y<1000000000):x*y≤999999998000000001:=by
 have:x*y≤999999999*999999999:=Nat.mul_le_mul (by omega) (by omega);omega
theorem zkd(a b:Option Addr)(n m c d:Nat)(la lb:List Nat)(w:World)(Zs:la.length=n)(ZH:lb.length=m)(hn:n≤400000)(hm:m≤400000)
 (da:∀x ∈ la,x<Bs) (db:∀x ∈ lb,x<Bs) (ha:Nums .u32 w a la) (hb:Nums .u32 w b lb) :
 Calls Tryz.prog 249 #[.slice a n c,.slice b m d] w (zji w (val la*val lb)):=by
 obtain⟨i0,hi,ZE,ZO,ZA⟩:=info_parts zgq;obtain⟨N,hN⟩:∃N,N=n+m:=⟨_,rfl⟩
 have hNI:((n:Int)+(m:Int))=(N:Int):=by omega
 have HNN:=Z9 hN;have hN1:n+m≤N:=by omega
 have YQ:N≤n+m:=by omega
 have ZD:=Z9 Zs;have Zg:=Z9 ZH;have HA:=Z9 ha;have HB:=Z9 hb;have DA:=Z9 da;have DB:=Z9 db;clear Zs ZH ha hb da db hN;go_enter Tryz.func249,Tryz.ntmps249;go_wp2_with (at_make;refine wpList_make_full _ rfl _ _ 239 rfl w.heap.size 247 i0 (.int .u32 0) 1 Tryz.underlying239 hi ZE ZO .i64 .i64 _ _ N rfl rfl ?b0 ?b1 ?b2 ?b3 ?b4 ?_)
 case b0=>omega
 case b1=>omega
 case b2=>rw[ZA];omega
 case b3=>unfold maxLen;omega
 case b4=>exact Nat.le_refl _
 intro w1 Yn Yt;rw[ze5]at Yn;have ZN:MulR w la lb n N (.int .i64 0) w1:=⟨0,List.replicate N 0,Nat.zero_le _,rfl,Yn,by have:=zqo la lb;rwa [ZD.out,Zg.out,←HNN.out]at this,(Below.refl _ _).grown Yt (Nat.le_refl _) (fun k hk=>by cases hk)⟩;have HST:=Z9 ZN;clear Yn Yt ZN hNI;go_wp2_with fail;go_loopw [20] (MulR w la lb n N) (fun i _=>n-(intOf i).toNat)
 case atStart=>exact HST.out
 case round =>
  obtain⟨w2,rfl⟩:∃w2:World,w2=wr:=⟨_,rfl⟩
  obtain⟨i,out,Sk,rfl,ho,ZZ,ZK⟩:=hrel;have HO:=Z9 ho;have HT:=Z9 ZZ;have HBL:=Z9 ZK;clear ho ZZ ZK HST
  by_cases Z4:i<n
  ·obtain⟨x,hx⟩:∃x,x=la.getD i 0:=⟨_,rfl⟩
   obtain⟨g,og,rfl,hg,hc⟩:=HA.out.below HBL.out i (by have:=ZD.out;omega);rw[←hx]at hc;have hx10:x<1000000000:=by rw[hx];exact zba la i DA.out
   have HX:=Z9 hx;have ZN:MulI w la lb i m N (.int .u64 0) (.int .i64 0) w2:=⟨0,0,out,Nat.zero_le _,rfl,rfl,HO.out,zlr la lb out i HT.out,HBL.out⟩;have HST:=Z9 ZN;clear hx ZN HO HT HBL;go_wp2_with fail;go_loopw [8,27] (MulI w la lb i m N) (fun _ j _=>m-(intOf j).toNat)
   case atStart=>exact HST.out
   case round =>
    obtain⟨j,cy,out,hjm,rfl,rfl,ho,ZZ,ZK⟩:=hrel;have HO:=Z9 ho;have HT:=Z9 ZZ;have HBL:=Z9 ZK;have hcy:cy<1000000000:=ZZ.2.2.1;clear ho ZZ ZK HST
    by_cases ZR:j<m
    ·obtain⟨y,hy⟩:∃y,y=lb.getD j 0:=⟨_,rfl⟩
     obtain⟨gb,ob,rfl,Yq,YX⟩:=HB.out.below HBL.out j (by have:=Zg.out;omega);rw[←hy]at YX;have hy10:y<1000000000:=by rw[hy];exact zba lb j DB.out
     obtain⟨o,Vr⟩:∃o,o=out.getD (i+j) 0:=⟨_,rfl⟩
     have UW:o<1000000000:=by rw[Vr];exact zba out (i+j) HT.out.2.1
     have hco:wr.cell? ⟨w.heap.size,i+j,none⟩=some (.int .u32 (o:Int)):=by
      have Z6:out.length=N:=by have:=HT.out.1;rw[ZD.out,Zg.out]at this;have:=HNN.out;omega
      rw[HO.out.cellAt (i+j) (by omega),zcy _ _ _ (by omega),←Vr]
     have V0:wr.frozen? ⟨w.heap.size,i+j,none⟩=false:=HO.out.frozenAt (i+j);have hstp:=zm6 la lb out i j cy (by have:=ZD.out;omega) (by have:=Zg.out;omega) HT.out DA.out DB.out;rw[←HX.out,←hy,←Vr]at hstp;obtain⟨p,hp⟩:∃p,p=x*y:=⟨_,rfl⟩
     have hpI:(x:Int)*(y:Int)=(p:Int):=by rw[hp];simp
     have hpb:p≤999999998000000001:=by rw[hp];exact zyz hx10 hy10
     rw[←hp]at hstp;obtain⟨r,hr⟩:∃r,r=(p+o+cy) % Bs:=⟨_,rfl⟩
     obtain⟨q,hq⟩:∃q,q=(p+o+cy) / Bs:=⟨_,rfl⟩
     rw[←hr,←hq]at hstp;rw[zd5]at hr hq;have hrI:((p:Int)+(o:Int)+(cy:Int)) % 1000000000=(r:Int):=by omega
     have hqI:((p:Int)+(o:Int)+(cy:Int)) / 1000000000=(q:Int):=by omega
     have YO:r<1000000000:=by omega
     have T7:q<1000000000:=by omega
     have HSTP:=Z9 hstp;have Vm:i+j<N:=by omega
     have hji:((i:Int)+(j:Int)).toNat=i+j:=by omega
     clear hy Vr hp hr hq hstp;go_wp2_with fail;go_roundw
     case rel=>exact⟨j+1,q,out.set (i+j) r,by omega,by go_num,by rw[hqI],by rw[←zg3];exact(HO.out.stored (i+j) _).1,HSTP.out,HBL.out.setCell (p:=⟨w.heap.size,i+j,none⟩) (Nat.le_refl _) _⟩
     case measure=>simp[intOf]<;>omega
    ·obtain rfl:j=m:=by omega
     obtain⟨o,Vr⟩:∃o,o=out.getD (i+j) 0:=⟨_,rfl⟩
     have ho0:o<1:=by
      have:=HT.out.2.2.2.1 (i+j) (by rw[Zg.out];omega);omega
     have hco:wr.cell? ⟨w.heap.size,i+j,none⟩=some (.int .u32 (o:Int)):=by
      have Z6:out.length=N:=by have:=HT.out.1;rw[ZD.out,Zg.out]at this;have:=HNN.out;omega
      rw[HO.out.cellAt (i+j) (by omega),zcy _ _ _ (by omega),←Vr]
     have V0:wr.frozen? ⟨w.heap.size,i+j,none⟩=false:=HO.out.frozenAt (i+j);have Zj:=zol la lb out i cy (by have:=ZD.out;omega) (by rw[Zg.out];exact HT.out);rw[Zg.out,←Vr]at Zj;have HEND:=Z9 Zj;have Vm:i+j<N:=by omega
     have hji:((i:Int)+(j:Int)).toNat=i+j:=by omega
     clear Vr Zj;go_wp2_with fail;go_roundw
     case rel =>
      have e1:((o:Int)+(cy:Int))=((o+cy:Nat):Int):=by omega
      exact⟨i+1,out.set (i+j) (o+cy),by omega,by go_num,by rw[←zg3,←e1];exact(HO.out.stored (i+j) _).1,HEND.out,HBL.out.setCell (p:=⟨w.heap.size,i+j,none⟩) (Nat.le_refl _) _⟩
     case measure=>simp[intOf]<;>omega
  ·obtain rfl:i=n:=by omega
   have hv:=zws la lb out (by rw[ZD.out];exact HT.out);have Y4:=zeu HO.out (by omega) hv.1;rw[hv.2]at Y4;have ZF:=Z9 Y4;clear hv Y4;go_wp2_with fail;refine ZF.out.mono ?_;rintro e w' ⟨⟨v2,l2,rfl,ZI,Zr⟩,rfl⟩;have HO2:=Z9 ZI;have Yy:=Z9 Zr;clear ZI Zr;go_wp2_with fail;go_ret;exact⟨_,l2,rfl,HO2.out,Yy.out,HBL.out⟩
def z06(w:World)(V d:Nat)(e:Ending)(w':World):Prop :=
 ∃v l,e=.returned (.tuple #[v,.int .u32 ((V % d:Nat):Int)])∧w'.ownsRow w.heap.size 247 1 v l.length (nums .u32 l)∧Rep l (V / d)∧Below w.heap.size w w'
def ShR(w:World)(la:List Nat)(d n:Nat)(rv iv:Value)(wr:World):Prop :=
 ∃(i rest:Nat)(q:List Nat),i≤n∧iv=.int .i64 ((i:Int)-1)∧rv=.int .u64 rest∧wr.ownsRow w.heap.size 247 1 (.slice (some ⟨w.heap.size,0,none⟩) n n) n (nums .u32 q)∧zlp la q d i rest∧Below w.heap.size w wr
theorem zoy(a:Option Addr)(n c d:Nat)(la:List Nat)(w:World)(Zs:la.length=n)(hn:n≤900000)(Xn:1≤d)(Wo:d≤1000000000)
 (da:∀x ∈ la,x<Bs) (ha:Nums .u32 w a la) :
 Calls Tryz.prog 247 #[.slice a n c,.int .u32 d] w (z06 w (val la) d):=by
 obtain⟨i0,hi,ZE,ZO,ZA⟩:=info_parts zgq;have ZD:=Z9 Zs;have HA:=Z9 ha;have DA:=Z9 da;clear Zs ha da;go_enter Tryz.func247,Tryz.ntmps247;go_wp2_with (at_make;refine wpList_make_full _ rfl _ _ 239 rfl w.heap.size 247 i0 (.int .u32 0) 1 Tryz.underlying239 hi ZE ZO .i64 .i64 _ _ n rfl rfl ?b0 ?b1 ?b2 ?b3 ?b4 ?_)
 case b0=>rfl
 case b1=>rfl
 case b2=>rw[ZA];omega
 case b3=>unfold maxLen;omega
 case b4=>exact Nat.le_refl _
 intro w1 Yn Yt;rw[ze5]at Yn;have ZN:ShR w la d n (.int .u64 0) (.int .i64 ((n:Int)-1)) w1:=⟨n,0,List.replicate n 0,Nat.le_refl _,rfl,rfl,Yn,by have:=zq0 la d Xn;rwa [ZD.out]at this,(Below.refl _ _).grown Yt (Nat.le_refl _) (fun k hk=>by cases hk)⟩;have HST:=Z9 ZN;clear Yn Yt ZN;go_wp2_with fail;go_loopw [6,7] (ShR w la d n) (fun _ i _=>(intOf i+1).toNat)
 case atStart=>exact HST.out
 case round =>
  obtain⟨i,rest,q,Sk,rfl,rfl,ho,ZZ,ZK⟩:=hrel;have HO:=Z9 ho;have HT:=Z9 ZZ;have HBL:=Z9 ZK;clear ho ZZ ZK HST
  by_cases S1:1≤i
  ·obtain⟨k,rfl⟩:∃k,i=k+1:=⟨i-1,by omega⟩
   rw[show(((k+1:Nat):Int)-1)=(k:Int)by omega];obtain⟨x,hx⟩:∃x,x=la.getD k 0:=⟨_,rfl⟩
   obtain⟨g,og,rfl,hg,hc⟩:=HA.out.below HBL.out k (by have:=ZD.out;omega);rw[←hx]at hc;have hx10:x<1000000000:=by rw[hx];exact zba la k DA.out
   have hrd:rest<d:=HT.out.2.2.1;have hstp:=zum la q d k rest (by have:=ZD.out;omega) DA.out HT.out;rw[←hx,zd5]at hstp;obtain⟨vv,Xx⟩:∃vv,vv=rest*1000000000+x:=⟨_,rfl⟩
   rw[←Xx]at hstp;have hvI:((rest:Int)*1000000000+(x:Int))=(vv:Int):=by omega
   have hvb:vv<1000000000*d:=by omega
   obtain⟨qq,S8⟩:∃qq,qq=vv / d:=⟨_,rfl⟩
   obtain⟨rr,Ta⟩:∃rr,rr=vv % d:=⟨_,rfl⟩
   rw[←S8,←Ta]at hstp;have T7:qq<1000000000:=by rw[S8];exact Nat.div_lt_of_lt_mul (by rw[Nat.mul_comm];exact hvb)
   have YO:rr<d:=by rw[Ta];exact Nat.mod_lt _ Xn
   have hqI:(vv:Int) / (d:Int)=(qq:Int):=by rw[S8];simp
   have hrI:(vv:Int) % (d:Int)=(rr:Int):=by rw[Ta];simp
   have HQI:=Z9 hqI;have HRI:=Z9 hrI;have HVI:=Z9 hvI;have HSTP:=Z9 hstp;have hv18:vv<1000000000000000000:=by omega
   have wd:IntKind.u64.wrap (d:Int)=(d:Int):=IntWalk.u64_in _ (by omega);have wd0:((d:Int)=0)=False:=by simp;omega
   have wq:IntKind.u64.wrap ((vv:Int) / (d:Int))=(qq:Int):=by rw[HQI.out];exact IntWalk.u64_in _ (by omega)
   have wr1:IntKind.u64.wrap ((vv:Int) % (d:Int))=(rr:Int):=by rw[HRI.out];exact IntWalk.u64_in _ (by omega)
   have w32:IntKind.u32.wrap (qq:Int)=(qq:Int):=IntWalk.u32_in _ (by omega);have V0:wr.frozen? ⟨w.heap.size,k,none⟩=false:=HO.out.frozenAt k
   obtain⟨yo,Xi⟩:∃yo:Nat,wr.cell? ⟨w.heap.size,k,none⟩=some (.int .u32 (yo:Int)):=by
    have Z6:q.length=n:=by rw[HT.out.1,ZD.out]
    exact⟨_,by rw[HO.out.cellAt k (by omega),zcy _ _ _ (by omega)]⟩
   clear hx Xx S8 Ta hqI hrI hvI hstp hvb
   go_upto_region 7 with(fail)
   rw[HVI.out];go_region
   all_goals
    clear wd wd0 wq wr1 w32 Xi V0;go_wp2_with fail;go_roundw
    case rel=>exact⟨k,rr,q.set k qq,by omega,rfl,by rw[HRI.out],by rw[←zg3];exact(HO.out.stored k _).1,HSTP.out,(HBL.out.setCell (p:=⟨w.heap.size,k,none⟩) (Nat.le_refl _) _).drew⟩
    case measure=>simp[intOf]<;>omega
  ·obtain rfl:i=0:=by omega
   have hv:=zxe la q d rest HT.out;have Y4:=zeu HO.out (by omega) HT.out.2.1;rw[hv.1]at Y4;have ZF:=Z9 Y4;have Y5:=hv.2;have hrd:rest<d:=HT.out.2.2.1;have HRS:=Z9 Y5;clear hv Y4 Y5;go_wp2_with fail;refine ZF.out.mono ?_;rintro e w' ⟨⟨v2,l2,rfl,ZI,Zr⟩,rfl⟩;have HO2:=Z9 ZI;have Yy:=Z9 Zr;clear ZI Zr;go_wp2_with fail;go_ret2;exact⟨_,l2,by rw[←HRS.out];rfl,HO2.out,Yy.out,HBL.out⟩
def GsR(t u v y z:Nat)(qv rv:Value):Prop:=∃q r:Nat,qv=.int .u64 q∧rv=.int .u64 r∧t*Bs+u=q*y+r∧gss t u v y z≤q∧q≤2000000000∧r<1000000000
theorem zzq(t u v y z:Nat)(w:World)(ht:t≤y)(hu:u<1000000000)(hv:v<1000000000)(hz:z<1000000000)(XF:1≤y)(Yb:y<1000000000) :
 Calls Tryz.prog 250 #[.int .u64 t,.int .u64 u,.int .u64 v,.int .u64 y,.int .u64 z] w fun e w'=>e=.returned (.int .u64 (gss t u v y z:Nat))∧∃q,w'=w.drewN q:=by
 obtain⟨top,Zf⟩:∃top,top=t*Bs+u:=⟨_,rfl⟩
 have e0:=Zf;rw[zd5]at e0;have hI:((t:Int)*1000000000+(u:Int))=(top:Int):=by omega
 have htb:top<1000000000000000000:=by omega
 obtain⟨q0,S7⟩:∃q,q=top / y:=⟨_,rfl⟩
 obtain⟨r0,S9⟩:∃r,r=top % y:=⟨_,rfl⟩
 have hqI:(top:Int) / (y:Int)=(q0:Int):=by rw[S7];simp
 have hrI:(top:Int) % (y:Int)=(r0:Int):=by rw[S9];simp
 have Y2:=zro (t:=t) (u:=u) (v:=v) (y:=y) (z:=z) XF hv;have Zv:=zrq (t:=t) (u:=u) (y:=y) XF ht hu;rw[←Zf,←S7]at Y2 Zv;have Zp:q0≤2000000000:=by have:=zd5;omega
 have Zr:r0<y:=by rw[S9];exact Nat.mod_lt _ XF
 have ZN:GsR t u v y z (.int .u64 q0) (.int .u64 r0):=⟨q0,r0,rfl,rfl,by rw[←Zf,S7,S9,Nat.mul_comm];exact(Nat.div_add_mod top y).symm,Y2,Zp,by omega⟩;have HST:=Z9 ZN;have HI:=Z9 hI;have wq:IntKind.u64.wrap ((top:Int) / (y:Int))=(q0:Int):=by rw[hqI];exact IntWalk.u64_in _ (by omega)
 have wr1:IntKind.u64.wrap ((top:Int) % (y:Int))=(r0:Int):=by rw[hrI];exact IntWalk.u64_in _ (by omega)
 have wy0:((y:Int)=0)=False:=by simp;omega
 have HRI:=Z9 hrI;have WQ:=Z9 wq;have WR:=Z9 wr1;have WY:=Z9 wy0;clear Zf e0 S7 S9 hqI hrI Y2 Zv ZN hI wq wr1 wy0;go_enter Tryz.func250,Tryz.ntmps250
 go_upto_region 2 with(fail)
 rw[HI.out];have wq:=WQ.out;have wr1:=WR.out;have wy0:=WY.out;go_quiet (fail);clear wq wr1 wy0 htb Zp Zr;go_wp2_with fail;rw[HRI.out];obtain⟨W0,Z7⟩:∃W0,W0=w.drewN nq:=⟨_,rfl⟩
 rw[←Z7];have HW0:=Z9 Z7;clear Z7;go_loop [12,13] (fun qv rv=>GsR t u v y z qv rv) (fun qv _=>(intOf qv).toNat)
 case atStart=>exact HST.out
 case round =>
  obtain⟨q,r,rfl,rfl,Zf,UP,Zp,Zr⟩:=hrel;have HTOP:=Z9 Zf;have HGE:=Z9 UP;obtain⟨P,hP⟩:∃P,P=q*z:=⟨_,rfl⟩
  have hPI:(q:Int)*(z:Int)=(P:Int):=by rw[hP];simp
  obtain⟨B,hB⟩:∃B:Bool,B=decide (1000000000≤q∨r*1000000000+v<P):=⟨_,rfl⟩
  have HP:=Z9 hP;have HB:=Z9 hB;clear hP hB Zf UP HST
  go_upto_region 3 with(fail)
  go_cut [35] (fun s wx=>s=.bool B∧W0=wx)
  case first=>as_aux_lemma =>
   by_cases hq:1000000000≤q
   ·have e:B=true:=by rw[HB.out];simp;omega
    have E:=Z9 e;have tq:decide ((1000000000:Int)≤(q:Int))=true:=by simp;omega
    have HQQ:=Z9 hq;clear e hq;go_wp2_with fail;go_meet;exact⟨by rw[E.out],rfl⟩
   ·have hPb:P<1000000000000000000:=by
     rw[HP.out];have:q*z≤999999999*999999999:=Nat.mul_le_mul (by omega) (by omega);omega
    have tq:decide ((1000000000:Int)≤(q:Int))=false:=by simp;omega
    by_cases hp:r*1000000000+v<P
    ·have e:B=true:=by rw[HB.out];simp;omega
     have E:=Z9 e;have t1:decide ((r:Int)*1000000000+(v:Int)<(P:Int))=true:=by simp;omega
     have HQQ:=Z9 hq;have HPP:=Z9 hp;clear e hq hp;go_wp2_with fail;go_meet;exact⟨by rw[E.out],rfl⟩
    ·have e:B=false:=by rw[HB.out];simp;omega
     have E:=Z9 e;have t1:decide ((r:Int)*1000000000+(v:Int)<(P:Int))=false:=by simp;omega
     have HQQ:=Z9 hq;have HPP:=Z9 hp;clear e hq hp;go_wp2_with fail;go_meet;exact⟨by rw[E.out],rfl⟩
  case rest=>as_aux_lemma =>
   obtain⟨rfl,rfl⟩:=hcut;clear hPI
   cases B with
   |true =>
    have hc:1000000000≤q∨r*1000000000+v<P:=by have:=HB.out;simpa using this.symm
    have hd:=zvc HTOP.out (by rw[zd5,←HP.out];exact hc);obtain⟨p,rfl⟩:∃p,q=p+1:=⟨q-1,by omega⟩
    have htop2:t*Bs+u=p*y+(r+y):=by rw[HTOP.out,Nat.add_mul];omega
    have HT2:=Z9 htop2;have HD:=Z9 hd;have T5:((p+1:Nat):Int)=(p:Int)+1:=by omega
    rw[T5];clear hc hd htop2 T5
    by_cases VJ:1000000000≤r+y
    ·have UN:=Nat.le_antisymm (Nat.le_of_lt_succ HD.out) (zrp (t:=t) (u:=u) (v:=v) (y:=y) (z:=z) XF ht hu hz HT2.out (by rw[zd5];exact VJ))
     have HQ:=Z9 UN;have tb:decide ((1000000000:Int)≤(r:Int)+(y:Int))=true:=by simp;omega
     clear UN VJ;go_wp2_with fail;go_ret;exact⟨by rw[HQ.out];rfl,nq,HW0.out⟩
    ·have tb:decide ((1000000000:Int)≤(r:Int)+(y:Int))=false:=by simp;omega
     have HBR:=Z9 VJ;clear VJ;go_wp2_with fail;go_round
     case rel=>exact⟨p,r+y,rfl,by congr 1,HT2.out,Nat.le_of_lt_succ HD.out,by omega,by have:=HBR.out;omega⟩
     case measure=>simp[intOf]<;>omega
   |false =>
    have hc:¬(1000000000≤q∨r*1000000000+v<P):=by have:=HB.out;simpa using this.symm
    have UN:=Nat.le_antisymm HGE.out (ztl (t:=t) (u:=u) (v:=v) (y:=y) (z:=z) XF HTOP.out (by rw[zd5];omega) (by rw[zd5,←HP.out];omega));have HQ:=Z9 UN;clear hc UN;go_wp2_with fail;go_ret;exact⟨by rw[HQ.out];rfl,nq,HW0.out⟩
theorem z63(l:List Nat)(N:Nat)(h:Rep l N)(Z0:l≠[]):Bs ^ (l.length-1)≤N:=by
 obtain⟨h1,h2,h3⟩:=h;obtain⟨m,x,rfl⟩:∃m x,l=m ++ [x]:=⟨l.dropLast,l.getLast Z0,(List.dropLast_concat_getLast Z0).symm⟩
 rw[List.getLast?_concat]at h2;rw[zdb]at h3
 have hx:1≤x:=by
  rcases Nat.eq_zero_or_pos x with rfl |h
  ·exact absurd rfl h2
  ·exact h
 have:=Nat.mul_le_mul_left (Bs ^ m.length) hx;simp;omega
theorem zkn(l:List Nat)(N:Nat)(h:Rep l N):N<Bs ^ l.length:=by rw[←h.2.2];exact zl2 l h.1
theorem z1d:1<Bs:=by decide
theorem zcf(l:List Nat)(N k:Nat)(h:Rep l N)(hk:N<Bs ^ k):l.length≤k:=by
 by_cases Z0:l=[]
 ·rw[Z0];simp
 ·have h1:=z63 l N h Z0
  have h2:=(Nat.pow_lt_pow_iff_right z1d).1 (Nat.lt_of_le_of_lt h1 hk);omega
theorem zkm(l:List Nat)(N n:Nat)(h:Rep l N)(hn:l.length=n+1):0<l.getD n 0:=by
 have h2:=h.2.1;rw[List.getLast?_eq_getElem?,hn,Nat.add_sub_cancel,List.getElem?_eq_getElem (by omega)]at h2;rw[List.getD_eq_getElem?_getD,List.getElem?_eq_getElem (by omega)];simp at h2 ⊢;omega
theorem z8r:Rep [] 0:=⟨by simp,by simp,rfl⟩
theorem zxk(b v:List Nat)(B s n:Nat)(hb:Rep b B)(hn:b.length=n+1)(hs:s=Bs / (b.getD n 0+1))(hv:Rep v (B*s)):v.length=n+1∧1≤s∧s<Bs:=by
 have Zf:=zkm b B n hb hn;have Z0:b≠[]:=by intro h;rw[h]at hn;cases hn
 obtain⟨h1,h2,h3⟩:=zsz (s:=s) b hb.1 Z0 (by rw[hn];exact hs);rw[hb.2.2,hn]at h3;have h4:=zcf v _ _ hv h3;have h5:b.length≤v.length:=zfe v b (B*s) B hv hb (Nat.le_mul_of_pos_right _ h1);refine⟨by omega,h1,?_⟩;rw[hs];have:Bs / (b.getD n 0+1)≤Bs / 2:=Nat.div_le_div_left (by omega) (by omega);have:=zd5;omega
theorem zu3(b u0:List Nat)(A B s na nb:Nat)(hA:A<Bs ^ na)(hb:Rep b B)(Zo:b.length=nb+1)(hs:1≤s)(hu:val u0=A*s)(Wa:u0.length=na+1)(Y6:nb+1≤na) :
 val (u0.drop (u0.length-(nb+1)))<B*s:=by
 refine yaj u0 _ _ (by omega) ?_;have Z0:b≠[]:=by intro h;rw[h]at Zo;cases Zo
 have h1:=z63 b B hb Z0;rw[Zo,Nat.add_sub_cancel]at h1;rw[hu,Wa,show na+1-(nb+1)=na-nb by omega];have h2:Bs ^ na=Bs ^ (na-nb)*Bs ^ nb:=by rw[←Nat.pow_add];congr 1;omega
 have h3:=Nat.mul_le_mul_left (Bs ^ (na-nb)) h1;have h4:A<Bs ^ (na-nb)*B:=by rw[←h2]at h3;omega
 have h5:=(Nat.mul_lt_mul_right (a:=s) (by omega)).2 h4;rw[Nat.mul_assoc]at h5;exact h5
def ucp(u left:List Nat)(j i:Nat):List Nat:=u.take j ++ padL left i ++ u.drop (j+i)
theorem zt4(u left:List Nat)(j i:Nat)(h:j+i≤u.length):(ucp u left j i).length=u.length:=by
 unfold ucp;simp[zfw];omega
theorem zwk(u left:List Nat)(j:Nat):ucp u left j 0=u:=by
 unfold ucp;simp[padL]
theorem z1h(u left:List Nat)(j i:Nat)(h:j+i<u.length):(ucp u left j i).set (j+i) (left.getD i 0)=ucp u left j (i+1):=by
 unfold ucp;have hl:(u.take j ++ padL left i).length=j+i:=by simp[zfw];omega
 rw[List.set_append_right _ _ (by omega),hl,Nat.sub_self,List.drop_eq_getElem_cons h,List.set_cons_zero,zpc,←Nat.add_assoc];simp
theorem zoz(l:List Nat)(i x y:Nat):(l.set i x).set i y=l.set i y:=by simp
theorem z2o(b:List Nat)(B s n:Nat)(hb:Rep b B)(hn:b.length=n+1)(hs:s=Bs / (b.getD n 0+1)):1≤s∧s<Bs:=by
 have Zf:=zkm b B n hb hn;have Z0:b≠[]:=by intro h;rw[h]at hn;cases hn
 obtain⟨h1,h2,h3⟩:=zsz (s:=s) b hb.1 Z0 (by rw[hn];exact hs);refine⟨h1,?_⟩;rw[hs];have:Bs / (b.getD n 0+1)≤Bs / 2:=Nat.div_le_div_left (by omega) (by omega);have:=zd5;omega
def MagAt(w:World)(v:Value)(N:Nat):Prop:=∃a c l,v=.slice a l.length c∧l.length≤c∧Nums .u32 w a l∧Rep l N
theorem MagAt.below{w w':World}{v:Value}{N:Nat}(h:MagAt w v N)(hb:Below w.heap.size w w'):MagAt w' v N:=by
 obtain⟨a,c,l,h1,h2,h3,h4⟩:=h;exact⟨a,c,l,h1,h2,h3.below hb,h4⟩
theorem MagAt.of_own{w:World}{B:Nat}{v:Value}{l:List Nat}{N:Nat}(h:w.ownsRow B 247 1 v l.length (nums .u32 l))(hr:Rep l N):MagAt w v N:=by
 obtain⟨a,c,rfl,hl,hc,hn⟩:=zbd h;exact⟨a,c,l,rfl,hc,hn,hr⟩
def zqf(w:World)(A B:Nat)(e:Ending)(w':World):Prop :=
 ∃v1 v2,e=.returned (.tuple #[v1,v2])∧MagAt w' v1 (A / B)∧MagAt w' v2 (A % B)∧Below w.heap.size w w'
theorem zpx(a b:Option Addr)(n m c d A B:Nat)(la lb:List Nat)(w:World)(Zs:la.length=n)(ZH:lb.length=m)(hn:n≤100000)(hm:m≤100000)(T2:n≤c)
 (ra:Rep la A) (rb:Rep lb B) (ha:Nums .u32 w a la) (hb:Nums .u32 w b lb) (Z4:A<B) :
 Calls Tryz.prog 227 #[.slice a n c,.slice b m d] w (zqf w A B):=by
 have hc:=zj0 a b n m c d A B la lb w Zs ZH (by omega) (by omega) ra rb ha hb;rw[zi8 Z4]at hc;have HC:=Z9 hc;have HN:=Z9 ha;have HR:=Z9 ra;have HL:=Z9 Zs;have HLT:=Z9 Z4;clear hc ha hb ra rb Zs ZH Z4;go_enter Tryz.func227,Tryz.ntmps227;go_wp2_with fail;refine HC.out.mono ?_;rintro e w' ⟨rfl,q,hw⟩;have HW:=Z9 hw;clear hw;go_wp2_with fail;go_ret2;refine⟨.slice none 0 0,.slice a n c,rfl,⟨none,0,[],rfl,Nat.le_refl _,Nums.nil _ _ _,?_⟩,⟨a,c,la,by rw[HL.out],by rw[HL.out];exact T2,by rw[HW.out];exact HN.out.drewN q,?_⟩,by rw[HW.out];exact za4 (Below.refl _ _) q⟩
 ·rw[Nat.div_eq_of_lt HLT.out];exact z8r
 ·rw[Nat.mod_eq_of_lt HLT.out];exact HR.out
theorem zm5(w:World)(x:Nat)(hx:x<Bs) :
 Calls Tryz.prog 248 #[.slice (some ⟨w.heap.size,0,none⟩) 1 1] (w.alloc (.cells #[.int .u32 (x:Int)] 247)) fun e w' =>
  (∃v l,e=.returned v∧w'.ownsRow w.heap.size 247 1 v l.length (nums .u32 l)∧Rep l x)∧w.alloc (.cells #[.int .u32 (x:Int)] 247)=w':=by
 have Wu:(w.alloc (.cells #[.int .u32 (x:Int)] 247)).ownsRow w.heap.size 247 1 (.slice (some ⟨w.heap.size,0,none⟩) 1 1) 1 (nums .u32 [x]) :=
  World.ownsRow_lit w #[.int .u32 (x:Int)] 1 (Nat.le_refl _) (by unfold maxLen;omega) (by simp)
 have h:=zeu Wu (by omega) (by simpa using hx)
 refine h.mono fun e w' ⟨⟨v,l,e1,e2,e3⟩,e4⟩ => ?_
 subst e4;exact⟨⟨v,l,e1,e2,by simpa[val]using e3⟩,rfl⟩
theorem zvo(a b:Option Addr)(n c d A B:Nat)(la lb:List Nat)(w:World)(Zs:la.length=n)(ZH:lb.length=1)(hn:n≤100000)
 (ra:Rep la A) (rb:Rep lb B) (ha:Nums .u32 w a la) (hb:Nums .u32 w b lb) (Y6:B≤A) :
 Calls Tryz.prog 227 #[.slice a n c,.slice b 1 d] w (zqf w A B):=by
 have Wn:=zj0 a b n 1 c d A B la lb w Zs ZH (by omega) (by omega) ra rb ha hb
 obtain⟨z,hz,ZE⟩:∃z,z=cmpN A B∧0≤z:=⟨_,rfl,by
  rcases Nat.lt_or_ge B A with h |h
  ·rw[zhx h];omega
  ·rw[zn3 (by omega)];omega⟩
 rw[←hz]at Wn
 obtain⟨y,rfl⟩:∃y,lb=[y]:=by
  match lb,ZH with
  | [y],_=>exact⟨y,rfl⟩
 have hy:B=y:=by have:=rb.2.2;simpa[val]using this.symm
 subst hy;have Zc:=zkm [B] B 0 rb rfl;simp at Zc;have hyb:B<1000000000:=rb.1 B (by simp);obtain⟨gb,ob,rfl,Yq,YX⟩:=hb 0 (by simp);simp only[Nat.add_zero,List.getD_cons_zero]at YX
 have XX:=fun q=>zoy a n c B la (w.drewN q) Zs (by omega) Zc (by omega) ra.1 (ha.drewN q)
 rw[ra.2.2]at XX;have HC:=Z9 Wn;have HS:=Z9 XX;clear Wn ha hb ra rb Zs ZH Y6 hz XX;have hyb2:B<Bs:=hyb;have HYB:=Z9 hyb2;clear hyb2;go_enter Tryz.func227,Tryz.ntmps227;go_wp2_with fail;refine HC.out.mono ?_;rintro e w1 ⟨rfl,q,rfl⟩;go_wp2_with fail;refine(HS.out q).mono ?_;rintro e w2 ⟨v,l,rfl,ho,hr,Z3⟩;have M1:=Z9 (MagAt.of_own ho hr);have B2:Hid (Below w.heap.size w w2):=(za4 (Below.refl _ _) q).trans Z3;have hmod:A % B<B:=Nat.mod_lt _ Zc;obtain⟨r,Zr⟩:∃r,r=A % B:=⟨_,rfl⟩
 rw[←Zr]at hmod ⊢;have HR:=Z9 Zr;clear ho hr Z3 Zr;go_wp2_with fail;refine(zm5 w2 r (Nat.lt_trans hmod HYB.out)).mono ?_;rintro e w3 ⟨⟨v3,l3,rfl,Ya,WL⟩,WN⟩;have B3:Hid (Below w.heap.size w w3):=by rw[←WN];exact B2.out.alloc B2.out.size _
 have M3:=Z9 (MagAt.of_own Ya WL);have M13:Hid (MagAt w3 v (A / B)):=by rw[←WN];exact M1.out.below ((Below.refl _ _).alloc (Nat.le_refl _) _)
 clear WN Ya WL;go_wp2_with fail;go_ret2;exact⟨v,v3,rfl,M13.out,by rw[←HR.out];exact M3.out,B3.out⟩
def PadR(w:World)(n N:Nat)(v:Value)(wr:World):Prop :=
 ∃u:List Nat,u.length≤n+1∧wr.ownsRow w.heap.size 247 1 v u.length (nums .u32 u)∧(∀x ∈ u,x<Bs)∧val u=N∧Below w.heap.size w wr
def CpR(w5:World)(gu j p:Nat)(u left:List Nat)(iv:Value)(wr:World):Prop :=
 ∃i:Nat,i≤p+3∧iv=.int .i64 i∧RowAt wr gu 247 (nums .u32 (ucp u left j i))∧w5.grownBy wr (some gu)
theorem zds(l:List Nat)(j m k:Nat)(h:k<m):((l.drop j).take m).getD k 0=l.getD (j+k) 0:=by
 rw[List.getD_eq_getElem?_getD,List.getElem?_take_of_lt h,List.getElem?_drop,List.getD_eq_getElem?_getD]
def DvR(w:World)(gu gv gq:Nat)(u0 v:List Nat)(V p K:Nat)(iv:Value)(wr:World):Prop :=
 ∃(i:Nat)(u q:List Nat),i≤K∧iv=.int .i64 ((i:Int)-1)∧RowAt wr gu 247 (nums .u32 u)∧RowAt wr gv 247 (nums .u32 v)∧RowAt wr gq 247 (nums .u32 q)∧zse u0 u q V (p+2) i∧Below w.heap.size w wr
theorem zrz(a b:Option Addr)(n p c d A B:Nat)(la lb:List Nat)(w:World)(Zs:la.length=n)(ZH:lb.length=p+2)(hn:n≤100000)(hm:p≤99998)
 (ra:Rep la A) (rb:Rep lb B) (ha:Nums .u32 w a la) (hb:Nums .u32 w b lb) (Y6:B≤A) :
 Calls Tryz.prog 227 #[.slice a n c,.slice b (p+2) d] w (zqf w A B):=by
 obtain⟨i0,hi,ZE,ZO,ZA⟩:=info_parts zgq;have Wn:=zj0 a b n (p+2) c d A B la lb w Zs ZH (by omega) (by omega) ra rb ha hb
 obtain⟨z,hz,VR⟩:∃z,z=cmpN A B∧0≤z:=⟨_,rfl,by
  rcases Nat.lt_or_ge B A with h |h
  ·rw[zhx h];omega
  ·rw[zn3 (by omega)];omega⟩
 rw[←hz]at Wn;obtain⟨y,hy⟩:∃y,y=lb.getD (p+1) 0:=⟨_,rfl⟩
 have hyb:y<1000000000:=by rw[hy];exact zba lb _ rb.1
 obtain⟨gb,ob,rfl,Yq,YX⟩:=hb (p+1) (by omega);rw[←hy]at YX;obtain⟨s,hs⟩:∃s,s=1000000000 / (y+1):=⟨_,rfl⟩
 have hsI:(1000000000:Int) / ((y:Int)+1)=(s:Int):=by rw[hs];simp
 have hsl:=fun v hv=>zxk lb v B s (p+1) rb ZH (by rw[hs,←hy];rfl) hv
 have hsb:s≤1000000000:=by rw[hs];exact Nat.div_le_self _ _
 have Zo:p+2≤n:=by have:=zfe la lb A B ra rb Y6;omega
 have HSL:=Z9 hsl;have HC:=Z9 Wn;have RA:=Z9 ra;have RB:=Z9 rb;have HA:=Z9 ha;have HB:=Z9 hb;have ZD:=Z9 Zs;have Zg:=Z9 ZH;have HLE:=Z9 Y6;obtain⟨Zt,YJ⟩:=z2o lb B s (p+1) rb ZH (by rw[hs,←hy];rfl);have hs3:s<1000000000:=YJ;have XM:(1000000000:Int) / ((y:Int)+1) % 4294967296=(s:Int):=by rw[hsI];omega
 have HSM:=Z9 XM;have Xj:=Z9 YJ;have t1:(((p:Int)+2) == 1)=false:=by rw[beq_eq_false_iff_ne];omega
 clear Wn hz hs hsI hsl XM YJ ra rb ha hb Zs ZH Y6 hy;go_enter Tryz.func227,Tryz.ntmps227;go_wp2_with fail;refine HC.out.mono ?_;rintro e w1 ⟨rfl,q,rfl⟩;go_wp2_with fail;rw[HSM.out];obtain⟨W1,YK⟩:∃W1,W1=(w.drewN q).alloc (.cells #[.int .u32 (s:Int)] 247):=⟨_,rfl⟩
 have b1:Below w.heap.size w W1:=by rw[YK];exact(za4 (Below.refl _ _) q).alloc (Nat.le_refl _) _
 have Wu:Nums .u32 W1 (some ⟨w.heap.size,0,none⟩) [s]:=by
  intro i hi;obtain rfl:i=0:=by simpa using hi
  refine⟨_,0,rfl,by rw[YK];simp[World.drewN],?_⟩;rw[YK];exact(zc0 (w:=w.drewN q) (c:=#[.int .u32 (s:Int)]) (t:=247) rfl rfl).cell (i:=0) (by simp)
 have V9:=zkd a (some ⟨w.heap.size,0,none⟩) n 1 c 1 la [s] W1 ZD.out rfl (by omega) (by omega) RA.out.1 (by intro x hx;rw[List.mem_singleton.1 hx];exact Xj.out) (HA.out.below b1) Wu;rw[RA.out.2.2,show val [s]=s by simp[val]]at V9;rw[←YK];have HT:=Z9 V9;have BW1:=Z9 b1;have LIT1:=Z9 Wu;clear b1 Wu V9 YK;refine HT.out.mono ?_;rintro e w2 ⟨v2,u,rfl,ZI,Zr,b2⟩;have hB2:=BW1.out.trans (b2.mono BW1.out.size)
 have Wa:u.length≤n+1:=zcf u _ _ Zr (by
  have h1:=zkn la A RA.out;rw[ZD.out]at h1;rw[Nat.pow_succ]
  exact Nat.mul_lt_mul_of_lt_of_lt h1 Xj.out)
 have hO2:w2.ownsRow w.heap.size 247 1 v2 u.length (nums .u32 u):=by
  obtain⟨h1,h2⟩:=ZI;refine⟨h1,?_⟩
  rcases h2 with h |⟨g,cap,cur,e1,e2,e3⟩
  ·exact .inl h
  ·exact .inr ⟨g,cap,cur,e1,Nat.le_trans BW1.out.size e2,e3⟩
 have ZN:PadR w n (A*s) v2 w2:=⟨u,Wa,hO2,Zr.1,Zr.2.2,hB2⟩;have HST:=Z9 ZN;clear ZI Zr b2 hB2 Wa hO2 ZN HT;go_wp2_with fail;go_loopw [10] (PadR w n (A*s)) (fun v _=>n+1-(match v with | .slice _ k _=>k |_=>0))
 case atStart=>exact HST.out
 case round =>
  obtain⟨u,Wa,ho,hd,hv,hb⟩:=hrel;obtain⟨au,cu,rfl,_,huc,_⟩:=zbd ho;have HO:=Z9 ho;have HD:=Z9 hd;have HV:=Z9 hv;have HBU:=Z9 hb;obtain⟨k,hk⟩:∃k,k=u.length:=⟨_,rfl⟩
  rw[←hk]at HO Wa huc ⊢;have HK:=Z9 hk;clear ho hd hv hb hk HST
  by_cases Z4:k≤n
  ·go_wp2_with (at_builtin;refine zay _ rfl (.tmp 58) (.tmp 59) 239 rfl w.heap.size 247 i0 (.int .u32 0) 4 Tryz.underlying239 hi ZE ZO ZA rfl _ _ _ rfl (HO.out.alloc _) ⟨wr.heap.size,0,none⟩ 1 (.int .u32 0) rfl ?c1 rfl ?c3 ?c4 ?c5 ?_)
   case c3=>unfold maxLen;omega
   case c4=>omega
   case c5=>have:=HBU.out.size;simp;omega
   intro v3 w3 Ya Zk XS XU;have n3:Below w.heap.size w w3:=(HBU.out.alloc HBU.out.size _).grown Zk (by have:=HBU.out.size;simp;omega) (fun k hk=>(HO.out.lt k hk).1);have V6:w3.ownsRow w.heap.size 247 1 v3 (k+1) (nums .u32 (u ++ [0])):=by rw[←zd0];exact Ya
   obtain⟨a3,c3,rfl,_,_,_⟩:=zbd V6;have HO4:=Z9 V6;have N3:=Z9 n3;clear Ya Zk XS XU V6 n3;go_wp2_with fail;go_roundw
   case rel =>
    refine⟨u ++ [0],by simp;have:=HK.out;omega,by rw[List.length_append,←HK.out];exact HO4.out,?_,by rw[zdb];simp[HV.out],N3.out⟩;intro x hx
    rcases List.mem_append.1 hx with hx |hx
    ·exact HD.out x hx
    ·rw[List.mem_singleton.1 hx];exact zer
   case measure=>simp;omega
  ·obtain rfl:k=n+1:=by omega
   obtain⟨w3,rfl⟩:∃w3:World,w3=wr:=⟨_,rfl⟩
   clear Z4 Wa;go_wp2_with fail;obtain⟨W4,WS⟩:∃W4,W4=w3.alloc (.cells #[.int .u32 (s:Int)] 247):=⟨_,rfl⟩
   have b34:Below w3.heap.size w3 W4:=by rw[WS];exact(Below.refl _ _).alloc (Nat.le_refl _) _
   have Vq:Nums .u32 W4 (some ⟨w3.heap.size,0,none⟩) [s]:=by
    intro i hi;obtain rfl:i=0:=by simpa using hi
    refine⟨_,0,rfl,by rw[WS];simp,?_⟩;rw[WS];exact(zc0 (w:=w3) (c:=#[.int .u32 (s:Int)]) (t:=247) rfl rfl).cell (i:=0) (by simp)
   have b4:=HBU.out.trans (b34.mono HBU.out.size);have V9:=zkd (some ⟨gb,ob,none⟩) (some ⟨w3.heap.size,0,none⟩) (p+2) 1 d 1 lb [s] W4 Zg.out rfl (by omega) (by omega) RB.out.1 (by intro x hx;rw[List.mem_singleton.1 hx];exact Xj.out) (HB.out.below b4) Vq;rw[RB.out.2.2,show val [s]=s by simp[val]]at V9;rw[←WS]
   rcases zbv HO.out with⟨_,h0,_⟩ |⟨gu,cu',hu,hgu,TI,hcum,_,Uy⟩
   ·omega
   injection hu with WM _ hu3
   subst WM hu3;have hru4:RowAt W4 gu 247 (nums .u32 u):=Uy.below b34 Uy.lt;have hgu4:gu<W4.heap.size:=hru4.lt;refine V9.mono ?_;rintro e w5 ⟨v5,vl,rfl,UY,Xf,b5⟩;have hvl:vl.length=p+2:=(HSL.out vl Xf).1;rw[hvl]at UY
   rcases zbv UY with⟨_,h0,_⟩ |⟨gv,cv,rfl,Xq,UM,hcvm,_,Ua⟩
   ·omega
   have hru5:RowAt w5 gu 247 (nums .u32 u):=hru4.below b5 hru4.lt;have hguv:gu<gv:=Nat.lt_of_lt_of_le hgu4 Xq;have b05:=b4.trans (b5.mono b4.size);have RU5:=Z9 hru5;have RV5:=Z9 Ua;have RR5:=Z9 Xf;have B05:=Z9 b05;have HVL:=Z9 hvl;clear WS b34 Vq b4 V9 hru4 hgu4 UY Xf b5 hru5 Ua b05 Uy Xq HO HBU LIT1 BW1 hvl;obtain⟨K,hK⟩:∃K,K+p+1=n:=⟨n-p-1,by omega⟩
   have hK1:K+p+1≤n:=by omega
   have hK2:n≤K+p+1:=by omega
   clear hK;go_wp2_with (at_make;refine wpList_make_full _ rfl _ _ 239 rfl w5.heap.size 247 i0 (.int .u32 0) 1 Tryz.underlying239 hi ZE ZO .i64 .i64 _ _ K rfl rfl ?m0 ?m1 ?m2 ?m3 ?m4 ?_)
   case m0=>omega
   case m1=>omega
   case m2=>rw[ZA];omega
   case m3=>unfold maxLen;omega
   case m4=>exact Nat.le_refl _
   intro w6 Ut UO;rw[ze5]at Ut
   rcases zbv Ut with⟨_,h0,_⟩ |⟨gq,cq,hq6,_,_,_,_,U5⟩
   ·omega
   injection hq6 with hq61 _ hq63
   subst hq63
   injection hq61 with hq61
   injection hq61 with hq61 _
   have hgq:w5.heap.size=gq:=hq61;have RU6:=Z9 (RU5.out.kept UO (by simp));have RV6:=Z9 (RV5.out.kept UO (by simp));have RQ6:=Z9 U5;have B06:=Z9 (B05.out.grown UO B05.out.size (fun k hk=>by cases hk));have hgvq:gv<gq:=by have:=RV5.out.lt;omega
   have hst2:DvR w gu gv gq u vl (B*s) p K (.int .i64 ((K:Int)-1)) w6:=by
    have hV:val vl=B*s:=RR5.out.2.2;have hdl:=zu3 lb u A B s n (p+1) (by have:=zkn la A RA.out;rwa [ZD.out]at this) RB.out Zg.out Zt HV.out HK.out.symm (by omega);refine⟨K,u,List.replicate K 0,Nat.le_refl _,rfl,RU6.out,RV6.out,RQ6.out,?_,B06.out⟩;have YZ:=zz1 u (B*s) (p+1+1) (by have:=HK.out;omega) HD.out hdl
    rwa [show u.length-(p+1+1)=K by have:=HK.out;omega]at YZ
   have HST2:=Z9 hst2;have hGQ:=Z9 hgq;clear Ut UO U5 hq61 RU5 RV5 B05 RU6 RV6 RQ6 B06 hst2 hgq;rw[hGQ.out];go_wp2_with fail;rw[show((n:Int)+1-((p:Int)+2)-1)=(K:Int)-1 by omega];go_loopw [12] (DvR w gu gv gq u vl (B*s) p K) (fun i _=>(intOf i+1).toNat)
   case atStart=>exact HST2.out
   case round =>
    clear HST2;obtain⟨w7,rfl⟩:∃w7:World,w7=wr:=⟨_,rfl⟩
    obtain⟨i,uu,q,hiK,rfl,ru,rv,rq,ZZ,hb⟩:=hrel;have RU:=Z9 ru;have RV:=Z9 rv;have RQ:=Z9 rq;have ZQ:=Z9 ZZ;have HB7:=Z9 hb;have huul:uu.length=n+1:=by rw[ZZ.1];exact HK.out.symm
    have HUL:=Z9 huul;clear ru rv rq ZZ hb huul
    by_cases S1:1≤i
    ·obtain⟨j,rfl⟩:∃j,i=j+1:=⟨i-1,by omega⟩
     rw[show(((j+1:Nat):Int)-1)=(j:Int)by omega]
     have TI:∀k x,k<n+1→x=uu.getD k 0→w7.cell? ⟨gu,k,none⟩=some (.int .u32 (x:Int)):=fun k x hk hx=>by
      rw[RU.out.cell (by rw[zb3,HUL.out];exact hk),zcy _ _ _ (by rw[HUL.out];exact hk),hx]
     have UM:∀k x,k<p+2→x=vl.getD k 0→w7.cell? ⟨gv,k,none⟩=some (.int .u32 (x:Int)):=fun k x hk hx=>by
      rw[RV.out.cell (by rw[zb3,HVL.out];exact hk),zcy _ _ _ (by rw[HVL.out];exact hk),hx]
     obtain⟨u2,WE⟩:∃x,x=uu.getD (j+(p+2)) 0:=⟨_,rfl⟩
     obtain⟨u1,WM⟩:∃x,x=uu.getD (j+(p+1)) 0:=⟨_,rfl⟩
     obtain⟨u0,Tc⟩:∃x,x=uu.getD (j+p) 0:=⟨_,rfl⟩
     obtain⟨y1,XF⟩:∃x,x=vl.getD (p+1) 0:=⟨_,rfl⟩
     obtain⟨y0,Zc⟩:∃x,x=vl.getD p 0:=⟨_,rfl⟩
     have c2:=TI _ _ (by omega) WE;have c1:=TI _ _ (by omega) WM;have c0:=TI (j+(p+2)-2) u0 (by omega) (by rw[Tc];congr 1);have d1:=UM _ _ (by omega) XF;have d0:=UM _ _ (by omega) Zc;have bu2:u2<1000000000:=by rw[WE];exact zba uu _ ZQ.out.2.1
     have bu1:u1<1000000000:=by rw[WM];exact zba uu _ ZQ.out.2.1
     have bu0:u0<1000000000:=by rw[Tc];exact zba uu _ ZQ.out.2.1
     have by1:y1<1000000000:=by rw[XF];exact zba vl _ RR5.out.1
     have by0:y0<1000000000:=by rw[Zc];exact zba vl _ RR5.out.1
     clear TI UM;have Zn:=Z9 WE;have HU1:=Z9 WM;have HU0:=Z9 Tc;have HY1:=Z9 XF;have HY0:=Z9 Zc;clear WE WM Tc XF Zc;obtain⟨U9,Vb,WN,hw4,Td,hw6⟩:=zmr u uu q (B*s) (p+2) j (by have:=HK.out;omega) (by have:=RR5.out.2.2;rw[←this];exact zkc vl RR5.out.2.1 (by intro h;have:=HVL.out;rw[h]at this;cases this)) (by have:=zkn vl _ RR5.out;rw[HVL.out]at this;omega) ZQ.out;have hdo:=z4z ((uu.drop j).take (p+2+1)) vl (p+2) U9 HVL.out (by omega) (fun x hx=>ZQ.out.2.1 x (List.mem_of_mem_drop (List.mem_of_mem_take hx))) RR5.out.1 (zkm vl _ (p+1) RR5.out HVL.out) (by rw[Vb,RR5.out.2.2];exact WN);rw[Vb,RR5.out.2.2,zds _ _ _ _ (by omega),zds _ _ _ _ (by omega),zds _ _ _ _ (by omega),←Zn.out,show p+2-1=p+1 by omega,show p+2-2=p by omega,←HU1.out,←HU0.out,←HY1.out,←HY0.out]at hdo
     obtain⟨Xn,Wo,Un⟩:=hdo;have hy1p:1≤y1:=by rw[HY1.out];exact zkm vl _ (p+1) RR5.out HVL.out
     have WV:=fun q=>zzq u2 u1 u0 y1 y0 (w7.drewN q) Un bu1 bu0 by0 hy1p by1
     have V1:=zzr u2 u1 u0 y1 y0;obtain⟨dg,Vj⟩:∃dg,dg=gss u2 u1 u0 y1 y0:=⟨_,rfl⟩
     rw[←Vj]at Xn Wo V1
     have hgs2:∀q,Calls Tryz.prog 250 #[.int .u64 u2,.int .u64 u1,.int .u64 u0,.int .u64 y1,.int .u64 y0] (w7.drewN q) fun e w'=>e=.returned (.int .u64 dg)∧∃m,w'=(w7.drewN q).drewN m:=fun q=>by rw[Vj];exact WV q
     have HGS:=Z9 hgs2;have Tf:=Z9 Td;have HW6:=Z9 hw6;have YW:=Z9 U9;have HW2:=Z9 Vb;have WO:=Z9 Xn;have HD2:=Z9 Wo;have hgl2:dg<1000000000:=V1;clear WV hgs2 Vj Xn Wo Un U9 Vb WN hw4 Td hw6 V1;go_wp2_with fail;have s1:IntKind.i64.wrap ((j:Int)+((p:Int)+2))=(j:Int)+((p:Int)+2):=IntWalk.i64_in _ (by omega);have s2:IntKind.i64.wrap ((j:Int)+((p:Int)+2)-1)=(j:Int)+((p:Int)+2)-1:=IntWalk.i64_in _ (by omega);have s3:IntKind.i64.wrap ((j:Int)+((p:Int)+2)-2)=(j:Int)+((p:Int)+2)-2:=IntWalk.i64_in _ (by omega);have s4:IntKind.i64.wrap ((p:Int)+2-1)=(p:Int)+2-1:=IntWalk.i64_in _ (by omega);have s5:IntKind.i64.wrap ((p:Int)+2-2)=(p:Int)+2-2:=IntWalk.i64_in _ (by omega)
     have v1:IntKind.u64.wrap (u2:Int)=(u2:Int):=IntWalk.u64_in _ (by omega);have v2:IntKind.u64.wrap (u1:Int)=(u1:Int):=IntWalk.u64_in _ (by omega);have v3:IntKind.u64.wrap (u0:Int)=(u0:Int):=IntWalk.u64_in _ (by omega);have v4:IntKind.u64.wrap (y1:Int)=(y1:Int):=IntWalk.u64_in _ (by omega);have v5:IntKind.u64.wrap (y0:Int)=(y0:Int):=IntWalk.u64_in _ (by omega);go_quiet ((go_at_call 250;exact Calls.quiet_of (HGS.out _)));obtain⟨W8,Sb⟩:∃W8,W8=w7.drewN nq:=⟨_,rfl⟩
     have VH:Below w7.heap.size w7 W8:=by rw[Sb];exact za4 (Below.refl _ _) nq
     rw[←Sb];clear Sb s1 s2 s3 s4 s5 v1 v2 v3 v4 v5 c0 c1 c2 d0 d1 bu2 bu1 bu0 by1 by0 hy1p;obtain⟨V,hV⟩:∃V,V=B*s:=⟨_,rfl⟩
     obtain⟨X,hX⟩:∃X,X=val (uu.drop j):=⟨_,rfl⟩
     have hVp:0<V:=by rw[hV,←RR5.out.2.2];exact zkc vl RR5.out.2.1 (by intro h;have:=HVL.out;rw[h]at this;cases this)
     have hUd:∀x ∈ (uu.drop j).take (p+2+1),x<Bs:=fun x hx=>ZQ.out.2.1 x (List.mem_of_mem_drop (List.mem_of_mem_take hx))
     have hX2:val ((uu.drop j).take (p+2+1))=X:=by rw[hX];exact HW2.out
     have VZ:X / V≤dg∧dg≤X / V+1:=by rw[hX,hV];exact⟨WO.out,HD2.out⟩
     have hDlt:X / V<Bs:=by have:=zd5;omega
     have hNU:∀W,Below w7.heap.size w7 W→Nums .u32 W (some ⟨gu,j,none⟩) ((uu.drop j).take (p+2+1)):=fun W hW e he=>by
      rw[YW.out]at he;have hr:=RU.out.below hW RU.out.lt;refine⟨gu,j,rfl,hr.lt,?_⟩;rw[hr.cell (by rw[zb3,HUL.out];omega),zcy _ _ _ (by rw[HUL.out];omega),zds _ _ _ _ he]
     have hNV:∀W,Below w7.heap.size w7 W→Nums .u32 W (some ⟨gv,0,none⟩) vl:=fun W hW e he=>by
      have hr:=RV.out.below hW RV.out.lt;refine⟨gv,0,rfl,hr.lt,?_⟩;rw[Nat.zero_add,hr.cell (by rw[zb3];exact he),zcy _ _ _ he]
     have htrU:∀W,Below w7.heap.size w7 W→Calls Tryz.prog 248 #[.slice (some ⟨gu,j,none⟩) (p+2+1) (cu-j)] W (zt3 W (some ⟨gu,j,none⟩) (p+2+1) (cu-j) ((uu.drop j).take (p+2+1))):=fun W hW =>
      zjr _ _ _ _ W YW.out (by omega) (by omega) hUd (hNU W hW)
     have htmV:∀W a2 n2 c2 l2 x,Below w7.heap.size w7 W→l2.length=n2→n2≤400000→Rep l2 x→Nums .u32 W a2 l2→Calls Tryz.prog 249 #[.slice (some ⟨gv,0,none⟩) (p+2) cv,.slice a2 n2 c2] W (zji W (V*x)):=fun W a2 n2 c2 l2 x hW h1 h2 h3 h4=>by
      have:=zkd (some ⟨gv,0,none⟩) a2 (p+2) n2 cv c2 vl l2 W HVL.out h1 (by omega) h2 RR5.out.1 h3.1 (hNV W hW) h4
      rwa [RR5.out.2.2,h3.2.2,←hV]at this
     have HUD:=Z9 hUd;have HX2:=Z9 hX2;have HNU:=Z9 hNU;have HTU:=Z9 htrU;have HTV:=Z9 htmV;have HDD:=Z9 VZ;have HXX:=Z9 hX;have HVV:=Z9 hV;have HB8:=Z9 VH;clear hUd hX2 hNU hNV htrU htmV VZ hX hV VH;go_wp2_with fail;refine(zm5 W8 dg (by have:=zd5;omega)).mono ?_;rintro e w9 ⟨⟨v9,l9,rfl,ho9,SC⟩,hw9⟩;have hb9:Below w7.heap.size w7 w9:=by rw[←hw9];exact HB8.out.alloc HB8.out.size _
     obtain⟨a9,c9,rfl,US,hc9,hn9⟩:=zbd ho9;have hlen9:l9.length≤1:=zcf l9 dg 1 SC (by have:=zd5;simp;omega);have HT9:=Z9 (HTV.out w9 a9 l9.length c9 l9 dg hb9 rfl (by omega) SC hn9);have HB9:=Z9 hb9;clear ho9 SC hw9 hb9 US hn9;go_wp2_with fail;refine HT9.out.mono ?_;rintro e w10 ⟨v10,l10,rfl,UW,U2,TC⟩;obtain⟨a10,c10,rfl,_,Sc,TZ⟩:=zbd UW;have HB10:=Z9 (HB9.out.trans (TC.mono HB9.out.size))
     have hlen10:l10.length≤200000:=by
      have h1:=zcf l10 _ (p+2+1) U2 (by
       have h2:=zkn vl _ RR5.out;rw[HVL.out,←HVV.out]at h2;rw[Nat.pow_succ]
       exact Nat.mul_lt_mul_of_lt_of_lt h2 (by have:=zd5;omega))
      omega
     have HN10:=Z9 TZ;have HR10:=Z9 U2;clear UW U2 TC TZ HT9;go_wp2_with fail;rw[show j+(p+2)+1-j=p+2+1 by omega];refine(HTU.out w10 HB10.out).mono ?_;rintro e w' ⟨⟨k,hk,rfl,Xt⟩,rfl⟩;rw[HX2.out]at Xt;have HRK:=Z9 Xt;have hcp:=zj0 (some ⟨gu,j,none⟩) a10 k l10.length (cu-j) c10 X (V*dg) (((uu.drop j).take (p+2+1)).take k) l10 w10 (by rw[List.length_take,YW.out];omega) rfl (by omega) (by omega) Xt HR10.out ((HNU.out w10 HB10.out).take k) HN10.out;have HCP:=Z9 hcp;clear Xt hcp;go_wp2_with fail;obtain⟨cz,VY⟩:∃cz,cz=cmpN X (V*dg):=⟨_,rfl⟩
     have HCP2:=HCP.out;rw[←VY]at HCP2;refine HCP2.mono ?_;rintro e w11 ⟨rfl,q11,Va⟩;have hb11:Below w7.heap.size w7 w11:=by rw[Va];exact za4 HB10.out q11
     have HN11:Hid (Nums .u32 w11 a10 l10):=by rw[Va];exact HN10.out.drewN q11
     have HB11:=Z9 hb11;have HCZ:=Z9 VY;clear VY Va hb11 HCP HCP2 HN10 HB8 HB9 HGS;obtain⟨D,hD⟩:∃D,D=X / V:=⟨_,rfl⟩
     have hdgD:(dg=D∧0≤cz∧V*dg=V*D)∨(dg=D+1∧cz<0):=by
      have h1:=HDD.out;rw[←hD]at h1;have h2:=Nat.div_mul_le_self X V;rw[←hD,Nat.mul_comm]at h2
      rcases Nat.lt_or_ge X (V*dg)with h3 |h3
      ·right
       refine⟨?_,by rw[HCZ.out,zi8 h3];omega⟩
       rcases Nat.lt_or_ge D dg with h4 |h4
       ·omega
       ·exfalso
        have:=Nat.mul_le_mul_left V h4;omega
      ·left
       have h4:dg≤D:=by rw[hD];exact(Nat.le_div_iff_mul_le hVp).2 (by rw[Nat.mul_comm];exact h3)
       have h5:dg=D:=by omega
       refine⟨h5,?_,by rw[h5]⟩;rw[HCZ.out]
       rcases Nat.lt_or_ge (V*dg) X with h6 |h6
       ·rw[zhx h6];omega
       ·rw[zn3 (by omega)];omega
     have Ve:=Z9 hdgD;have HDX:=Z9 hD;have hDb:D<1000000000:=by rw[hD];have:=zd5;omega
     clear hdgD hD hDlt
     go_upto_if 131 with(fail)
     go_cut [13,14] (fun d13 p14 wx=>d13=.int .u64 (D:Int)∧MagAt wx p14 (V*D)∧Below w7.heap.size w7 wx)
     case first=>as_aux_lemma =>
      rcases Ve.out with⟨h1,h2,h3⟩ |⟨h1,h2⟩
      ·have t2:decide (cz<0)=false:=by simp;omega
       have H1:=Z9 h1;have H3:=Z9 h3;clear h1 h3;go_wp2_with fail;go_meet;exact⟨by rw[H1.out],⟨a10,c10,l10,rfl,Sc,HN11.out,by rw[←H3.out];exact HR10.out⟩,HB11.out⟩
      ·have t2:decide (cz<0)=true:=by simp;omega
       subst h1;have e1:(((D+1:Nat):Int))=(D:Int)+1:=by omega
       rw[e1];clear e1;go_wp2_with fail;refine(zm5 w11 D (by have:=zd5;omega)).mono ?_;rintro e w12 ⟨⟨v12,l12,rfl,T3,U3⟩,Ue⟩;have hb12:Below w7.heap.size w7 w12:=by rw[←Ue];exact HB11.out.alloc HB11.out.size _
       obtain⟨a12,c12,rfl,Sp,hc12,T0⟩:=zbd T3;have hlen12:l12.length≤1:=zcf l12 D 1 U3 (by have:=zd5;simp;omega);have HT12:=Z9 (HTV.out w12 a12 l12.length c12 l12 D hb12 rfl (by omega) U3 T0);have HB12:=Z9 hb12;clear T3 U3 Ue hb12 Sp T0;go_wp2_with fail;refine HT12.out.mono ?_;rintro e w13 ⟨v13,l13,rfl,T4,T8,Xm⟩;have HM13:=Z9 (MagAt.of_own T4 T8);have HB13:=Z9 (HB12.out.trans (Xm.mono HB12.out.size));clear T4 T8 Xm;go_wp2_with fail;go_meet;exact⟨rfl,HM13.out,HB13.out⟩
     case rest=>as_aux_lemma =>
      obtain⟨rfl,Su,TD⟩:=hcut;obtain⟨w14,SE⟩:∃w14:World,w14=wc:=⟨_,rfl⟩
      subst SE;obtain⟨a14,c14,l14,rfl,hc14,T1,U4⟩:=Su;have HB14:=Z9 TD;have HN14:=Z9 T1;have HR14:=Z9 U4
      have hlen14:l14.length≤200000:=by
       have h1:=zcf l14 _ (p+2+1) U4 (by
        have h2:=zkn vl _ RR5.out;rw[HVL.out,←HVV.out]at h2;rw[Nat.pow_succ]
        exact Nat.mul_lt_mul_of_lt_of_lt h2 (by have:=zd5;omega))
       omega
      clear TD T1 U4 HCZ Ve HN11 HB11 HRK;go_wp2_with fail;rw[show j+(p+2)+1-j=p+2+1 by omega];refine(HTU.out w14 HB14.out).mono ?_;rintro e w' ⟨⟨k2,Y3,rfl,Xt⟩,rfl⟩;rw[HX2.out]at Xt;have hXV:X=V*D+X % V:=by rw[HDX.out];exact(Nat.div_add_mod X V).symm
      have UU:=zpm (some ⟨gu,j,none⟩) a14 k2 l14.length (cu-j) c14 (((uu.drop j).take (p+2+1)).take k2) l14 w14 (by rw[List.length_take,YW.out];omega) rfl (by omega) (by
       have h1:=zfe _ _ X (V*D) Xt HR14.out (by omega)
       rwa [List.length_take,YW.out,show min k2 (p+2+1)=k2 by omega]at h1) Xt.1 HR14.out.1 (by rw[Xt.2.2,HR14.out.2.2];omega) ((HNU.out w14 HB14.out).take k2) HN14.out
      rw[Xt.2.2,HR14.out.2.2,show X-V*D=X % V by omega]at UU;have HMN:=Z9 UU;clear Xt UU hXV;go_wp2_with fail;refine HMN.out.mono ?_;rintro e w15 ⟨v15,L,rfl,UX,SD,TE⟩;obtain⟨aL,cL,rfl,_,hcL,_⟩:=zbd UX;have HB15:=Z9 (HB14.out.trans (TE.mono HB14.out.size));have VA:=Z9 UX;have HRL:=Z9 SD
      have hLl:L.length≤200000:=by
       have h1:=zcf L _ (p+2) SD (by
        have h2:=zkn vl _ RR5.out;rw[HVL.out,←HVV.out]at h2
        exact Nat.lt_trans (Nat.mod_lt _ hVp) h2)
       omega
      have hgu14:gu<w14.heap.size:=Nat.lt_of_lt_of_le RU.out.lt HB14.out.size;clear UX SD TE HMN HN14 HR14 HB14;have hru15:=RU.out.below HB15.out RU.out.lt;have hst3:CpR w15 gu j p uu L (.int .i64 0) w15:=⟨0,Nat.zero_le _,rfl,by rw[zwk];exact hru15,zci _ _⟩;have HST3:=Z9 hst3;clear hst3 hru15;obtain⟨kL,Sn⟩:∃kL,kL=L.length:=⟨_,rfl⟩
      rw[←Sn]at VA hLl hcL ⊢;have HKL:=Z9 Sn;clear Sn;go_wp2_with fail;go_loopw [152] (CpR w15 gu j p uu L) (fun i _=>p+3-(intOf i).toNat)
      case atStart=>exact HST3.out
      case round =>
       obtain⟨w16,rfl⟩:∃w16:World,w16=wr:=⟨_,rfl⟩
       obtain⟨i,hi3,rfl,Uy,Uq⟩:=hrel;have RU16:=Z9 Uy;have GW:=Z9 Uq;clear Uy Uq HST3;have hbw:Below w.heap.size w w16:=(HB7.out.trans (HB15.out.mono HB7.out.size)).grown GW.out (by have:=HB7.out.size;have:=HB15.out.size;omega) (fun k hk=>by injection hk with hk;omega);have HBW:=Z9 hbw;clear hbw
       by_cases Z4:i<p+3
       ·have hji:j+i<n+1:=by omega
        have hul2:(ucp uu L j i).length=n+1:=by rw[zt4 _ _ _ _ (by rw[HUL.out];omega)];exact HUL.out
        obtain⟨xo,hxo⟩:∃xo:Nat,w16.cell? ⟨gu,j+i,none⟩=some (.int .u32 (xo:Int)) :=
         ⟨_,by rw[RU16.out.cell (by rw[zb3];omega),zcy _ _ _ (by omega)]⟩
        have V0:w16.frozen? ⟨gu,j+i,none⟩=false:=RU16.out.frozen (j+i);have hstep:=z1h uu L j i (by rw[HUL.out];omega);have HSTEP:=Z9 hstep;clear hstep hul2
        have Yo:∀x:Nat,RowAt (w16.setCell ⟨gu,j+i,none⟩ (.int .u32 (x:Int))) gu 247 (nums .u32 ((ucp uu L j i).set (j+i) x)):=fun x=>by
         rw[←zg3];exact RU16.out.set (j+i) _
        have HSET:=Z9 Yo;clear Yo
        by_cases hiL:i<kL
        ·have hnL:Nums .u32 w16 aL L:=by
          have:=VA.out.kept GW.out (.inr (fun h=>by have:=(VA.out.lt gu h).1;omega));obtain⟨aL',cL',e1,_,_,e2⟩:=zbd this
          injection e1 with e1 _ _
          rw[e1];exact e2
         obtain⟨gL,oL,rfl,hgL,VX⟩:=hnL i (by have:=HKL.out;omega)
         have Si:gL≠gu:=by
          intro h;subst h
          rcases zbv VA.out with⟨h0,_⟩ |⟨g',c',e1,hb',_⟩
          ·injection h0 with h0;cases h0
          ·injection e1 with e1 _ _;injection e1 with e1;injection e1 with e1 _;omega
         obtain⟨x,hx⟩:∃x,x=L.getD i 0:=⟨_,rfl⟩
         rw[←hx]at VX
         have hcl2:(w16.setCell ⟨gu,j+i,none⟩ (.int .u32 0)).cell? ⟨gL,oL+i,none⟩=some (.int .u32 (x:Int)):=by
          rw[World.cell?_setCell_other _ _ _ _ (by intro h;injection h with h;exact Si h.symm)];exact VX
         have Yd:(w16.setCell ⟨gu,j+i,none⟩ (.int .u32 0)).cell? ⟨gu,j+i,none⟩=some (.int .u32 0):=World.cell?_setCell_same' _ _ _ (by rw[hxo];rfl);have hfz2:(w16.setCell ⟨gu,j+i,none⟩ (.int .u32 0)).frozen? ⟨gu,j+i,none⟩=false:=by rw[World.frozen?_setCell];exact V0
         have HX3:=Z9 hx;clear hx hnL VX;go_wp2_with fail;go_roundw
         case rel =>
          refine⟨i+1,by omega,by go_num,?_,za7 (za7 GW.out (.inl rfl) _) (.inl rfl) _⟩;have h1:=(HSET.out 0).set (j+i) (.int .u32 (x:Int));rw[zg3,zoz,HX3.out,HSTEP.out]at h1;rw[HX3.out];exact h1
         case measure=>simp[intOf]<;>omega
        ·have VQ:L.getD i 0=0:=zha (by have:=HKL.out;omega)
         have HX0:=Z9 VQ;clear VQ;go_wp2_with fail;go_roundw
         case rel =>
          refine⟨i+1,by omega,by go_num,?_,za7 GW.out (.inl rfl) _⟩;have h1:=HSET.out 0;have h2:=HSTEP.out;rw[HX0.out]at h2;rw[h2]at h1;exact h1
         case measure=>simp[intOf]<;>omega
       ·obtain rfl:i=p+3:=by omega
        have U5:=(RQ.out.below HB15.out RQ.out.lt).kept GW.out (by intro h;injection h with h;omega);have Ua:=(RV.out.below HB15.out RV.out.lt).kept GW.out (by intro h;injection h with h;omega);have Uv:q.length=K:=by have:=ZQ.out.2.2.1;have:=HK.out;omega
        have hjq:j<K:=by omega
        obtain⟨qo,hqo⟩:∃qo:Nat,w16.cell? ⟨gq,j,none⟩=some (.int .u32 (qo:Int)) :=
         ⟨_,by rw[U5.cell (by rw[zb3];omega),zcy _ _ _ (by omega)]⟩
        have V0:w16.frozen? ⟨gq,j,none⟩=false:=U5.frozen j;have YZ:=z4y u uu q L (B*s) (p+2) j (by have:=HK.out;omega) (by rw[←HVV.out];exact hVp) (by have:=zkn vl _ RR5.out;rw[HVL.out]at this;omega) ZQ.out (by rw[←HXX.out,←HVV.out];exact HRL.out);rw[←HXX.out,←HVV.out,←HDX.out]at YZ;have WU:zse u (ucp uu L j (p+3)) (q.set j D) (B*s) (p+2) j:=by rw[←HVV.out];exact YZ
        have HDS:=Z9 WU;have HRQ:=Z9 U5;have HRV:=Z9 Ua;clear U5 Ua Uv YZ WU;go_wp2_with fail;go_roundw
        case rel =>
         refine⟨j,ucp uu L j (p+3),q.set j D,by omega,rfl,RU16.out.other (by show gu≠gq;omega) _,HRV.out.other (by show gv≠gq;omega) _,?_,HDS.out,HBW.out.setCell (p:=⟨gq,j,none⟩) (by show w.heap.size≤gq;omega) _⟩;rw[←zg3];exact HRQ.out.set j _
        case measure=>simp[intOf]<;>omega
    ·obtain rfl:i=0:=by omega
     have Zj:=yak u uu q (B*s) (p+2) ZQ.out
     have hnu:Nums .u32 w7 (some ⟨gu,0,none⟩) uu:=fun e he=>⟨gu,0,rfl,RU.out.lt,by rw[Nat.zero_add,RU.out.cell (by rw[zb3];exact he),zcy _ _ _ he]⟩
     have Uv:q.length=K:=by have:=ZQ.out.2.2.1;have:=HK.out;omega
     have hnq:∀W,Below w7.heap.size w7 W→Nums .u32 W (some ⟨gq,0,none⟩) q:=fun W hW e he=>by
      have hr:=RQ.out.below hW RQ.out.lt;exact⟨gq,0,rfl,hr.lt,by rw[Nat.zero_add,hr.cell (by rw[zb3];exact he),zcy _ _ _ he]⟩
     have Tb:=zjr (some ⟨gu,0,none⟩) (n+1) cu uu w7 HUL.out (by omega) (by omega) ZQ.out.2.1 hnu;have HTU:=Z9 Tb;have HNU:=Z9 hnu;have HNQ:=Z9 hnq;have HQL:=Z9 Uv;have HEND:=Z9 Zj;clear Tb hnu hnq Uv Zj;go_wp2_with fail;refine HTU.out.mono ?_;rintro e w' ⟨⟨k,hk,rfl,Xt⟩,rfl⟩;have XX:=zoy (some ⟨gu,0,none⟩) k cu s (uu.take k) w7 (by rw[List.length_take,HUL.out];omega) (by omega) Zt (by omega) Xt.1 (HNU.out.take k);rw[Xt.2.2]at XX;have HSH:=Z9 XX;clear Xt XX;go_wp2_with fail;refine HSH.out.mono ?_;rintro e w8 ⟨v8,l8,rfl,ho8,hr8,VH⟩;have M8:=Z9 (MagAt.of_own ho8 hr8);have HB8:=Z9 VH;have htq:=zjr (some ⟨gq,0,none⟩) K K q w8 HQL.out (by omega) (Nat.le_refl _) ZQ.out.2.2.2.1 (HNQ.out w8 VH)
     have HTQ:=Z9 htq;clear ho8 hr8 VH htq;go_wp2_with fail;refine HTQ.out.mono ?_;rintro e w' ⟨⟨k3,V3,rfl,T9⟩,rfl⟩;have HR3:=Z9 T9;clear T9;go_wp2_with fail;go_ret2;have hun:=z7u A B s Zt;have e1:val u=A*s:=HV.out;refine⟨.slice (some ⟨gq,0,none⟩) k3 K,v8,rfl,⟨some ⟨gq,0,none⟩,K,q.take k3,by rw[List.length_take,HQL.out];congr 1;omega,by rw[List.length_take,HQL.out];omega,(HNQ.out w8 HB8.out).take k3,?_⟩,?_,HB7.out.trans (HB8.out.mono HB7.out.size)⟩
     ·have:=HR3.out
      rw[HEND.out.2,e1,hun.1]at this;exact this
     ·have:=M8.out
      rw[HEND.out.1,e1,hun.2]at this;exact this
end Go.Proofs.YtkobkpepgdddeaaGreatDoor
