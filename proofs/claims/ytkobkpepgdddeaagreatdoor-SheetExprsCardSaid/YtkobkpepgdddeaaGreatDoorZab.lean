/-
  The reference's digits: at, Greater, Zero, Minus. No condition.
-/
import Derived.Test.YtkobkpepgdddeaaGreatDoorZaa
import Derived.Laws.OwnMore
import Derived.Deep.OwnRows
import Derived.Deep.LoopGhost
import Derived.Deep.DeepCutAuto
import Derived.IntWalk
import Derived.RegionTactic
namespace Go.Proofs.YtkobkpepgdddeaaGreatDoor
open Go.RowKit
set_option maxHeartbeats 16000000
set_option maxRecDepth 100000
def Nums(k:IntKind)(w:World)(a:Option Addr)(l:List Nat):Prop :=
 ∀i,i<l.length→∃g o,a=some ⟨g,o,none⟩∧g<w.heap.size∧w.cell? ⟨g,o+i,none⟩=some (.int k ((l.getD i 0:Nat):Int))
theorem Nums.below{k:IntKind}{w w':World}{a:Option Addr}{l:List Nat}(h:Nums k w a l)(hb:Below w.heap.size w w'):Nums k w' a l:=fun i hi=>by
 obtain⟨g,o,e,hg,hc⟩:=h i hi;exact⟨g,o,e,Nat.lt_of_lt_of_le hg hb.size,(hb.cell (p:=⟨g,o+i,none⟩) hg).trans hc⟩
theorem Nums.drewN{k:IntKind}{w:World}{a:Option Addr}{l:List Nat}(h:Nums k w a l)(n:Nat):Nums k (w.drewN n) a l:=h
theorem Nums.nil(k:IntKind)(w:World)(a:Option Addr):Nums k w a []:=fun _ hi=>absurd hi (Nat.not_lt_zero _)
theorem Nums.take{k:IntKind}{w:World}{a:Option Addr}{l:List Nat}(h:Nums k w a l)(n:Nat):Nums k w a (l.take n):=fun i hi=>by
 rw[List.length_take]at hi;obtain⟨g,o,e,hg,hc⟩:=h i (by omega);refine⟨g,o,e,hg,hc.trans ?_⟩;rw[List.getD_eq_getElem?_getD,List.getD_eq_getElem?_getD,List.getElem?_take_of_lt (by omega)]
theorem zg9(a:Option Addr)(n c i:Nat)(l:List Nat)(w:World)(hl:l.length=n)(_hn:n≤1000000)(h:Nums .i64 w a l) :
 Calls Tryz.prog 243 #[.slice a n c,.int .i64 i] w fun e w'=>e=.returned (.int .i64 ((l.getD i 0:Nat):Int))∧w=w':=by
 by_cases hi:i<n
 ·obtain⟨g,o,rfl,hg,hc⟩:=h i (by omega)
  obtain⟨x,hx⟩:∃x,x=l.getD i 0:=⟨_,rfl⟩
  rw[←hx]at hc ⊢;clear h hl hg hx;go_enter Tryz.func243,Tryz.ntmps243;go_wp2;go_ret;exact⟨rfl,rfl⟩
 ·have hx:l.getD i 0=0:=by rw[List.getD_eq_getElem?_getD,List.getElem?_eq_none (by omega)];rfl
  rw[hx];clear h hl hx;go_enter Tryz.func243,Tryz.ntmps243;go_wp2;go_ret;exact⟨rfl,rfl⟩
theorem zea{l:List Nat}{i:Nat}(h:l.length≤i):l.getD i 0=0:=by
 rw[List.getD_eq_getElem?_getD,List.getElem?_eq_none h];rfl
def GrR(la lb:List Nat)(M:Nat)(i:Value):Prop:=∃k:Int,-1≤k∧k<M∧i=.int .i64 k∧∀j:Nat,k<j→la.getD j 0=lb.getD j 0
theorem znm(la lb:List Nat)(M:Nat)(h1:la.length≤M)(h2:lb.length≤M):GrR la lb M (.int .i64 ((M:Int)-1)) :=
 ⟨(M:Int)-1,by omega,by omega,rfl,fun j hj=>by rw[zea (by omega),zea (by omega)]⟩
theorem zwx(a b:Option Addr)(n m c d:Nat)(la lb:List Nat)(w:World)(Zt:la.length=n)(ZC:lb.length=m)(hn:n≤1000000)(hm:m≤1000000)
 (da:∀x ∈ la,x<10) (db:∀x ∈ lb,x<10) (ha:Nums .i64 w a la) (hb:Nums .i64 w b lb) (YW:m≤n) :
 Calls Tryz.prog 223 #[.slice a n c,.slice b m d] w fun e w'=>e=.returned (.int .i64 (cmpN (dval la) (dval lb)))∧w=w':=by
 have HS:=Z9 (znm la lb n (by omega) (by omega))
 have hA:∀j:Nat,Calls Tryz.prog 243 #[.slice a n c,.int .i64 j] w fun e w'=>e=.returned (.int .i64 ((la.getD j 0:Nat):Int))∧w=w':=fun j=>zg9 a n c j la w Zt hn ha
 have hB:∀j:Nat,Calls Tryz.prog 243 #[.slice b m d,.int .i64 j] w fun e w'=>e=.returned (.int .i64 ((lb.getD j 0:Nat):Int))∧w=w':=fun j=>zg9 b m d j lb w ZC hm hb
 have HA:=Z9 hA;have HB:=Z9 hB;have DA:=Z9 da;have DB:=Z9 db;clear Zt ZC ha hb da db hA hB;go_enter Tryz.func223,Tryz.ntmps223;go_wp2_with fail;go_loop [5] (fun i=>GrR la lb n i) (fun i=>(intOf i+1).toNat)
 case atStart=>exact HS.out
 case round =>
  obtain⟨k,Yy,YC,rfl,he⟩:=hrel;have HE:=Z9 he;clear he
  by_cases hk:0≤k
  ·obtain⟨j,rfl⟩:=Int.eq_ofNat_of_zero_le hk
   obtain⟨x,hx⟩:∃x,x=la.getD j 0:=⟨_,rfl⟩
   obtain⟨y,hy⟩:∃y,y=lb.getD j 0:=⟨_,rfl⟩
   have cA:=HA.out j;have cB:=HB.out j;rw[←hx]at cA;rw[←hy]at cB;have CA:=Z9 cA;have CB:=Z9 cB;have HX:=Z9 hx;have HY:=Z9 hy;clear hx hy cA cB
   have hr:(x=y→cmpN (dval la) (dval lb)=cmpN (dval la) (dval lb)∧∀i:Nat,(j:Int)-1<i→la.getD i 0=lb.getD i 0)∧(y<x→cmpN (dval la) (dval lb)=1)∧(x<y→cmpN (dval la) (dval lb) = -1):=by
    refine⟨fun e=>⟨rfl,fun i hi => ?_⟩,fun h=>zdw (zij lb la j DB.out (fun i hi=>(HE.out i (by omega)).symm) (by rw[←HX.out,←HY.out];exact h)),fun h=>ze7 (zij la lb j DA.out (fun i hi=>HE.out i (by omega)) (by rw[←HX.out,←HY.out];exact h))⟩
    by_cases WO:i=j
    ·rw[WO,←HX.out,←HY.out,e]
    ·exact HE.out i (by omega)
   have HR:=Z9 hr;clear hr
   rcases Nat.lt_trichotomy x y with h |h |h
   ·have t1:((x:Int) != (y:Int))=true:=by rw[bne_iff_ne];omega
    have HQ:=Z9 (HR.out.2.2 h);go_wp2_with fail;refine CA.out.mono ?_;rintro e w' ⟨rfl,rfl⟩;go_wp2_with fail;refine CB.out.mono ?_;rintro e w' ⟨rfl,rfl⟩;go_wp2_with fail;refine CA.out.mono ?_;rintro e w' ⟨rfl,rfl⟩;go_wp2_with fail;refine CB.out.mono ?_;rintro e w' ⟨rfl,rfl⟩;go_wp2_with fail;go_ret;exact⟨zax HQ.out.symm,rfl⟩
   ·have HQ:=Z9 (HR.out.1 h).2
    have HXY:=Z9 h;have t1:((x:Int) != (y:Int))=false:=by rw[h];simp
    clear h;go_wp2_with fail;refine CA.out.mono ?_;rintro e w' ⟨rfl,rfl⟩;go_wp2_with fail;refine CB.out.mono ?_;rintro e w' ⟨rfl,rfl⟩;go_wp2_with fail;go_round
    case rel=>exact⟨(j:Int)-1,by omega,by omega,rfl,HQ.out⟩
    case measure=>simp[intOf]<;>omega
   ·have t1:((x:Int) != (y:Int))=true:=by rw[bne_iff_ne];omega
    have HQ:=Z9 (HR.out.2.1 h);go_wp2_with fail;refine CA.out.mono ?_;rintro e w' ⟨rfl,rfl⟩;go_wp2_with fail;refine CB.out.mono ?_;rintro e w' ⟨rfl,rfl⟩;go_wp2_with fail;refine CA.out.mono ?_;rintro e w' ⟨rfl,rfl⟩;go_wp2_with fail;refine CB.out.mono ?_;rintro e w' ⟨rfl,rfl⟩;go_wp2_with fail;go_ret;exact⟨zax HQ.out.symm,rfl⟩
  ·have HQ:=Z9 (zfw (zlw la lb fun j=>HE.out j (by omega)))
   go_wp2_with fail;go_ret;exact⟨zax HQ.out.symm,rfl⟩
theorem zww(a b:Option Addr)(n m c d:Nat)(la lb:List Nat)(w:World)(Zt:la.length=n)(ZC:lb.length=m)(hn:n≤1000000)(hm:m≤1000000)
 (da:∀x ∈ la,x<10) (db:∀x ∈ lb,x<10) (ha:Nums .i64 w a la) (hb:Nums .i64 w b lb) (YW:n<m) :
 Calls Tryz.prog 223 #[.slice a n c,.slice b m d] w fun e w'=>e=.returned (.int .i64 (cmpN (dval la) (dval lb)))∧w=w':=by
 have HS:=Z9 (znm la lb m (by omega) (by omega))
 have hA:∀j:Nat,Calls Tryz.prog 243 #[.slice a n c,.int .i64 j] w fun e w'=>e=.returned (.int .i64 ((la.getD j 0:Nat):Int))∧w=w':=fun j=>zg9 a n c j la w Zt hn ha
 have hB:∀j:Nat,Calls Tryz.prog 243 #[.slice b m d,.int .i64 j] w fun e w'=>e=.returned (.int .i64 ((lb.getD j 0:Nat):Int))∧w=w':=fun j=>zg9 b m d j lb w ZC hm hb
 have HA:=Z9 hA;have HB:=Z9 hB;have DA:=Z9 da;have DB:=Z9 db;clear Zt ZC ha hb da db hA hB;go_enter Tryz.func223,Tryz.ntmps223;go_wp2_with fail;go_loop [5] (fun i=>GrR la lb m i) (fun i=>(intOf i+1).toNat)
 case atStart=>exact HS.out
 case round =>
  obtain⟨k,Yy,YC,rfl,he⟩:=hrel;have HE:=Z9 he;clear he
  by_cases hk:0≤k
  ·obtain⟨j,rfl⟩:=Int.eq_ofNat_of_zero_le hk
   obtain⟨x,hx⟩:∃x,x=la.getD j 0:=⟨_,rfl⟩
   obtain⟨y,hy⟩:∃y,y=lb.getD j 0:=⟨_,rfl⟩
   have cA:=HA.out j;have cB:=HB.out j;rw[←hx]at cA;rw[←hy]at cB;have CA:=Z9 cA;have CB:=Z9 cB;have HX:=Z9 hx;have HY:=Z9 hy;clear hx hy cA cB
   have hr:(x=y→cmpN (dval la) (dval lb)=cmpN (dval la) (dval lb)∧∀i:Nat,(j:Int)-1<i→la.getD i 0=lb.getD i 0)∧(y<x→cmpN (dval la) (dval lb)=1)∧(x<y→cmpN (dval la) (dval lb) = -1):=by
    refine⟨fun e=>⟨rfl,fun i hi => ?_⟩,fun h=>zdw (zij lb la j DB.out (fun i hi=>(HE.out i (by omega)).symm) (by rw[←HX.out,←HY.out];exact h)),fun h=>ze7 (zij la lb j DA.out (fun i hi=>HE.out i (by omega)) (by rw[←HX.out,←HY.out];exact h))⟩
    by_cases WO:i=j
    ·rw[WO,←HX.out,←HY.out,e]
    ·exact HE.out i (by omega)
   have HR:=Z9 hr;clear hr
   rcases Nat.lt_trichotomy x y with h |h |h
   ·have t1:((x:Int) != (y:Int))=true:=by rw[bne_iff_ne];omega
    have HQ:=Z9 (HR.out.2.2 h);go_wp2_with fail;refine CA.out.mono ?_;rintro e w' ⟨rfl,rfl⟩;go_wp2_with fail;refine CB.out.mono ?_;rintro e w' ⟨rfl,rfl⟩;go_wp2_with fail;refine CA.out.mono ?_;rintro e w' ⟨rfl,rfl⟩;go_wp2_with fail;refine CB.out.mono ?_;rintro e w' ⟨rfl,rfl⟩;go_wp2_with fail;go_ret;exact⟨zax HQ.out.symm,rfl⟩
   ·have HQ:=Z9 (HR.out.1 h).2
    have HXY:=Z9 h;have t1:((x:Int) != (y:Int))=false:=by rw[h];simp
    clear h;go_wp2_with fail;refine CA.out.mono ?_;rintro e w' ⟨rfl,rfl⟩;go_wp2_with fail;refine CB.out.mono ?_;rintro e w' ⟨rfl,rfl⟩;go_wp2_with fail;go_round
    case rel=>exact⟨(j:Int)-1,by omega,by omega,rfl,HQ.out⟩
    case measure=>simp[intOf]<;>omega
   ·have t1:((x:Int) != (y:Int))=true:=by rw[bne_iff_ne];omega
    have HQ:=Z9 (HR.out.2.1 h);go_wp2_with fail;refine CA.out.mono ?_;rintro e w' ⟨rfl,rfl⟩;go_wp2_with fail;refine CB.out.mono ?_;rintro e w' ⟨rfl,rfl⟩;go_wp2_with fail;refine CA.out.mono ?_;rintro e w' ⟨rfl,rfl⟩;go_wp2_with fail;refine CB.out.mono ?_;rintro e w' ⟨rfl,rfl⟩;go_wp2_with fail;go_ret;exact⟨zax HQ.out.symm,rfl⟩
  ·have HQ:=Z9 (zfw (zlw la lb fun j=>HE.out j (by omega)))
   go_wp2_with fail;go_ret;exact⟨zax HQ.out.symm,rfl⟩
theorem zji(a b:Option Addr)(n m c d:Nat)(la lb:List Nat)(w:World)(Zt:la.length=n)(ZC:lb.length=m)(hn:n≤1000000)(hm:m≤1000000)
 (da:∀x ∈ la,x<10) (db:∀x ∈ lb,x<10) (ha:Nums .i64 w a la) (hb:Nums .i64 w b lb) :
 Calls Tryz.prog 223 #[.slice a n c,.slice b m d] w fun e w'=>e=.returned (.int .i64 (cmpN (dval la) (dval lb)))∧w=w':=by
 rcases Nat.lt_or_ge n m with h |h
 ·exact zww a b n m c d la lb w Zt ZC hn hm da db ha hb h
 ·exact zwx a b n m c d la lb w Zt ZC hn hm da db ha hb h
theorem zfz(a:Option Addr)(n c:Nat)(la:List Nat)(w:World)(Zt:la.length=n)(hn:n≤1000000)(da:∀x ∈ la,x<10)(ha:Nums .i64 w a la) :
 Calls Tryz.prog 199 #[.slice a n c] w fun e w'=>e=.returned (.bool (decide (dval la=0)))∧w=w':=by
 have hg:=zji a none n 0 c 0 la [] w Zt rfl hn (by omega) da (by simp) ha (Nums.nil _ _ _)
 by_cases h:dval la=0
 ·have e:cmpN (dval la) (dval [])=0:=zfw h
  have e2:decide (dval la=0)=true:=by simpa using h
  rw[e]at hg;rw[e2];have HG:=Z9 hg;clear hg e e2 h Zt da ha;go_enter Tryz.func199,Tryz.ntmps199;go_wp2_with fail;refine HG.out.mono ?_;rintro e w' ⟨rfl,rfl⟩;go_wp2_with fail;go_ret;exact⟨rfl,rfl⟩
 ·have e:cmpN (dval la) (dval [])=1:=zdw (by show 0<_;omega)
  have e2:decide (dval la=0)=false:=by simpa using h
  rw[e]at hg;rw[e2];have HG:=Z9 hg;clear hg e e2 h Zt da ha;go_enter Tryz.func199,Tryz.ntmps199;go_wp2_with fail;refine HG.out.mono ?_;rintro e w' ⟨rfl,rfl⟩;go_wp2_with fail;go_ret;exact⟨rfl,rfl⟩
theorem zgl:(Tryz.prog.info? 3).map (fun i=>(i.zero,i.size,i.bytes))=some (some (.int .i64 0),1,8):=by kernel_rfl
def nums(k:IntKind)(l:List Nat):List Value:=l.map fun x:Nat=>Value.int k (x:Int)
theorem za5(k:IntKind)(l:List Nat):(nums k l).length=l.length:=by simp[nums]
theorem zbo(k:IntKind)(l:List Nat)(x:Nat):nums k l ++ [.int k (x:Int)]=nums k (l ++ [x]):=by simp[nums]
theorem zbr(k:IntKind)(l:List Nat)(i:Nat)(h:i<l.length):(nums k l)[i]?=some (.int k ((l.getD i 0:Nat):Int)):=by
 simp[nums,List.getElem?_eq_getElem h]
theorem zau{k:IntKind}{w:World}{B e:Nat}{v:Value}{n:Nat}{l:List Nat}(h:w.ownsRow B e 1 v n (nums k l)) :
 ∃a c,v=.slice a n c∧l.length=n∧n≤c∧Nums k w a l:=by
 have hn:l.length=n:=by have:=h.1;rw[za5]at this;omega
 rcases zbd h with⟨rfl,rfl,_⟩ |⟨g,c,rfl,_,hc,_,_,hr⟩
 ·exact⟨none,0,rfl,hn,Nat.le_refl _,fun i hi=>by omega⟩
 ·refine⟨_,c,rfl,hn,hc,fun i hi=>⟨g,0,rfl,hr.lt,?_⟩⟩
  rw[Nat.zero_add,hr.cell (by rw[za5];exact hi),zbr k l i hi]
def zj0(k:IntKind)(T:TypeId)(w:World)(P:List Nat→Prop)(e:Ending)(w':World):Prop :=
 ∃v l,e=.returned v∧w'.ownsRow w.heap.size T 1 v l.length (nums k l)∧P l∧Below w.heap.size w w'
def MinR(w:World)(la lb:List Nat)(n:Nat)(o b i:Value)(wr:World):Prop :=
 ∃(k br:Nat)(out:List Nat),k≤n∧i=.int .i64 k∧b=.int .i64 br∧wr.ownsRow w.heap.size 3 1 o k (nums .i64 out)∧zed la lb out k br∧Below w.heap.size w wr
theorem zko(a b:Option Addr)(n m c d:Nat)(la lb:List Nat)(w:World)(Zt:la.length=n)(ZC:lb.length=m)(hn:n≤1000000)(hm:m≤1000000)
 (da:∀x ∈ la,x<10) (db:∀x ∈ lb,x<10) (YW:dval lb≤dval la) (ha:Nums .i64 w a la) (hb:Nums .i64 w b lb) :
 Calls Tryz.prog 224 #[.slice a n c,.slice b m d] w (zj0 .i64 3 w fun l=>l.length=n∧(∀x ∈ l,x<10)∧dval l=dval la-dval lb):=by
 obtain⟨i0,hi,ZN,ZO,ZD⟩:=info_parts zgl;have HLA:=Z9 Zt;have HA:=Z9 ha;have HB:=Z9 hb;have DA:=Z9 da;have DB:=Z9 db;have HLE:=Z9 YW;have HLB:=Z9 ZC;clear Zt ZC ha hb da db YW;go_enter Tryz.func224,Tryz.ntmps224;go_wp2_with fail;go_loopw [5,6,7] (MinR w la lb n) (fun _ _ i _=>n-(intOf i).toNat)
 case atStart=>exact⟨0,0,[],Nat.zero_le _,rfl,rfl,World.ownsRow_nil _ _ _ _,znw _ _,Below.refl _ _⟩
 case round =>
  obtain⟨k,br,out,hk,rfl,rfl,ho,ZB,Zu⟩:=hrel;have HO:=Z9 ho;have HT:=Z9 ZB;have HBL:=Z9 Zu;clear ho ZB Zu
  by_cases Z7:k<n
  ·obtain⟨x,hx⟩:∃x,x=la.getD k 0:=⟨_,rfl⟩
   obtain⟨y,hy⟩:∃y,y=lb.getD k 0:=⟨_,rfl⟩
   obtain⟨g,og,rfl,hg,hc⟩:=HA.out.below HBL.out k (by have:=HLA.out;omega)
   have cB:=fun q=>zg9 b m d k lb (wr.drewN q) HLB.out hm ((HB.out.below HBL.out).drewN q)
   rw[←hx]at hc;rw[←hy]at cB;have hx10:x<10:=by rw[hx];exact zcl la k DA.out
   have hy10:y<10:=by rw[hy];exact zcl lb k DB.out
   have XK:br≤1:=HT.out.2.2.1;have CB:=Z9 cB;have HX:=Z9 hx;have HY:=Z9 hy;clear hx hy cB;have w1:IntKind.i64.wrap ((x:Int)-(y:Int))=(x:Int)-(y:Int):=by rw[IntKind.wrap_i64];omega
   have w2:IntKind.i64.wrap ((x:Int)-(y:Int)-(br:Int))=(x:Int)-(y:Int)-(br:Int):=by rw[IntKind.wrap_i64];omega
   go_wp2_with fail;go_quiet ((go_at_call 243;exact zsl (CB.out _)));clear w1 w2
   by_cases hs:y+br≤x
   ·have st:=znv la lb out k br DA.out HT.out (by rw[←HX.out,←HY.out];exact hs)
    rw[←HX.out,←HY.out]at st;obtain⟨z,hz⟩:∃z:Nat,(x:Int)-(y:Int)-(br:Int)=z∧x-y-br=z:=⟨x-y-br,by omega,rfl⟩
    rw[hz.2]at st;have ST:=Z9 st;have t1:((x:Int)-(y:Int)-(br:Int)<0)=False:=by simp;omega
    have HZ:=Z9 hz;clear st hz;rw[HZ.out.1]at t1 ⊢;obtain⟨wq,VP⟩:∃wq,wq=wr.drewN nq:=⟨_,rfl⟩
    have HOq:Hid (wq.ownsRow w.heap.size 3 1 u5 k (nums .i64 out)):=by rw[VP];exact HO.out
    have HBq:Hid (Below w.heap.size w wq):=by rw[VP];exact zav HBL.out nq
    rw[←VP];clear VP hc t1;go_wp2_with (at_builtin;refine zas _ rfl (.tmp 29) (.tmp 31) 37 rfl w.heap.size 3 i0 (.int .i64 0) 8 Tryz.underlying37 hi ZN ZO ZD rfl _ _ _ rfl (HOq.out.alloc _) ⟨wq.heap.size,0,none⟩ 1 (.int .i64 z) rfl ?c1 rfl ?c3 ?c4 ?c5 ?_)
    case c1=>simp
    case c3=>unfold maxLen;omega
    case c4=>omega
    case c5=>have:=HBq.out.size;simp;omega
    intro v1 w1 Zg Ze YT YL;have n1:Below w.heap.size w w1:=(HBq.out.alloc HBq.out.size _).grown Ze (by have:=HBq.out.size;simp;omega) (fun k hk=>(HOq.out.lt k hk).1);rw[zbo]at Zg;have HO1:=Z9 Zg;have N1:=Z9 n1;clear Zg n1 Ze YT YL;go_wp2_with fail;go_roundw
    case rel=>exact⟨k+1,0,out ++ [z],by omega,by go_num,rfl,HO1.out,ST.out,N1.out⟩
    case measure=>simp[intOf]<;>omega
   ·have st:=znu la lb out k br DB.out HT.out (by rw[←HX.out,←HY.out];omega)
    rw[←HX.out,←HY.out]at st;obtain⟨z,hz⟩:∃z:Nat,(x:Int)-(y:Int)-(br:Int)=(z:Int)-10∧x+10-y-br=z:=⟨x+10-y-br,by omega,rfl⟩
    have hz10:(z:Int)<10:=by omega
    rw[hz.2]at st;have ST:=Z9 st;have HZ:=Z9 hz;clear st hz;rw[HZ.out.1];obtain⟨wq,VP⟩:∃wq,wq=wr.drewN nq:=⟨_,rfl⟩
    have HOq:Hid (wq.ownsRow w.heap.size 3 1 u5 k (nums .i64 out)):=by rw[VP];exact HO.out
    have HBq:Hid (Below w.heap.size w wq):=by rw[VP];exact zav HBL.out nq
    rw[←VP];clear VP hc;go_wp2_with (at_builtin;refine zas _ rfl (.tmp 29) (.tmp 31) 37 rfl w.heap.size 3 i0 (.int .i64 0) 8 Tryz.underlying37 hi ZN ZO ZD rfl _ _ _ rfl (HOq.out.alloc _) ⟨wq.heap.size,0,none⟩ 1 (.int .i64 z) rfl ?c1 rfl ?c3 ?c4 ?c5 ?_)
    case c1=>simp
    case c3=>unfold maxLen;omega
    case c4=>omega
    case c5=>have:=HBq.out.size;simp;omega
    intro v1 w1 Zg Ze YT YL;have n1:Below w.heap.size w w1:=(HBq.out.alloc HBq.out.size _).grown Ze (by have:=HBq.out.size;simp;omega) (fun k hk=>(HOq.out.lt k hk).1);rw[zbo]at Zg;have HO1:=Z9 Zg;have N1:=Z9 n1;clear Zg n1 Ze YT YL;go_wp2_with fail;go_roundw
    case rel=>exact⟨k+1,1,out ++ [z],by omega,by go_num,rfl,HO1.out,ST.out,N1.out⟩
    case measure=>simp[intOf]<;>omega
  ·have UC:k=n:=by omega
   subst UC;have hv:=ztq la lb out br DA.out HLE.out (by rw[HLA.out];exact HT.out);have HV:=Z9 hv;clear hv;go_wp2_with fail;go_ret;have ho:=HO.out;rw[←HT.out.1]at ho;exact⟨_,out,rfl,ho,⟨HT.out.1,HT.out.2.1,HV.out⟩,HBL.out⟩
def Rest(w:World)(gq:Nat)(v:Value)(r:List Nat):Prop :=
 (v=.slice none 0 0∧r=[]) ∨
 ∃g o c,v=.slice (some ⟨g,o,none⟩) r.length c∧1≤r.length∧r.length≤c∧gq<g∧g<w.heap.size∧∀i,i<r.length→w.cell? ⟨g,o+i,none⟩=some (.int .i64 ((r.getD i 0:Nat):Int))
theorem Rest.read{w:World}{gq:Nat}{v:Value}{r:List Nat}(h:Rest w gq v r):∃a c,v=.slice a r.length c∧r.length≤c∧Nums .i64 w a r:=by
 rcases h with⟨rfl,rfl⟩ |⟨g,o,c,rfl,_,hc,_,hg,Z1⟩
 ·exact⟨none,0,rfl,Nat.le_refl _,Nums.nil _ _ _⟩
 ·exact⟨_,c,rfl,hc,fun i hi=>⟨g,o,rfl,hg,Z1 i hi⟩⟩
theorem Rest.of_owns{w:World}{gq B e:Nat}{v:Value}{n:Nat}{r:List Nat}(h:w.ownsRow B e 1 v n (nums .i64 r))(hB:gq<B)(hn:1≤n):Rest w gq v r:=by
 have hl:r.length=n:=by have:=h.1;rw[za5]at this;omega
 rcases zbd h with⟨rfl,h0,_⟩ |⟨g,c,rfl,hb,hc,_,_,hr⟩
 ·omega
 ·refine .inr ⟨g,0,c,by rw[hl],by omega,by omega,by omega,hr.lt,fun i hi => ?_⟩
  rw[Nat.zero_add,hr.cell (by rw[za5];exact hi),zbr _ r i hi]
theorem Rest.kept{w w':World}{gq:Nat}{v:Value}{r:List Nat}(h:Rest w gq v r)(hg:w.grownBy w' (some gq)):Rest w' gq v r:=by
 rcases h with h |⟨g,o,c,e,h1,hc,hq,Z7,Z1⟩
 ·exact .inl h
 ·refine .inr ⟨g,o,c,e,h1,hc,hq,Nat.lt_of_lt_of_le Z7 hg.size,fun i hi => ?_⟩
  refine hg.cell (a:=⟨g,o+i,none⟩) (Z1 i hi) ?_;intro e
  injection e with e
  simp at e;omega
theorem zzc(k:IntKind)(l:List Nat):∀u ∈ nums k l,u.oneCell'=true:=by
 intro u hu;unfold nums at hu;obtain⟨x,_,rfl⟩:=List.mem_map.1 hu;rfl
theorem zjw(g o n:Nat):(⟨g,o,none⟩:Addr).add n=⟨g,o+n,none⟩:=by
 unfold Addr.add
 split
 ·rename_i h;subst h;rfl
 ·rfl
theorem ze0(k:IntKind)(l:List Nat)(i x:Nat):(nums k l).set i (.int k (x:Int))=nums k (l.set i x):=by simp[nums,List.map_set]
def z47(w:World)(V n:Nat)(A:Nat)(e:Ending)(w':World):Prop :=
 ∃a1 c1 q a2 c2 r,e=.returned (.tuple #[.slice a1 n c1,.slice a2 r.length c2])∧n≤c1∧r.length≤c2∧q.length=n∧Nums .i64 w' a1 q∧Nums .i64 w' a2 r ∧
  (∀x ∈ q,x<10)∧(∀x ∈ r,x<10)∧dval q=A / V∧dval r=A % V∧r.length≤(decN V).length+1∧Below w.heap.size w w'
def z7q(lb:List Nat)(m:Nat)(v:Value):Prop:=∃j:Nat,j+1≤m∧v=.int .i64 ((j:Int)+1)∧dval (lb.take (j+1))=dval lb
def DivR(w:World)(gq k n:Nat)(la lb:List Nat)(rv iv:Value)(wr:World):Prop :=
 ∃(i:Nat)(q r:List Nat),i≤n∧iv=.int .i64 ((i:Int)-1)∧Rest wr gq rv r∧RowAt wr gq 3 (nums .i64 q)∧zoi la lb q r i∧r.length≤k+2∧Below w.heap.size w wr
def DivI(w:World)(gq k:Nat)(la lb:List Nat)(i:Nat)(gk:Nat)(rv:Value)(wr:World):Prop :=
 ∃(c:Nat)(q r:List Nat),gk=dval r∧Rest wr gq rv r∧RowAt wr gq 3 (nums .i64 q)∧zhz la lb q r i c∧1≤r.length∧r.length≤k+2∧Below w.heap.size w wr
theorem zsw(n:Nat)(w:World)(t:TypeId):RowAt (w.alloc (.cells (madeCells #[.int .i64 0] n) t)) w.heap.size t (nums .i64 (List.replicate n 0)):=by
 refine zck rfl ?_;apply List.ext_getElem
 ·simp[nums,size_madeCells]
 ·intro i h1 h2
  simp[nums,madeCells,Nat.mod_one]
def CutA(w:World)(x:Nat)(q r:List Nat)(v:Value)(wx:World):Prop :=
 Rest wx w.heap.size v (x :: r)∧RowAt wx w.heap.size 3 (nums .i64 q)∧Below w.heap.size w wx
def CutB(w:World)(la lb q:List Nat)(i j:Nat)(v:Value)(wx:World):Prop :=
 ∃r,Rest wx w.heap.size v r∧RowAt wx w.heap.size 3 (nums .i64 q)∧Below w.heap.size w wx∧zhz la lb q r i 0∧1≤r.length∧r.length≤j+2
theorem ze6(a b:Option Addr)(n m c d:Nat)(la lb:List Nat)(w:World)(Zt:la.length=n)(ZC:lb.length=m)(hn:n≤900000)(hm:m≤900000)(UE:m≤d)
 (da:∀x ∈ la,x<10) (db:∀x ∈ lb,x<10) (h0:0<dval lb) (ha:Nums .i64 w a la) (hb:Nums .i64 w b lb) :
 Calls Tryz.prog 200 #[.slice a n c,.slice b m d] w (z47 w (dval lb) n (dval la)):=by
 obtain⟨i0,hi,ZN,ZO,ZD⟩:=info_parts zgl
 have Xk:1≤m:=by
  rcases Nat.eq_zero_or_pos m with h |h
  ·rw[h]at ZC;rw[List.eq_nil_of_length_eq_zero ZC]at h0;simp[dval]at h0
  ·exact h
 obtain⟨gb,ob,rfl,Ya,_⟩:=hb 0 (by omega)
 have hbc:∀j,j<m→w.cell? ⟨gb,ob+j,none⟩=some (.int .i64 ((lb.getD j 0:Nat):Int)):=fun j hj=>by
  obtain⟨g,o,e,_,hc⟩:=hb j (by omega)
  injection e with e;injection e with e1 e2
  subst e1 e2;exact hc
 have HLA:=Z9 Zt;have HA:=Z9 ha;have HB:=Z9 hb;have HBC:=Z9 hbc;have DA:=Z9 da;have DB:=Z9 db;have H0:=Z9 h0;have HLB:=Z9 ZC;clear Zt ZC ha hb da db h0 hbc;go_enter Tryz.func200,Tryz.ntmps200;go_wp2_with fail;go_loop [6] (z7q lb m) (fun v=>(intOf v).toNat)
 case atStart=>exact⟨m-1,by omega,by congr 1;omega,by rw[List.take_of_length_le (by have:=HLB.out;omega)]⟩
 case round =>
  obtain⟨j,hj,rfl,hv⟩:=hrel;have HV:=Z9 hv;clear hv;have hcj:=HBC.out j (by omega);obtain⟨y,hy⟩:∃y,y=lb.getD j 0:=⟨_,rfl⟩
  rw[←hy]at hcj;have HY:=Z9 hy;clear hy;obtain⟨B,hB⟩:∃B:Bool,B=decide (1≤j∧y=0):=⟨_,rfl⟩
  have HBB:=Z9 hB;clear hB
  go_upto_region 2 with(fail)
  go_cut [21] (fun s wx=>s=.bool B∧w=wx)
  case first=>as_aux_lemma =>
   by_cases hz:j<1
   ·have e:B=false:=by rw[HBB.out];simp;omega
    have E:=Z9 e;clear e;go_wp2_with fail;go_meet;exact⟨by rw[E.out],rfl⟩
   ·by_cases hy:y=0
    ·have e:B=true:=by rw[HBB.out];simp;omega
     have t1:((y:Int) == 0)=true:=by rw[beq_iff_eq];omega
     have E:=Z9 e;clear e hy;go_wp2_with fail;go_meet;exact⟨by rw[E.out],rfl⟩
    ·have e:B=false:=by rw[HBB.out];simp;omega
     have t1:((y:Int) == 0)=false:=by rw[beq_eq_false_iff_ne];omega
     have E:=Z9 e;clear e hy;go_wp2_with fail;go_meet;exact⟨by rw[E.out],rfl⟩
  case rest=>as_aux_lemma =>
   obtain⟨rfl,rfl⟩:=hcut
   cases B with
   |true =>
    have VZ:1≤j∧y=0:=by have:=HBB.out;simpa using this.symm
    have hn:=zho lb j HV.out (by rw[←HY.out];exact VZ.2);obtain⟨jp,rfl⟩:∃jp,j=jp+1:=⟨j-1,by omega⟩
    have HN:=Z9 hn;clear hn VZ;go_wp2_with fail;go_round
    case rel=>exact⟨jp,by omega,by simp,HN.out⟩
    case measure=>simp[intOf]<;>omega
   |false =>
    have VZ:¬(1≤j∧y=0):=by have:=HBB.out;simpa using this.symm
    have Z5:=zw1 lb j (by have:=HLB.out;omega) DB.out HV.out (by
     rcases Nat.eq_zero_or_pos j with h |h
     ·exact .inl h
     ·right;rw[←HY.out];intro h2;exact VZ ⟨h,h2⟩)
    have HLEN:=Z9 Z5;clear VZ Z5 hcj HY;have hjd:j+1≤d:=by omega
    have VU:∀W,Below w.heap.size w W→Nums .i64 W (some ⟨gb,ob,none⟩) (lb.take (j+1)):=fun W hW=>(HB.out.below hW).take _
    have HBT:=Z9 VU;have Zu:(lb.take (j+1)).length=j+1:=by rw[List.length_take];have:=HLB.out;omega
    have HBL:=Z9 Zu;clear VU Zu;go_wp2_with (at_make;refine wpList_make_row _ rfl _ _ 37 rfl 3 i0 (.int .i64 0) Tryz.underlying37 hi ZN ZO rfl .i64 .i64 n rfl rfl ?m1 ?m2 ?_)
    case m1=>omega
    case m2=>omega
    obtain⟨W0,Z3⟩:∃W0,W0=w.alloc (.cells (madeCells #[.int .i64 0] n) 3):=⟨_,rfl⟩
    have Zr:DivR w w.heap.size j n la lb (.slice none 0 0) (.int .i64 ((n:Int)-1)) W0:=by
     rw[Z3];exact⟨n,List.replicate n 0,[],Nat.le_refl _,rfl,.inl ⟨rfl,rfl⟩,zsw n w _,by have:=zts la lb H0.out;rwa [HLA.out]at this,by simp,(Below.refl _ _).alloc (Nat.le_refl _) _⟩
    have ZA:=Z9 Zr;rw[←Z3];clear Zr Z3;go_loopw [8,9] (DivR w w.heap.size j n la lb) (fun _ i _=>(intOf i+1).toNat)
    case atStart=>exact ZA.out
    case round =>
     obtain⟨i,q,r,VJ,rfl,YM,YU,ZB,WD,Z6⟩:=hrel;have HR:=Z9 YM;have HQ:=Z9 YU;have ZI:=Z9 ZB;have HBEL:=Z9 Z6;clear YM YU ZB Z6
     by_cases UW:1≤i
     ·obtain⟨ip,rfl⟩:∃ip,i=ip+1:=⟨i-1,by omega⟩
      obtain⟨x,hx⟩:∃x,x=la.getD ip 0:=⟨_,rfl⟩
      obtain⟨ga,oa,rfl,T3,S4⟩:=HA.out.below HBEL.out ip (by have:=HLA.out;omega);rw[←hx]at S4;have hin1:=z4r la lb q r ip DA.out ZI.out;rw[←hx]at hin1;have HIN:=Z9 hin1
      have X2:(wr.alloc (.cells #[.int .i64 (x:Int)] 3)).ownsRow wr.heap.size 3 1 (.slice (some ⟨wr.heap.size,0,none⟩) 1 1) 1 [.int .i64 (x:Int)] :=
       World.ownsRow_lit wr #[.int .i64 (x:Int)] 1 (Nat.le_refl _) (by unfold maxLen;omega) (by simp)
      have HLIT:=Z9 X2;clear hx hin1 X2;rw[show(((ip+1:Nat):Int)-1)=(ip:Int)by omega]
      go_upto_region 10 with(fail)
      go_cut [8] (fun v wx=>CutA w x q r v wx)
      case first=>as_aux_lemma =>
       rcases HR.out with⟨rfl,rfl⟩ |⟨g,o,cr,rfl,h1,h2,h3,h4,h5⟩
       ·go_wp2_with (at_builtin;refine wpList_append_own_none rfl (.tmp 41) (.tmp 42) 37 rfl wr.heap.size 3 i0 1 Tryz.underlying37 hi _ _ _ rfl HLIT.out rfl ?_)
        go_meet;refine⟨Rest.of_owns (B:=wr.heap.size) (e:=3) (n:=1) HLIT.out (Nat.lt_of_lt_of_le HQ.out.lt (Nat.le_refl _)) (Nat.le_refl _),HQ.out.alloc _,HBEL.out.alloc HBEL.out.size _⟩
       ·have H5:=Z9 h5
        clear h5;go_wp2_with (at_builtin;refine wpList_append_own _ rfl (.tmp 41) (.tmp 42) 37 rfl wr.heap.size 3 i0 (.int .i64 0) 1 8 Tryz.underlying37 hi ZN ZO ZD rfl (by decide) _ _ _ rfl HLIT.out ⟨g,o,none⟩ r.length cr (nums .i64 r) rfl ?c0 ?c1 ?c2 ?c3 ?c4 ?c5 ?_)
        case c0=>rw[za5];omega
        case c1 =>
         intro e u he;have Zq:e<r.length:=by rw[←za5 .i64 r];exact(List.getElem?_eq_some_iff.1 he).1
         rw[zjw,World.cell?_alloc_past _ _ _ (by show g<_;exact h4)];rw[zbr _ _ _ Zq]at he;rw[H5.out e Zq];exact he
        case c2=>exact zzc _ _
        case c3=>unfold maxLen;omega
        case c4=>omega
        case c5=>simp
        intro v7 w7 ho Y1 _;have n1:Below w.heap.size w w7:=(HBEL.out.alloc HBEL.out.size _).grown Y1 (by simp;have:=HBEL.out.size;omega) (fun k hk=>by simp[Value.ownBlock]at hk;have:=HBEL.out.size;omega);have R7:Hid (Rest w7 w.heap.size v7 (x :: r)):=Rest.of_owns (B:=wr.heap.size) (e:=3) (n:=1+r.length) ho HQ.out.lt (by omega);have Q7:Hid (RowAt w7 w.heap.size 3 (nums .i64 q)):=(HQ.out.alloc _).kept Y1 (by simp[Value.ownBlock];have:=HQ.out.lt;omega);have N7:=Z9 n1;clear ho Y1 n1;go_wp2_with fail;go_meet;exact⟨R7.out,Q7.out,N7.out⟩
      case rest=>as_aux_lemma =>
       obtain⟨ra,qa,ba⟩:=hcut;have RA:=Z9 ra;have QA:=Z9 qa;have BA:=Z9 ba;clear ra qa ba HR HQ HBEL HLIT S4
       have Xw:dval lb<10 ^ (j+1):=by
        have h:=zeh (lb.take (j+1)) (fun x hx=>DB.out x (List.mem_of_mem_take hx));rw[HV.out,HBL.out]at h;exact h
       have hcutB:∀v wx,Rest wx w.heap.size v ((x :: r).take (j+1+1))→RowAt wx w.heap.size 3 (nums .i64 q)→Below w.heap.size w wx→CutB w la lb q ip j v wx:=fun v wx h1 h2 h3 =>
        ⟨_,h1,h2,h3,z0d la lb q (x :: r) ip 0 (j+1) Xw HIN.out,by rw[List.length_take];simp,by rw[List.length_take];omega⟩
       have HCB:=Z9 hcutB;clear hcutB Xw
       rcases RA.out with⟨_,h0⟩ |⟨g,o,cr,rfl,h1,h2,h3,h4,h5⟩
       ·cases h0
       rw[List.length_cons]at h2 ⊢;have H5:=Z9 h5;clear h1 h5
       go_upto_if 48 with(fail)
       go_cut [8] (fun v wx=>CutB w la lb q ip j v wx)
       case first=>as_aux_lemma =>
        by_cases hlong:j+2<r.length+1
        ·go_wp2_with fail
         go_meet;refine HCB.out _ _ (.inr ⟨g,o,cr,?_,?_,?_,h3,h4,fun e he => ?_⟩) QA.out BA.out
         ·congr 1;rw[List.length_take,List.length_cons];omega
         ·rw[List.length_take,List.length_cons];omega
         ·rw[List.length_take,List.length_cons];omega
         ·rw[List.length_take]at he
          rw[List.getD_eq_getElem?_getD,List.getElem?_take_of_lt (by omega),←List.getD_eq_getElem?_getD];exact H5.out e (by omega)
        ·go_wp2_with fail
         go_meet;refine HCB.out _ _ ?_ QA.out BA.out;rw[List.take_of_length_le (by rw[List.length_cons];omega)];exact RA.out
       case rest=>as_aux_lemma =>
        clear HCB RA QA BA H5 HIN h2 h3 h4;obtain⟨r2,rb,qb,bb,ib,l1,l2⟩:=hcut;have HST2:Hid (DivI w w.heap.size j la lb ip (dval r2) u8 wc):=⟨0,q,r2,rfl,rb,qb,ib,l1,l2,bb⟩;clear rb qb bb ib l1 l2;go_wp2_with fail;go_loopg [8] (dval r2) (fun k v wr=>DivI w w.heap.size j la lb ip k v wr)
        case atStart=>exact HST2.out
        case round =>
         obtain⟨w1,rfl⟩:∃w1:World,w1=wr:=⟨_,rfl⟩
         obtain⟨cc,q,r,rfl,rb,qb,ib,l1,l2,bb⟩:=hrel;have RB:=Z9 rb;obtain⟨ar,cr,rfl,VW,U1⟩:=rb.read;have QB:=Z9 qb;have BB:=Z9 bb;have IB:=Z9 ib;have dr:=Z9 ib.2.2.1;have hV:dval (lb.take (j+1))=dval lb:=HV.out;have hg:=zji ar (some ⟨gb,ob,none⟩) r.length (j+1) cr d r (lb.take (j+1)) w1 rfl HBL.out (by omega) (by omega) dr.out (fun x hx=>DB.out x (List.mem_of_mem_take hx)) U1 (HBT.out _ bb);rw[hV]at hg
         by_cases YW:dval lb≤dval r
         ·obtain⟨z,hz,ZN⟩:∃z,z=cmpN (dval r) (dval lb)∧0≤z:=⟨_,rfl,by
           rcases Nat.lt_or_ge (dval lb) (dval r)with h |h
           ·rw[zdw h];omega
           ·rw[zfw (by omega)];omega⟩
          rw[←hz]at hg;have Wn:=zko ar (some ⟨gb,ob,none⟩) r.length (j+1) cr d r (lb.take (j+1)) w1 rfl HBL.out (by omega) (by omega) dr.out (fun x hx=>DB.out x (List.mem_of_mem_take hx)) (by rw[hV];exact YW) U1 (HBT.out _ bb);rw[hV]at Wn;have HG:=Z9 hg;have HM:=Z9 Wn;have HLE:=Z9 YW;have hql:q.length=n:=by rw[ib.1];exact HLA.out
          have VO:q.getD ip 0=cc:=ib.2.2.2.2.1;have Zs:cc<10:=by rw[←VO];exact zcl q ip ib.2.1
          have HQL:=Z9 hql;have HQC:=Z9 VO;clear rb qb bb ib U1 hV hg Wn YW hz hql VO;go_wp2_with fail;refine HG.out.mono ?_;rintro e w' ⟨rfl,rfl⟩;go_wp2_with fail;refine HM.out.mono ?_;rintro e w2 ⟨v2,rl,rfl,ho,⟨Zy,YK,ZE⟩,ZS⟩;have q2:=QB.out.below ZS QB.out.lt;have R2:Hid (Rest w2 w.heap.size v2 rl):=Rest.of_owns (B:=w1.heap.size) (e:=3) ho QB.out.lt (by omega);have B2:Hid (Below w.heap.size w w2):=BB.out.trans (ZS.mono BB.out.size)
          have cq:w2.cell? ⟨w.heap.size,ip,none⟩=some (.int .i64 (cc:Int)):=by
           rw[q2.cell (by rw[za5];have:=HQL.out;omega),zbr _ _ _ (by have:=HQL.out;omega),HQC.out]
          have fq:=q2.frozen ip;have Q2:=Z9 q2;have I2:=Z9 (z0a la lb q r rl ip cc (by have:=HLA.out;omega) HLE.out YK ZE IB.out);have HL3:=Z9 ZE;clear ho ZS q2 YK ZE;go_wp2_with fail;go_roundg (dval rl)
          case measure=>rw[HL3.out];have:=HLE.out;have:=H0.out;omega
          case rel =>
           have e1:((cc:Int)+1)=((cc+1:Nat):Int):=by omega
           refine⟨cc+1,q.set ip (cc+1),rl,rfl,R2.out.kept (za1 (zb5 _ _) (.inl rfl) _),?_,I2.out,by omega,by omega,B2.out.setCell (p:=⟨w.heap.size,ip,none⟩) (Nat.le_refl _) _⟩;rw[e1,←ze0];exact Q2.out.set ip _
         ·have hz:cmpN (dval r) (dval lb) = -1:=ze7 (by omega)
          rw[hz]at hg;have HG:=Z9 hg;have HO:=Z9 (z0b la lb q r ip cc (by omega) ib);clear rb qb bb ib U1 hV hg YW hz;go_wp2_with fail;refine HG.out.mono ?_;rintro e w' ⟨rfl,rfl⟩;go_wp2_with fail;go_roundw
          case rel=>exact⟨ip,q,r,by omega,rfl,RB.out,QB.out,HO.out,l2,BB.out⟩
          case measure=>simp[intOf]<;>omega
     ·obtain rfl:i=0:=by omega
      have YS:=z0c la lb q r ZI.out;have HE:=Z9 YS;clear YS;obtain⟨ar,cr,rfl,VW,U1⟩:=HR.out.read;have HN:=Z9 U1;clear U1;go_wp2_with fail;go_ret2;refine⟨some ⟨w.heap.size,0,none⟩,n,q,ar,cr,r,rfl,Nat.le_refl _,VW,ZI.out.1.trans HLA.out,fun e he=>⟨_,0,rfl,HQ.out.lt,?_⟩,HN.out,ZI.out.2.1,ZI.out.2.2.1,HE.out.1,HE.out.2,by have:=HLEN.out;omega,HBEL.out⟩;rw[Nat.zero_add,HQ.out.cell (by rw[za5];exact he),zbr _ _ _ he]
theorem zfq:(Tryz.prog.info? 247).map (fun i=>(i.zero,i.size,i.bytes))=some (some (.int .u32 0),1,4):=by kernel_rfl
theorem zhw{w:World}{B e:Nat}{a:Option Addr}{n c k:Nat}{xs:List Value}(h:w.ownsRow B e 1 (.slice a n c) n xs)(hk:k≤n):w.ownsRow B e 1 (.slice a k c) k (xs.take k):=by
 obtain⟨h1,h2⟩:=h;refine⟨by rw[List.length_take];omega,?_⟩
 rcases h2 with⟨h,_⟩ |⟨g,cap,cur,h,hb,hg,Wp,X1,X5,Vy⟩
 ·injection h with e1 e2 e3
  subst e1 e2 e3;exact .inl ⟨by rw[show k=0 by omega],by omega⟩
 ·injection h with e1 _ e3
  subst e1 e3;refine .inr ⟨g,c,cur,rfl,hb,hg,by omega,X1,X5,?_⟩;rw[←Vy,List.take_take]
  congr 1;omega
theorem zvy(k:IntKind)(l:List Nat)(n:Nat):(nums k l).take n=nums k (l.take n):=by simp[nums,List.map_take]
def zru(w:World)(a:Option Addr)(n c:Nat)(l:List Nat)(e:Ending)(w':World):Prop :=
 (∃k,k≤n∧e=.returned (.slice a k c)∧Rep (l.take k) (val l))∧w=w'
def z7r(a:Option Addr)(n c:Nat)(l:List Nat)(v:Value):Prop:=∃k:Nat,k≤n∧v=.slice a k c∧val (l.take k)=val l
theorem zh9(a:Option Addr)(n c:Nat)(l:List Nat)(w:World)(hl:l.length=n)(hn:n≤1000000)(hc:n≤c)(d:∀x ∈ l,x<Bs)(ha:Nums .u32 w a l) :
 Calls Tryz.prog 248 #[.slice a n c] w (zru w a n c l):=by
 have HL:=Z9 hl;have HA:=Z9 ha;have HD:=Z9 d;clear hl ha d;go_enter Tryz.func248,Tryz.ntmps248;go_wp2_with fail;go_loop [0] (z7r a n c l) (fun v=>match v with | .slice _ k _=>k |_=>0)
 case atStart=>exact⟨n,Nat.le_refl _,rfl,by rw[List.take_of_length_le (by have:=HL.out;omega)]⟩
 case round =>
  obtain⟨k,hk,rfl,hv⟩:=hrel;have HV:=Z9 hv;clear hv
  by_cases Yt:1≤k
  ·obtain⟨j,rfl⟩:∃j,k=j+1:=⟨k-1,by omega⟩
   obtain⟨g,o,rfl,hg,Zv⟩:=HA.out j (by have:=HL.out;omega);obtain⟨y,hy⟩:∃y,y=l.getD j 0:=⟨_,rfl⟩
   rw[←hy]at Zv
   by_cases Zd:y=0
   ·have WS:=zud l j (by rw[←hy];exact Zd)
    have t1:((y:Int) == 0)=true:=by rw[beq_iff_eq];omega
    have HN:=Z9 (WS.symm.trans HV.out);clear WS hy Zd;go_wp2_with fail;go_round
    case rel=>exact⟨j,by omega,rfl,HN.out⟩
    case measure=>simp
   ·have hr:=zqf l (j+1) HD.out (by have:=HL.out;omega) (.inr (by rw[Nat.add_sub_cancel,←hy];exact Zd)) HV.out
    have t1:((y:Int) == 0)=false:=by rw[beq_eq_false_iff_ne];omega
    have HR:=Z9 hr;clear hr hy Zd;go_wp2_with fail;go_ret;exact⟨⟨j+1,hk,rfl,HR.out⟩,rfl⟩
  ·obtain rfl:k=0:=by omega
   have hr:=Z9 (zqf l 0 HD.out (Nat.zero_le _) (.inl rfl) HV.out);go_wp2_with fail;go_ret;exact⟨⟨0,Nat.zero_le _,rfl,hr.out⟩,rfl⟩
theorem zfu{a b:List Nat}{i:Nat}(hl:a.length=b.length)(h:∀j,i≤j→a.getD j 0=b.getD j 0):a.drop i=b.drop i:=by
 apply List.ext_getElem
 ·simp[hl]
 ·intro j h1 h2
  rw[List.length_drop]at h1 h2;have:=h (i+j) (by omega);rw[List.getD_eq_getElem?_getD,List.getD_eq_getElem?_getD,List.getElem?_eq_getElem (by omega),List.getElem?_eq_getElem (by omega)]at this;simpa using this
def CmR(la lb:List Nat)(n:Nat)(i:Value):Prop:=∃k:Int,-1≤k∧k<n∧i=.int .i64 k∧∀j:Nat,k<j→la.getD j 0=lb.getD j 0
theorem zzg(a b:Option Addr)(n m c d:Nat)(w:World)(hn:n≤1000000)(hm:m≤1000000)(h:n≠m) :
 Calls Tryz.prog 246 #[.slice a n c,.slice b m d] w fun e w'=>e=.returned (.int .i64 (cmpN n m))∧∃q,w'=w.drewN q:=by
 rcases Nat.lt_or_ge n m with h1 |h1
 ·have t1:((n:Int) != (m:Int))=true:=by rw[bne_iff_ne];omega
  have HC:=Z9 (ze7 h1);have HN:=Z9 h;clear h;go_enter Tryz.func246,Tryz.ntmps246;go_wp2_with fail
  all_goals
   go_ret;exact⟨zax (by rw[HC.out]),0,rfl⟩
 ·have h2:m<n:=by omega
  have t1:((n:Int) != (m:Int))=true:=by rw[bne_iff_ne];omega
  have HC:=Z9 (zdw h2);have HN:=Z9 h;clear h;go_enter Tryz.func246,Tryz.ntmps246;go_wp2_with fail
  all_goals
   go_ret;exact⟨zax (by rw[HC.out]),0,rfl⟩
theorem zwb(a b:Option Addr)(n c d:Nat)(la lb:List Nat)(w:World)(Zt:la.length=n)(ZC:lb.length=n)(hn:n≤1000000)
 (da:∀x ∈ la,x<Bs) (db:∀x ∈ lb,x<Bs) (ha:Nums .u32 w a la) (hb:Nums .u32 w b lb) :
 Calls Tryz.prog 246 #[.slice a n c,.slice b n d] w fun e w'=>e=.returned (.int .i64 (cmpN (val la) (val lb)))∧∃q,w'=w.drewN q:=by
 have HLA:=Z9 Zt;have HLB:=Z9 ZC;have HA:=Z9 ha;have HB:=Z9 hb;have DA:=Z9 da;have DB:=Z9 db;clear Zt ZC ha hb da db;go_enter Tryz.func246,Tryz.ntmps246;go_wp2_with fail;go_loopw [5] (fun i wr=>CmR la lb n i∧∃q,wr=w.drewN q) (fun i _=>(intOf i+1).toNat)
 case atStart=>exact⟨⟨(n:Int)-1,by omega,by omega,rfl,fun j hj=>by rw[zea (by have:=HLA.out;omega),zea (by have:=HLB.out;omega)]⟩,0,rfl⟩
 case round =>
  obtain⟨⟨k,Yy,YC,rfl,he⟩,q,rfl⟩:=hrel;have HE:=Z9 he;clear he
  by_cases hk:0≤k
  ·obtain⟨j,rfl⟩:=Int.eq_ofNat_of_zero_le hk
   obtain⟨ga,oa,rfl,T3,S4⟩:=HA.out j (by have:=HLA.out;omega);obtain⟨gb,ob,rfl,Ya,Yk⟩:=HB.out j (by have:=HLB.out;omega);obtain⟨x,hx⟩:∃x,x=la.getD j 0:=⟨_,rfl⟩
   obtain⟨y,hy⟩:∃y,y=lb.getD j 0:=⟨_,rfl⟩
   rw[←hx]at S4;rw[←hy]at Yk;have HX:=Z9 hx;have HY:=Z9 hy;have Z5:la.length=lb.length:=by rw[HLA.out,HLB.out]
   have hr:(x=y→∀i:Nat,(j:Int)-1<i→la.getD i 0=lb.getD i 0)∧(y<x→cmpN (val la) (val lb)=1)∧(x<y→cmpN (val la) (val lb) = -1):=by
    refine⟨fun e=>fun i hi => ?_,fun h=>zdw (zxc lb la j Z5.symm (by have:=HLB.out;omega) DB.out (zfu Z5.symm fun i hi=>(HE.out i (by omega)).symm) (by rw[←HX.out,←HY.out];exact h)),fun h=>ze7 (zxc la lb j Z5 (by have:=HLA.out;omega) DA.out (zfu Z5 fun i hi=>HE.out i (by omega)) (by rw[←HX.out,←HY.out];exact h))⟩
    by_cases WO:i=j
    ·rw[WO,←HX.out,←HY.out,e]
    ·exact HE.out i (by omega)
   have HR:=Z9 hr;clear hr hx hy Z5
   rcases Nat.lt_trichotomy x y with h |h |h
   ·have t1:((x:Int) != (y:Int))=true:=by rw[bne_iff_ne];omega
    have t2:decide ((x:Int)<(y:Int))=true:=by simp;omega
    have HQ:=Z9 (HR.out.2.2 h);go_wp2_with fail;go_quiet (fail);go_wp2_with fail;go_quiet (fail);go_wp2_with fail;go_ret;exact⟨zax HQ.out.symm,_,by rw[World.drewN_drewN,World.drewN_drewN]⟩
   ·have HQ:=Z9 (HR.out.1 h)
    have t1:((x:Int) != (y:Int))=false:=by rw[h];simp
    have HXY:=Z9 h;clear h;go_wp2_with fail;go_quiet (fail);go_wp2_with fail;go_roundw
    case rel=>exact⟨⟨(j:Int)-1,by omega,by omega,rfl,HQ.out⟩,_,rfl⟩
    case measure=>simp[intOf]<;>omega
   ·have t1:((x:Int) != (y:Int))=true:=by rw[bne_iff_ne];omega
    have t2:decide ((x:Int)<(y:Int))=false:=by simp;omega
    have HQ:=Z9 (HR.out.2.1 h);go_wp2_with fail;go_quiet (fail);go_wp2_with fail;go_quiet (fail);go_wp2_with fail;go_ret;exact⟨zax HQ.out.symm,_,by rw[World.drewN_drewN,World.drewN_drewN]⟩
  ·have hv:val la=val lb:=by
    have:la=lb:=by
     have:=zfu (a:=la) (b:=lb) (i:=0) (by rw[HLA.out,HLB.out]) (fun j _=>HE.out j (by omega));simpa using this
    rw[this]
   have HQ:=Z9 (zfw hv);clear hv;go_wp2_with fail;go_ret;exact⟨zax HQ.out.symm,_,rfl⟩
theorem zig(a b:Option Addr)(n m c d A B:Nat)(la lb:List Nat)(w:World)(Zt:la.length=n)(ZC:lb.length=m)(hn:n≤1000000)(hm:m≤1000000)
 (ra:Rep la A) (rb:Rep lb B) (ha:Nums .u32 w a la) (hb:Nums .u32 w b lb) :
 Calls Tryz.prog 246 #[.slice a n c,.slice b m d] w fun e w'=>e=.returned (.int .i64 (cmpN A B))∧∃q,w'=w.drewN q:=by
 by_cases h:n=m
 ·subst h
  have:=zwb a b n c d la lb w Zt ZC hn ra.1 rb.1 ha hb
  rwa [ra.2.2,rb.2.2]at this
 ·have:=zzg a b n m c d w hn hm h
  have e:cmpN n m=cmpN A B:=by
   rcases Nat.lt_or_ge n m with h1 |h1
   ·rw[ze7 h1,ze7 (zkd la lb A B ra rb (by omega))]
   ·rw[zdw (by omega),zdw (zkd lb la B A rb ra (by omega))]
  rwa [e]at this
def zhy(w:World)(N:Nat)(e:Ending)(w':World):Prop:=zj0 .u32 247 w (fun l=>Rep l N) e w'
theorem zd1{w:World}{B:Nat}{v:Value}{n:Nat}{l:List Nat}(h:w.ownsRow B 247 1 v n (nums .u32 l))(hn:n≤1000000)(d:∀x ∈ l,x<Bs) :
 Calls Tryz.prog 248 #[v] w fun e w'=>(∃v2 l2,e=.returned v2∧w.ownsRow B 247 1 v2 l2.length (nums .u32 l2)∧Rep l2 (val l))∧w=w':=by
 obtain⟨a,c,rfl,hl,hc,ha⟩:=zau h
 refine(zh9 a n c l w hl hn hc d ha).mono fun e w' ⟨⟨k,hk,e1,e2⟩,e3⟩=>⟨⟨_,l.take k,e1,?_,e2⟩,e3⟩
 have:=zhw h hk;rw[zvy]at this
 rwa [List.length_take,show min k l.length=k by omega]
def SubR(w:World)(la lb:List Nat)(n:Nat)(o b i:Value)(wr:World):Prop :=
 ∃(k br:Nat)(out:List Nat),k≤n∧i=.int .i64 k∧b=.int .u32 br∧wr.ownsRow w.heap.size 247 1 o k (nums .u32 out)∧zfa la lb out k br∧Below w.heap.size w wr
def SubC(la lb out:List Nat)(k:Nat)(y:Nat)(xv bv:Value):Prop :=
 ∃x br:Nat,xv=.int .u32 x∧bv=.int .u32 br∧y≤x∧x<2000000000∧zfa la lb (out ++ [x-y]) (k+1) br
theorem zna(a b:Option Addr)(n m c d:Nat)(la lb:List Nat)(w:World)(Zt:la.length=n)(ZC:lb.length=m)(hn:n≤900000)(Wn:m≤n)
 (da:∀x ∈ la,x<Bs) (db:∀x ∈ lb,x<Bs) (YW:val lb≤val la) (ha:Nums .u32 w a la) (hb:Nums .u32 w b lb) :
 Calls Tryz.prog 240 #[.slice a n c,.slice b m d] w (zhy w (val la-val lb)):=by
 obtain⟨i0,hi,ZN,ZO,ZD⟩:=info_parts zfq;have HLA:=Z9 Zt;have HLB:=Z9 ZC;have HA:=Z9 ha;have HB:=Z9 hb;have DA:=Z9 da;have DB:=Z9 db;have HLE:=Z9 YW;clear Zt ZC ha hb da db YW;go_enter Tryz.func240,Tryz.ntmps240;go_wp2_with (at_make;refine wpList_make_own _ rfl _ _ 239 rfl w.heap.size 247 i0 (.int .u32 0) 1 Tryz.underlying239 hi ZN ZO .i64 .i64 _ n rfl rfl rfl ?b2 ?b3 ?b4 ?_)
 case b2=>rw[ZD];omega
 case b3=>unfold maxLen;omega
 case b4=>exact Nat.le_refl _
 intro w1 Zg Ze;have Zr:SubR w la lb n (.slice (some ⟨w.heap.size,0,none⟩) 0 n) (.int .u32 0) (.int .i64 0) w1:=⟨0,0,[],Nat.zero_le _,rfl,rfl,Zg,zpj _ _,(Below.refl _ _).grown Ze (Nat.le_refl _) (fun k hk=>by cases hk)⟩;have ZA:=Z9 Zr;clear Zg Ze Zr;go_wp2_with fail;go_loopw [5,6,15] (SubR w la lb n) (fun _ _ i _=>n-(intOf i).toNat)
 case atStart=>exact ZA.out
 case round =>
  obtain⟨k,br,out,hk,rfl,rfl,ho,ZB,Zu⟩:=hrel;have HO:=Z9 ho;have HT:=Z9 ZB;have HBL:=Z9 Zu;clear ho ZB Zu ZA
  by_cases Z7:k<n
  ·obtain⟨x,hx⟩:∃x,x=la.getD k 0:=⟨_,rfl⟩
   obtain⟨y,hy⟩:∃y,y=lb.getD k 0:=⟨_,rfl⟩
   obtain⟨g,og,rfl,hg,hc⟩:=HA.out.below HBL.out k (by have:=HLA.out;omega);rw[←hx]at hc;have hx10:x<1000000000:=by rw[hx];exact zba la k DA.out
   have hy10:y<1000000000:=by rw[hy];exact zba lb k DB.out
   have XK:br≤1:=HT.out.2.2.1;have HX:=Z9 hx;have HY:=Z9 hy;clear hx hy
   go_upto_if 24 with(fail)
   go_cut [9] (fun s wx=>s=.int .u32 ((br+y:Nat):Int)∧wr=wx)
   case first=>as_aux_lemma =>
    by_cases Vp:k<m
    ·obtain⟨gb,ob,rfl,Ya,Yk⟩:=HB.out.below HBL.out k (by have:=HLB.out;omega)
     rw[←HY.out]at Yk;go_wp2_with fail;go_meet;exact⟨by congr 1,rfl⟩
    ·have Zd:y=0:=by rw[HY.out,zea (by have:=HLB.out;omega)]
     have HY0:=Z9 Zd;clear Zd;go_wp2_with fail;go_meet;exact⟨by rw[HY0.out];rfl,rfl⟩
   case rest=>as_aux_lemma =>
    obtain⟨rfl,rfl⟩:=hcut
    have X5:(br+y≤x→SubC la lb out k (br+y) (.int .u32 x) (.int .u32 0))∧(x<br+y→SubC la lb out k (br+y) (.int .u32 ((x+1000000000:Nat):Int)) (.int .u32 1)):=by
     refine⟨fun h=>⟨x,0,rfl,rfl,h,by omega,?_⟩,fun h=>⟨x+1000000000,1,rfl,rfl,by omega,by omega,?_⟩⟩
     ·have:=zpi la lb out k br DA.out HT.out (by rw[←HX.out,←HY.out];exact h)
      rwa [←HX.out,←HY.out]at this
     ·have:=zph la lb out k br DB.out HT.out (by rw[←HX.out,←HY.out];exact h)
      rwa [←HX.out,←HY.out]at this
    have HCS:=Z9 X5;clear X5 hc;obtain⟨z,hz⟩:∃z,z=br+y:=⟨_,rfl⟩
    have hz10:z≤1000000000:=by omega
    rw[←hz]at HCS ⊢;clear hz
    go_upto_if 33 with(fail)
    go_cut [6,8] (fun b x wx=>SubC la lb out k z x b∧wr=wx)
    case first=>as_aux_lemma =>
     by_cases Vf:z≤x
     ·have t1:decide ((x:Int)<(z:Int))=false:=by simp;omega
      have HQ:=Z9 (HCS.out.1 Vf);go_wp2_with fail;go_meet;exact⟨HQ.out,rfl⟩
     ·have t1:decide ((x:Int)<(z:Int))=true:=by simp;omega
      have HQ:=Z9 (HCS.out.2 (by omega));go_wp2_with fail;go_meet;exact⟨HQ.out,rfl⟩
    case rest=>as_aux_lemma =>
     obtain⟨⟨x2,b2,rfl,rfl,hle2,Yp,XT⟩,rfl⟩:=hcut;have HT2:=Z9 XT;obtain⟨r,hr⟩:∃r:Nat,(x2:Int)-(z:Int)=(r:Int)∧x2-z=r:=⟨x2-z,by omega,rfl⟩
     rw[hr.2]at HT2;have HR:=Z9 hr;clear XT hr HCS;go_wp2_with (at_builtin;refine zas _ rfl (.tmp 36) (.tmp 40) 239 rfl w.heap.size 247 i0 (.int .u32 0) 4 Tryz.underlying239 hi ZN ZO ZD rfl _ _ _ rfl (HO.out.alloc _) ⟨wr.heap.size,0,none⟩ 1 (.int .u32 r) rfl ?c1 rfl ?c3 ?c4 ?c5 ?_)
     case c1=>simp[HR.out.1]
     case c3=>unfold maxLen;omega
     case c4=>omega
     case c5=>have:=HBL.out.size;simp;omega
     intro v1 w2 Zk Yl Yc XM;have n2:Below w.heap.size w w2:=(HBL.out.alloc HBL.out.size _).grown Yl (by have:=HBL.out.size;simp;omega) (fun k hk=>(HO.out.lt k hk).1);rw[zbo]at Zk;have HO2:=Z9 Zk;have N2:=Z9 n2;clear Zk n2 Yl Yc XM;go_wp2_with fail;go_roundw
     case rel=>exact⟨k+1,b2,out ++ [r],by omega,by go_num,rfl,HO2.out,HT2.out,N2.out⟩
     case measure=>simp[intOf]<;>omega
  ·obtain rfl:k=n:=by omega
   have hv:=zwa la lb out br (by rw[HLA.out,HLB.out];exact Wn) HLE.out (by rw[HLA.out];exact HT.out);have YG:=zd1 HO.out (by omega) HT.out.2.1;rw[hv]at YG;have Zp:=Z9 YG;clear hv YG;go_wp2_with fail;refine Zp.out.mono ?_;rintro e w' ⟨⟨v2,l2,rfl,Zk,Zc⟩,rfl⟩;have HO2:=Z9 Zk;have YB:=Z9 Zc;clear Zk Zc;go_wp2_with fail;go_ret;exact⟨_,l2,rfl,HO2.out,YB.out,HBL.out⟩
theorem zef(n:Nat):(madeCells #[Value.int .u32 0] n).toList=nums .u32 (List.replicate n 0):=by
 apply List.ext_getElem
 ·simp[nums,size_madeCells]
 ·intro i h1 h2
  simp[nums,madeCells,Nat.mod_one]
def MulR(w:World)(la lb:List Nat)(n N:Nat)(iv:Value)(wr:World):Prop :=
 ∃(i:Nat)(out:List Nat),i≤n∧iv=.int .i64 i∧wr.ownsRow w.heap.size 247 1 (.slice (some ⟨w.heap.size,0,none⟩) N N) N (nums .u32 out)∧zjy la lb out i∧Below w.heap.size w wr
def MulI(w:World)(la lb:List Nat)(i m N:Nat)(cv jv:Value)(wr:World):Prop :=
 ∃(j c:Nat)(out:List Nat),j≤m∧jv=.int .i64 j∧cv=.int .u64 c∧wr.ownsRow w.heap.size 247 1 (.slice (some ⟨w.heap.size,0,none⟩) N N) N (nums .u32 out)∧zjx la lb out i j c∧Below w.heap.size w wr
theorem zv9{x y:Nat}(hx:x<1000000000)(hy:y<1000000000):x*y≤999999998000000001:=by
 have:x*y≤999999999*999999999:=Nat.mul_le_mul (by omega) (by omega);omega
theorem zit(a b:Option Addr)(n m c d:Nat)(la lb:List Nat)(w:World)(Zt:la.length=n)(ZC:lb.length=m)(hn:n≤400000)(hm:m≤400000)
 (da:∀x ∈ la,x<Bs) (db:∀x ∈ lb,x<Bs) (ha:Nums .u32 w a la) (hb:Nums .u32 w b lb) :
 Calls Tryz.prog 249 #[.slice a n c,.slice b m d] w (zhy w (val la*val lb)):=by
 obtain⟨i0,hi,ZN,ZO,ZD⟩:=info_parts zfq;obtain⟨N,hN⟩:∃N,N=n+m:=⟨_,rfl⟩
 have hNI:((n:Int)+(m:Int))=(N:Int):=by omega
 have HNN:=Z9 hN;have hN1:n+m≤N:=by omega
 have hN2:N≤n+m:=by omega
 have HLA:=Z9 Zt;have HLB:=Z9 ZC;have HA:=Z9 ha;have HB:=Z9 hb;have DA:=Z9 da;have DB:=Z9 db;clear Zt ZC ha hb da db hN;go_enter Tryz.func249,Tryz.ntmps249;go_wp2_with (at_make;refine wpList_make_full _ rfl _ _ 239 rfl w.heap.size 247 i0 (.int .u32 0) 1 Tryz.underlying239 hi ZN ZO .i64 .i64 _ _ N rfl rfl ?b0 ?b1 ?b2 ?b3 ?b4 ?_)
 case b0=>omega
 case b1=>omega
 case b2=>rw[ZD];omega
 case b3=>unfold maxLen;omega
 case b4=>exact Nat.le_refl _
 intro w1 Zg Ze;rw[zef]at Zg;have Zr:MulR w la lb n N (.int .i64 0) w1:=⟨0,List.replicate N 0,Nat.zero_le _,rfl,Zg,by have:=zon la lb;rwa [HLA.out,HLB.out,←HNN.out]at this,(Below.refl _ _).grown Ze (Nat.le_refl _) (fun k hk=>by cases hk)⟩;have ZA:=Z9 Zr;clear Zg Ze Zr hNI;go_wp2_with fail;go_loopw [20] (MulR w la lb n N) (fun i _=>n-(intOf i).toNat)
 case atStart=>exact ZA.out
 case round =>
  obtain⟨w2,rfl⟩:∃w2:World,w2=wr:=⟨_,rfl⟩
  obtain⟨i,out,VJ,rfl,ho,ZB,Zu⟩:=hrel;have HO:=Z9 ho;have HT:=Z9 ZB;have HBL:=Z9 Zu;clear ho ZB Zu ZA
  by_cases Z7:i<n
  ·obtain⟨x,hx⟩:∃x,x=la.getD i 0:=⟨_,rfl⟩
   obtain⟨g,og,rfl,hg,hc⟩:=HA.out.below HBL.out i (by have:=HLA.out;omega);rw[←hx]at hc;have hx10:x<1000000000:=by rw[hx];exact zba la i DA.out
   have HX:=Z9 hx;have Zr:MulI w la lb i m N (.int .u64 0) (.int .i64 0) w2:=⟨0,0,out,Nat.zero_le _,rfl,rfl,HO.out,zj1 la lb out i HT.out,HBL.out⟩;have ZA:=Z9 Zr;clear hx Zr HO HT HBL;go_wp2_with fail;go_loopw [8,27] (MulI w la lb i m N) (fun _ j _=>m-(intOf j).toNat)
   case atStart=>exact ZA.out
   case round =>
    obtain⟨j,cy,out,hjm,rfl,rfl,ho,ZB,Zu⟩:=hrel;have HO:=Z9 ho;have HT:=Z9 ZB;have HBL:=Z9 Zu;have hcy:cy<1000000000:=ZB.2.2.1;clear ho ZB Zu ZA
    by_cases ZX:j<m
    ·obtain⟨y,hy⟩:∃y,y=lb.getD j 0:=⟨_,rfl⟩
     obtain⟨gb,ob,rfl,Ya,Yk⟩:=HB.out.below HBL.out j (by have:=HLB.out;omega);rw[←hy]at Yk;have hy10:y<1000000000:=by rw[hy];exact zba lb j DB.out
     obtain⟨o,Vt⟩:∃o,o=out.getD (i+j) 0:=⟨_,rfl⟩
     have U2:o<1000000000:=by rw[Vt];exact zba out (i+j) HT.out.2.1
     have hco:wr.cell? ⟨w.heap.size,i+j,none⟩=some (.int .u32 (o:Int)):=by
      have Z5:out.length=N:=by have:=HT.out.1;rw[HLA.out,HLB.out]at this;have:=HNN.out;omega
      rw[HO.out.cellAt (i+j) (by omega),zbr _ _ _ (by omega),←Vt]
     have Wf:wr.frozen? ⟨w.heap.size,i+j,none⟩=false:=HO.out.frozenAt (i+j);have hstp:=zk2 la lb out i j cy (by have:=HLA.out;omega) (by have:=HLB.out;omega) HT.out DA.out DB.out;rw[←HX.out,←hy,←Vt]at hstp;obtain⟨p,hp⟩:∃p,p=x*y:=⟨_,rfl⟩
     have hpI:(x:Int)*(y:Int)=(p:Int):=by rw[hp];simp
     have hpb:p≤999999998000000001:=by rw[hp];exact zv9 hx10 hy10
     rw[←hp]at hstp;obtain⟨r,hr⟩:∃r,r=(p+o+cy) % Bs:=⟨_,rfl⟩
     obtain⟨q,hq⟩:∃q,q=(p+o+cy) / Bs:=⟨_,rfl⟩
     rw[←hr,←hq]at hstp;rw[zdd]at hr hq;have hrI:((p:Int)+(o:Int)+(cy:Int)) % 1000000000=(r:Int):=by omega
     have hqI:((p:Int)+(o:Int)+(cy:Int)) / 1000000000=(q:Int):=by omega
     have Zi:r<1000000000:=by omega
     have Te:q<1000000000:=by omega
     have HSTP:=Z9 hstp;have WO:i+j<N:=by omega
     have hji:((i:Int)+(j:Int)).toNat=i+j:=by omega
     clear hy Vt hp hr hq hstp;go_wp2_with fail;go_roundw
     case rel=>exact⟨j+1,q,out.set (i+j) r,by omega,by go_num,by rw[hqI],by rw[←ze0];exact(HO.out.stored (i+j) _).1,HSTP.out,HBL.out.setCell (p:=⟨w.heap.size,i+j,none⟩) (Nat.le_refl _) _⟩
     case measure=>simp[intOf]<;>omega
    ·obtain rfl:j=m:=by omega
     obtain⟨o,Vt⟩:∃o,o=out.getD (i+j) 0:=⟨_,rfl⟩
     have ho0:o<1:=by
      have:=HT.out.2.2.2.1 (i+j) (by rw[HLB.out];omega);omega
     have hco:wr.cell? ⟨w.heap.size,i+j,none⟩=some (.int .u32 (o:Int)):=by
      have Z5:out.length=N:=by have:=HT.out.1;rw[HLA.out,HLB.out]at this;have:=HNN.out;omega
      rw[HO.out.cellAt (i+j) (by omega),zbr _ _ _ (by omega),←Vt]
     have Wf:wr.frozen? ⟨w.heap.size,i+j,none⟩=false:=HO.out.frozenAt (i+j);have YS:=zmf la lb out i cy (by have:=HLA.out;omega) (by rw[HLB.out];exact HT.out);rw[HLB.out,←Vt]at YS;have HEND:=Z9 YS;have WO:i+j<N:=by omega
     have hji:((i:Int)+(j:Int)).toNat=i+j:=by omega
     clear Vt YS;go_wp2_with fail;go_roundw
     case rel =>
      have e1:((o:Int)+(cy:Int))=((o+cy:Nat):Int):=by omega
      exact⟨i+1,out.set (i+j) (o+cy),by omega,by go_num,by rw[←ze0,←e1];exact(HO.out.stored (i+j) _).1,HEND.out,HBL.out.setCell (p:=⟨w.heap.size,i+j,none⟩) (Nat.le_refl _) _⟩
     case measure=>simp[intOf]<;>omega
  ·obtain rfl:i=n:=by omega
   have hv:=zug la lb out (by rw[HLA.out];exact HT.out);have YG:=zd1 HO.out (by omega) hv.1;rw[hv.2]at YG;have Zp:=Z9 YG;clear hv YG;go_wp2_with fail;refine Zp.out.mono ?_;rintro e w' ⟨⟨v2,l2,rfl,Zk,Zc⟩,rfl⟩;have HO2:=Z9 Zk;have YB:=Z9 Zc;clear Zk Zc;go_wp2_with fail;go_ret;exact⟨_,l2,rfl,HO2.out,YB.out,HBL.out⟩
def zxt(w:World)(V d:Nat)(e:Ending)(w':World):Prop :=
 ∃v l,e=.returned (.tuple #[v,.int .u32 ((V % d:Nat):Int)])∧w'.ownsRow w.heap.size 247 1 v l.length (nums .u32 l)∧Rep l (V / d)∧Below w.heap.size w w'
def ShR(w:World)(la:List Nat)(d n:Nat)(rv iv:Value)(wr:World):Prop :=
 ∃(i rest:Nat)(q:List Nat),i≤n∧iv=.int .i64 ((i:Int)-1)∧rv=.int .u64 rest∧wr.ownsRow w.heap.size 247 1 (.slice (some ⟨w.heap.size,0,none⟩) n n) n (nums .u32 q)∧zjz la q d i rest∧Below w.heap.size w wr
theorem zmn(a:Option Addr)(n c d:Nat)(la:List Nat)(w:World)(Zt:la.length=n)(hn:n≤900000)(Xr:1≤d)(WA:d≤1000000000)
 (da:∀x ∈ la,x<Bs) (ha:Nums .u32 w a la) :
 Calls Tryz.prog 247 #[.slice a n c,.int .u32 d] w (zxt w (val la) d):=by
 obtain⟨i0,hi,ZN,ZO,ZD⟩:=info_parts zfq;have HLA:=Z9 Zt;have HA:=Z9 ha;have DA:=Z9 da;clear Zt ha da;go_enter Tryz.func247,Tryz.ntmps247;go_wp2_with (at_make;refine wpList_make_full _ rfl _ _ 239 rfl w.heap.size 247 i0 (.int .u32 0) 1 Tryz.underlying239 hi ZN ZO .i64 .i64 _ _ n rfl rfl ?b0 ?b1 ?b2 ?b3 ?b4 ?_)
 case b0=>rfl
 case b1=>rfl
 case b2=>rw[ZD];omega
 case b3=>unfold maxLen;omega
 case b4=>exact Nat.le_refl _
 intro w1 Zg Ze;rw[zef]at Zg;have Zr:ShR w la d n (.int .u64 0) (.int .i64 ((n:Int)-1)) w1:=⟨n,0,List.replicate n 0,Nat.le_refl _,rfl,rfl,Zg,by have:=zou la d Xr;rwa [HLA.out]at this,(Below.refl _ _).grown Ze (Nat.le_refl _) (fun k hk=>by cases hk)⟩;have ZA:=Z9 Zr;clear Zg Ze Zr;go_wp2_with fail;go_loopw [6,7] (ShR w la d n) (fun _ i _=>(intOf i+1).toNat)
 case atStart=>exact ZA.out
 case round =>
  obtain⟨i,rest,q,VJ,rfl,rfl,ho,ZB,Zu⟩:=hrel;have HO:=Z9 ho;have HT:=Z9 ZB;have HBL:=Z9 Zu;clear ho ZB Zu ZA
  by_cases UW:1≤i
  ·obtain⟨k,rfl⟩:∃k,i=k+1:=⟨i-1,by omega⟩
   rw[show(((k+1:Nat):Int)-1)=(k:Int)by omega];obtain⟨x,hx⟩:∃x,x=la.getD k 0:=⟨_,rfl⟩
   obtain⟨g,og,rfl,hg,hc⟩:=HA.out.below HBL.out k (by have:=HLA.out;omega);rw[←hx]at hc;have hx10:x<1000000000:=by rw[hx];exact zba la k DA.out
   have hrd:rest<d:=HT.out.2.2.1;have hstp:=zr5 la q d k rest (by have:=HLA.out;omega) DA.out HT.out;rw[←hx,zdd]at hstp;obtain⟨vv,Xt⟩:∃vv,vv=rest*1000000000+x:=⟨_,rfl⟩
   rw[←Xt]at hstp;have hvI:((rest:Int)*1000000000+(x:Int))=(vv:Int):=by omega
   have hvb:vv<1000000000*d:=by omega
   obtain⟨qq,Tf⟩:∃qq,qq=vv / d:=⟨_,rfl⟩
   obtain⟨rr,Th⟩:∃rr,rr=vv % d:=⟨_,rfl⟩
   rw[←Tf,←Th]at hstp;have Te:qq<1000000000:=by rw[Tf];exact Nat.div_lt_of_lt_mul (by rw[Nat.mul_comm];exact hvb)
   have Zi:rr<d:=by rw[Th];exact Nat.mod_lt _ Xr
   have hqI:(vv:Int) / (d:Int)=(qq:Int):=by rw[Tf];simp
   have hrI:(vv:Int) % (d:Int)=(rr:Int):=by rw[Th];simp
   have HQI:=Z9 hqI;have HRI:=Z9 hrI;have HVI:=Z9 hvI;have HSTP:=Z9 hstp;have hv18:vv<1000000000000000000:=by omega
   have wd:IntKind.u64.wrap (d:Int)=(d:Int):=IntWalk.u64_in _ (by omega);have wd0:((d:Int)=0)=False:=by simp;omega
   have wq:IntKind.u64.wrap ((vv:Int) / (d:Int))=(qq:Int):=by rw[HQI.out];exact IntWalk.u64_in _ (by omega)
   have wr1:IntKind.u64.wrap ((vv:Int) % (d:Int))=(rr:Int):=by rw[HRI.out];exact IntWalk.u64_in _ (by omega)
   have w32:IntKind.u32.wrap (qq:Int)=(qq:Int):=IntWalk.u32_in _ (by omega);have Wf:wr.frozen? ⟨w.heap.size,k,none⟩=false:=HO.out.frozenAt k
   obtain⟨yo,Vg⟩:∃yo:Nat,wr.cell? ⟨w.heap.size,k,none⟩=some (.int .u32 (yo:Int)):=by
    have Z5:q.length=n:=by rw[HT.out.1,HLA.out]
    exact⟨_,by rw[HO.out.cellAt k (by omega),zbr _ _ _ (by omega)]⟩
   clear hx Xt Tf Th hqI hrI hvI hstp hvb
   go_upto_region 7 with(fail)
   rw[HVI.out];go_region
   all_goals
    clear wd wd0 wq wr1 w32 Vg Wf;go_wp2_with fail;go_roundw
    case rel=>exact⟨k,rr,q.set k qq,by omega,rfl,by rw[HRI.out],by rw[←ze0];exact(HO.out.stored k _).1,HSTP.out,(HBL.out.setCell (p:=⟨w.heap.size,k,none⟩) (Nat.le_refl _) _).drew⟩
    case measure=>simp[intOf]<;>omega
  ·obtain rfl:i=0:=by omega
   have hv:=zut la q d rest HT.out;have YG:=zd1 HO.out (by omega) HT.out.2.1;rw[hv.1]at YG;have Zp:=Z9 YG;have YM:=hv.2;have hrd:rest<d:=HT.out.2.2.1;have HRS:=Z9 YM;clear hv YG YM;go_wp2_with fail;refine Zp.out.mono ?_;rintro e w' ⟨⟨v2,l2,rfl,Zk,Zc⟩,rfl⟩;have HO2:=Z9 Zk;have YB:=Z9 Zc;clear Zk Zc;go_wp2_with fail;go_ret2;exact⟨_,l2,by rw[←HRS.out];rfl,HO2.out,YB.out,HBL.out⟩
def GsR(t u v y z:Nat)(qv rv:Value):Prop:=∃q r:Nat,qv=.int .u64 q∧rv=.int .u64 r∧t*Bs+u=q*y+r∧gss t u v y z≤q∧q≤2000000000∧r<1000000000
theorem zwu(t u v y z:Nat)(w:World)(ht:t≤y)(hu:u<1000000000)(hv:v<1000000000)(hz:z<1000000000)(WG:1≤y)(XC:y<1000000000) :
 Calls Tryz.prog 250 #[.int .u64 t,.int .u64 u,.int .u64 v,.int .u64 y,.int .u64 z] w fun e w'=>e=.returned (.int .u64 (gss t u v y z:Nat))∧∃q,w'=w.drewN q:=by
 obtain⟨top,Zl⟩:∃top,top=t*Bs+u:=⟨_,rfl⟩
 have e0:=Zl;rw[zdd]at e0;have hI:((t:Int)*1000000000+(u:Int))=(top:Int):=by omega
 have htb:top<1000000000000000000:=by omega
 obtain⟨q0,Zn⟩:∃q,q=top / y:=⟨_,rfl⟩
 obtain⟨r0,Tg⟩:∃r,r=top % y:=⟨_,rfl⟩
 have hqI:(top:Int) / (y:Int)=(q0:Int):=by rw[Zn];simp
 have hrI:(top:Int) % (y:Int)=(r0:Int):=by rw[Tg];simp
 have X9:=zpp (t:=t) (u:=u) (v:=v) (y:=y) (z:=z) WG hv;have YJ:=zpr (t:=t) (u:=u) (y:=y) WG ht hu;rw[←Zl,←Zn]at X9 YJ;have Zb:q0≤2000000000:=by have:=zdd;omega
 have Zc:r0<y:=by rw[Tg];exact Nat.mod_lt _ WG
 have Zr:GsR t u v y z (.int .u64 q0) (.int .u64 r0):=⟨q0,r0,rfl,rfl,by rw[←Zl,Zn,Tg,Nat.mul_comm];exact(Nat.div_add_mod top y).symm,X9,Zb,by omega⟩;have ZA:=Z9 Zr;have HI:=Z9 hI;have wq:IntKind.u64.wrap ((top:Int) / (y:Int))=(q0:Int):=by rw[hqI];exact IntWalk.u64_in _ (by omega)
 have wr1:IntKind.u64.wrap ((top:Int) % (y:Int))=(r0:Int):=by rw[hrI];exact IntWalk.u64_in _ (by omega)
 have wy0:((y:Int)=0)=False:=by simp;omega
 have HRI:=Z9 hrI;have WQ:=Z9 wq;have WR:=Z9 wr1;have WY:=Z9 wy0;clear Zl e0 Zn Tg hqI hrI X9 YJ Zr hI wq wr1 wy0;go_enter Tryz.func250,Tryz.ntmps250
 go_upto_region 2 with(fail)
 rw[HI.out];have wq:=WQ.out;have wr1:=WR.out;have wy0:=WY.out;go_quiet (fail);clear wq wr1 wy0 htb Zb Zc;go_wp2_with fail;rw[HRI.out];obtain⟨W0,Z3⟩:∃W0,W0=w.drewN nq:=⟨_,rfl⟩
 rw[←Z3];have HW0:=Z9 Z3;clear Z3;go_loop [12,13] (fun qv rv=>GsR t u v y z qv rv) (fun qv _=>(intOf qv).toNat)
 case atStart=>exact ZA.out
 case round =>
  obtain⟨q,r,rfl,rfl,Zl,Sz,Zb,Zc⟩:=hrel;have HTOP:=Z9 Zl;have HGE:=Z9 Sz;obtain⟨P,hP⟩:∃P,P=q*z:=⟨_,rfl⟩
  have hPI:(q:Int)*(z:Int)=(P:Int):=by rw[hP];simp
  obtain⟨B,hB⟩:∃B:Bool,B=decide (1000000000≤q∨r*1000000000+v<P):=⟨_,rfl⟩
  have HP:=Z9 hP;have HB:=Z9 hB;clear hP hB Zl Sz ZA
  go_upto_region 3 with(fail)
  go_cut [35] (fun s wx=>s=.bool B∧W0=wx)
  case first=>as_aux_lemma =>
   by_cases hq:1000000000≤q
   ·have e:B=true:=by rw[HB.out];simp;omega
    have E:=Z9 e;have tq:decide ((1000000000:Int)≤(q:Int))=true:=by simp;omega
    have HQQ:=Z9 hq;clear e hq;go_wp2_with fail;go_meet;exact⟨by rw[E.out],rfl⟩
   ·have hPb:P<1000000000000000000:=by
     rw[HP.out];have:q*z≤999999999*999999999:=Nat.mul_le_mul (by omega) (by omega);omega
    have tq:decide ((1000000000:Int)≤(q:Int))=false:=by simp;omega
    by_cases hp:r*1000000000+v<P
    ·have e:B=true:=by rw[HB.out];simp;omega
     have E:=Z9 e;have t1:decide ((r:Int)*1000000000+(v:Int)<(P:Int))=true:=by simp;omega
     have HQQ:=Z9 hq;have HPP:=Z9 hp;clear e hq hp;go_wp2_with fail;go_meet;exact⟨by rw[E.out],rfl⟩
    ·have e:B=false:=by rw[HB.out];simp;omega
     have E:=Z9 e;have t1:decide ((r:Int)*1000000000+(v:Int)<(P:Int))=false:=by simp;omega
     have HQQ:=Z9 hq;have HPP:=Z9 hp;clear e hq hp;go_wp2_with fail;go_meet;exact⟨by rw[E.out],rfl⟩
  case rest=>as_aux_lemma =>
   obtain⟨rfl,rfl⟩:=hcut;clear hPI
   cases B with
   |true =>
    have hc:1000000000≤q∨r*1000000000+v<P:=by have:=HB.out;simpa using this.symm
    have hd:=ztf HTOP.out (by rw[zdd,←HP.out];exact hc);obtain⟨p,rfl⟩:∃p,q=p+1:=⟨q-1,by omega⟩
    have htop2:t*Bs+u=p*y+(r+y):=by rw[HTOP.out,Nat.add_mul];omega
    have HT2:=Z9 htop2;have HD:=Z9 hd;have Yu:((p+1:Nat):Int)=(p:Int)+1:=by omega
    rw[Yu];clear hc hd htop2 Yu
    by_cases XK:1000000000≤r+y
    ·have UT:=Nat.le_antisymm (Nat.le_of_lt_succ HD.out) (zpq (t:=t) (u:=u) (v:=v) (y:=y) (z:=z) WG ht hu hz HT2.out (by rw[zdd];exact XK))
     have HQ:=Z9 UT;have tb:decide ((1000000000:Int)≤(r:Int)+(y:Int))=true:=by simp;omega
     clear UT XK;go_wp2_with fail;go_ret;exact⟨by rw[HQ.out];rfl,nq,HW0.out⟩
    ·have tb:decide ((1000000000:Int)≤(r:Int)+(y:Int))=false:=by simp;omega
     have HBR:=Z9 XK;clear XK;go_wp2_with fail;go_round
     case rel=>exact⟨p,r+y,rfl,by congr 1,HT2.out,Nat.le_of_lt_succ HD.out,by omega,by have:=HBR.out;omega⟩
     case measure=>simp[intOf]<;>omega
   |false =>
    have hc:¬(1000000000≤q∨r*1000000000+v<P):=by have:=HB.out;simpa using this.symm
    have UT:=Nat.le_antisymm HGE.out (zrf (t:=t) (u:=u) (v:=v) (y:=y) (z:=z) WG HTOP.out (by rw[zdd];omega) (by rw[zdd,←HP.out];omega));have HQ:=Z9 UT;clear hc UT;go_wp2_with fail;go_ret;exact⟨by rw[HQ.out];rfl,nq,HW0.out⟩
theorem z1n(l:List Nat)(N:Nat)(h:Rep l N)(ZT:l≠[]):Bs ^ (l.length-1)≤N:=by
 obtain⟨h1,h2,h3⟩:=h;obtain⟨m,x,rfl⟩:∃m x,l=m ++ [x]:=⟨l.dropLast,l.getLast ZT,(List.dropLast_concat_getLast ZT).symm⟩
 rw[List.getLast?_concat]at h2;rw[zcv]at h3
 have hx:1≤x:=by
  rcases Nat.eq_zero_or_pos x with rfl |h
  ·exact absurd rfl h2
  ·exact h
 have:=Nat.mul_le_mul_left (Bs ^ m.length) hx;simp;omega
theorem zi7(l:List Nat)(N:Nat)(h:Rep l N):N<Bs ^ l.length:=by rw[←h.2.2];exact zj9 l h.1
theorem zxw:1<Bs:=by decide
theorem zb9(l:List Nat)(N k:Nat)(h:Rep l N)(hk:N<Bs ^ k):l.length≤k:=by
 by_cases ZT:l=[]
 ·rw[ZT];simp
 ·have h1:=z1n l N h ZT
  have h2:=(Nat.pow_lt_pow_iff_right zxw).1 (Nat.lt_of_le_of_lt h1 hk);omega
theorem zi6(l:List Nat)(N n:Nat)(h:Rep l N)(hn:l.length=n+1):0<l.getD n 0:=by
 have h2:=h.2.1;rw[List.getLast?_eq_getElem?,hn,Nat.add_sub_cancel,List.getElem?_eq_getElem (by omega)]at h2;rw[List.getD_eq_getElem?_getD,List.getElem?_eq_getElem (by omega)];simp at h2 ⊢;omega
theorem z25:Rep [] 0:=⟨by simp,by simp,rfl⟩
theorem zuv(b v:List Nat)(B s n:Nat)(hb:Rep b B)(hn:b.length=n+1)(hs:s=Bs / (b.getD n 0+1))(hv:Rep v (B*s)):v.length=n+1∧1≤s∧s<Bs:=by
 have Zl:=zi6 b B n hb hn;have ZT:b≠[]:=by intro h;rw[h]at hn;cases hn
 obtain⟨h1,h2,h3⟩:=zqq (s:=s) b hb.1 ZT (by rw[hn];exact hs);rw[hb.2.2,hn]at h3;have h4:=zb9 v _ _ hv h3;have h5:b.length≤v.length:=zel v b (B*s) B hv hb (Nat.le_mul_of_pos_right _ h1);refine⟨by omega,h1,?_⟩;rw[hs];have:Bs / (b.getD n 0+1)≤Bs / 2:=Nat.div_le_div_left (by omega) (by omega);have:=zdd;omega
theorem ztb(b u0:List Nat)(A B s na nb:Nat)(hA:A<Bs ^ na)(hb:Rep b B)(Zf:b.length=nb+1)(hs:1≤s)(hu:val u0=A*s)(VA:u0.length=na+1)(YW:nb+1≤na) :
 val (u0.drop (u0.length-(nb+1)))<B*s:=by
 refine z4p u0 _ _ (by omega) ?_;have ZT:b≠[]:=by intro h;rw[h]at Zf;cases Zf
 have h1:=z1n b B hb ZT;rw[Zf,Nat.add_sub_cancel]at h1;rw[hu,VA,show na+1-(nb+1)=na-nb by omega];have h2:Bs ^ na=Bs ^ (na-nb)*Bs ^ nb:=by rw[←Nat.pow_add];congr 1;omega
 have h3:=Nat.mul_le_mul_left (Bs ^ (na-nb)) h1;have h4:A<Bs ^ (na-nb)*B:=by rw[←h2]at h3;omega
 have h5:=(Nat.mul_lt_mul_right (a:=s) (by omega)).2 h4;rw[Nat.mul_assoc]at h5;exact h5
def ucp(u left:List Nat)(j i:Nat):List Nat:=u.take j ++ padL left i ++ u.drop (j+i)
theorem zry(u left:List Nat)(j i:Nat)(h:j+i≤u.length):(ucp u left j i).length=u.length:=by
 unfold ucp;simp[zex];omega
theorem zt8(u left:List Nat)(j:Nat):ucp u left j 0=u:=by
 unfold ucp;simp[padL]
theorem zx0(u left:List Nat)(j i:Nat)(h:j+i<u.length):(ucp u left j i).set (j+i) (left.getD i 0)=ucp u left j (i+1):=by
 unfold ucp;have hl:(u.take j ++ padL left i).length=j+i:=by simp[zex];omega
 rw[List.set_append_right _ _ (by omega),hl,Nat.sub_self,List.drop_eq_getElem_cons h,List.set_cons_zero,zm0,←Nat.add_assoc];simp
theorem zmo(l:List Nat)(i x y:Nat):(l.set i x).set i y=l.set i y:=by simp
theorem zyh(b:List Nat)(B s n:Nat)(hb:Rep b B)(hn:b.length=n+1)(hs:s=Bs / (b.getD n 0+1)):1≤s∧s<Bs:=by
 have Zl:=zi6 b B n hb hn;have ZT:b≠[]:=by intro h;rw[h]at hn;cases hn
 obtain⟨h1,h2,h3⟩:=zqq (s:=s) b hb.1 ZT (by rw[hn];exact hs);refine⟨h1,?_⟩;rw[hs];have:Bs / (b.getD n 0+1)≤Bs / 2:=Nat.div_le_div_left (by omega) (by omega);have:=zdd;omega
def MagAt(w:World)(v:Value)(N:Nat):Prop:=∃a c l,v=.slice a l.length c∧l.length≤c∧Nums .u32 w a l∧Rep l N
theorem MagAt.below{w w':World}{v:Value}{N:Nat}(h:MagAt w v N)(hb:Below w.heap.size w w'):MagAt w' v N:=by
 obtain⟨a,c,l,h1,h2,h3,h4⟩:=h;exact⟨a,c,l,h1,h2,h3.below hb,h4⟩
theorem MagAt.of_own{w:World}{B:Nat}{v:Value}{l:List Nat}{N:Nat}(h:w.ownsRow B 247 1 v l.length (nums .u32 l))(hr:Rep l N):MagAt w v N:=by
 obtain⟨a,c,rfl,hl,hc,hn⟩:=zau h;exact⟨a,c,l,rfl,hc,hn,hr⟩
def zoh(w:World)(A B:Nat)(e:Ending)(w':World):Prop :=
 ∃v1 v2,e=.returned (.tuple #[v1,v2])∧MagAt w' v1 (A / B)∧MagAt w' v2 (A % B)∧Below w.heap.size w w'
theorem zny(a b:Option Addr)(n m c d A B:Nat)(la lb:List Nat)(w:World)(Zt:la.length=n)(ZC:lb.length=m)(hn:n≤100000)(hm:m≤100000)(Wp:n≤c)
 (ra:Rep la A) (rb:Rep lb B) (ha:Nums .u32 w a la) (hb:Nums .u32 w b lb) (Z7:A<B) :
 Calls Tryz.prog 227 #[.slice a n c,.slice b m d] w (zoh w A B):=by
 have hc:=zig a b n m c d A B la lb w Zt ZC (by omega) (by omega) ra rb ha hb;rw[ze7 Z7]at hc;have HC:=Z9 hc;have HN:=Z9 ha;have HR:=Z9 ra;have HL:=Z9 Zt;have HLT:=Z9 Z7;clear hc ha hb ra rb Zt ZC Z7;go_enter Tryz.func227,Tryz.ntmps227;go_wp2_with fail;refine HC.out.mono ?_;rintro e w' ⟨rfl,q,hw⟩;have HW:=Z9 hw;clear hw;go_wp2_with fail;go_ret2;refine⟨.slice none 0 0,.slice a n c,rfl,⟨none,0,[],rfl,Nat.le_refl _,Nums.nil _ _ _,?_⟩,⟨a,c,la,by rw[HL.out],by rw[HL.out];exact Wp,by rw[HW.out];exact HN.out.drewN q,?_⟩,by rw[HW.out];exact zav (Below.refl _ _) q⟩
 ·rw[Nat.div_eq_of_lt HLT.out];exact z25
 ·rw[Nat.mod_eq_of_lt HLT.out];exact HR.out
theorem zk1(w:World)(x:Nat)(hx:x<Bs) :
 Calls Tryz.prog 248 #[.slice (some ⟨w.heap.size,0,none⟩) 1 1] (w.alloc (.cells #[.int .u32 (x:Int)] 247)) fun e w' =>
  (∃v l,e=.returned v∧w'.ownsRow w.heap.size 247 1 v l.length (nums .u32 l)∧Rep l x)∧w.alloc (.cells #[.int .u32 (x:Int)] 247)=w':=by
 have X2:(w.alloc (.cells #[.int .u32 (x:Int)] 247)).ownsRow w.heap.size 247 1 (.slice (some ⟨w.heap.size,0,none⟩) 1 1) 1 (nums .u32 [x]) :=
  World.ownsRow_lit w #[.int .u32 (x:Int)] 1 (Nat.le_refl _) (by unfold maxLen;omega) (by simp)
 have h:=zd1 X2 (by omega) (by simpa using hx)
 refine h.mono fun e w' ⟨⟨v,l,e1,e2,e3⟩,e4⟩ => ?_
 subst e4;exact⟨⟨v,l,e1,e2,by simpa[val]using e3⟩,rfl⟩
theorem ztr(a b:Option Addr)(n c d A B:Nat)(la lb:List Nat)(w:World)(Zt:la.length=n)(ZC:lb.length=1)(hn:n≤100000)
 (ra:Rep la A) (rb:Rep lb B) (ha:Nums .u32 w a la) (hb:Nums .u32 w b lb) (YW:B≤A) :
 Calls Tryz.prog 227 #[.slice a n c,.slice b 1 d] w (zoh w A B):=by
 have X1:=zig a b n 1 c d A B la lb w Zt ZC (by omega) (by omega) ra rb ha hb
 obtain⟨z,hz,ZN⟩:∃z,z=cmpN A B∧0≤z:=⟨_,rfl,by
  rcases Nat.lt_or_ge B A with h |h
  ·rw[zdw h];omega
  ·rw[zfw (by omega)];omega⟩
 rw[←hz]at X1
 obtain⟨y,rfl⟩:∃y,lb=[y]:=by
  match lb,ZC with
  | [y],_=>exact⟨y,rfl⟩
 have hy:B=y:=by have:=rb.2.2;simpa[val]using this.symm
 subst hy;have Zd:=zi6 [B] B 0 rb rfl;simp at Zd;have hyb:B<1000000000:=rb.1 B (by simp);obtain⟨gb,ob,rfl,Ya,Yk⟩:=hb 0 (by simp);simp only[Nat.add_zero,List.getD_cons_zero]at Yk
 have Xn:=fun q=>zmn a n c B la (w.drewN q) Zt (by omega) Zd (by omega) ra.1 (ha.drewN q)
 rw[ra.2.2]at Xn;have HC:=Z9 X1;have HS:=Z9 Xn;clear X1 ha hb ra rb Zt ZC YW hz Xn;have hyb2:B<Bs:=hyb;have HYB:=Z9 hyb2;clear hyb2;go_enter Tryz.func227,Tryz.ntmps227;go_wp2_with fail;refine HC.out.mono ?_;rintro e w1 ⟨rfl,q,rfl⟩;go_wp2_with fail;refine(HS.out q).mono ?_;rintro e w2 ⟨v,l,rfl,ho,hr,ZS⟩;have M1:=Z9 (MagAt.of_own ho hr);have B2:Hid (Below w.heap.size w w2):=(zav (Below.refl _ _) q).trans ZS;have hmod:A % B<B:=Nat.mod_lt _ Zd;obtain⟨r,Zc⟩:∃r,r=A % B:=⟨_,rfl⟩
 rw[←Zc]at hmod ⊢;have HR:=Z9 Zc;clear ho hr ZS Zc;go_wp2_with fail;refine(zk1 w2 r (Nat.lt_trans hmod HYB.out)).mono ?_;rintro e w3 ⟨⟨v3,l3,rfl,VN,Vu⟩,Ve⟩;have B3:Hid (Below w.heap.size w w3):=by rw[←Ve];exact B2.out.alloc B2.out.size _
 have M3:=Z9 (MagAt.of_own VN Vu);have M13:Hid (MagAt w3 v (A / B)):=by rw[←Ve];exact M1.out.below ((Below.refl _ _).alloc (Nat.le_refl _) _)
 clear Ve VN Vu;go_wp2_with fail;go_ret2;exact⟨v,v3,rfl,M13.out,by rw[←HR.out];exact M3.out,B3.out⟩
end Go.Proofs.YtkobkpepgdddeaaGreatDoor
