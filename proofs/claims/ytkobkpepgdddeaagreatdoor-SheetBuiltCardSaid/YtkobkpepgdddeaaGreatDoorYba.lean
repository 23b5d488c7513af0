/-
  A node that is well-formed: the program's node. No condition but the size.
-/
import Derived.Test.YtkobkpepgdddeaaGreatDoorYav
import Derived.Test.YtkobkpepgdddeaaGreatDoorYaw
import Derived.Test.YtkobkpepgdddeaaGreatDoorYax
import Derived.Test.YtkobkpepgdddeaaGreatDoorYay
import Derived.Test.YtkobkpepgdddeaaGreatDoorYaz
import Derived.Test.YtkobkpepgdddeaaGreatDoorYat
import Derived.RangeFuncNested
import Derived.RangeFuncBound
import Derived.RangeFuncCalls
import Derived.RangeFuncLeaves
import Derived.RangeFuncBox
import Derived.Shelf.Abstract
import Derived.WalkKit
import Derived.OwnWalkIn
import Derived.TacticsInMore
import Derived.LoopNIn
import Derived.LoopIn
import Derived.Outline
import Derived.RegionIn
import Derived.Stop.RegionWithIn
import Derived.Test.YtkobkpepgdddeaaGreatDoorYau
import Derived.Test.YtkobkpepgdddeaaGreatDoorYaj
import Derived.Test.YtkobkpepgdddeaaGreatDoorYah
namespace Go.Proofs.YtkobkpepgdddeaaGreatDoor
open Go.RowKit
set_option maxHeartbeats 16000000
set_option maxRecDepth 100000
theorem zyc{Wg:World}(YN:zcr Wg)(n:Nat)(x:Ct)(cs:List Value)(w:World)(h:CtIn n x cs w Wg):Calls Tryz.prog 103 #[.agg cs.toArray] w (BelB w (zdf x)):=by
 by_cases h1:x.kind=1∨x.kind=2∨x.kind=3
 ·exact z3f YN n x cs w h h1
 by_cases h2:x.kind=4∨x.kind=5
 ·exact z3e YN n x cs w h h2
 by_cases h3:x.kind=6∨x.kind=7
 ·exact z3d YN n x cs w h h3
 by_cases h4:x.kind=8∨x.kind=9∨x.kind=10
 ·exact z3c YN n x cs w h h4
 refine zuu YN n x cs w h ?_;unfold ptsL;rw[if_neg (by omega),if_neg (by omega),if_neg (by omega),if_neg (by omega),if_neg (by omega),if_neg (by omega),if_neg (by omega),if_neg (by omega),if_neg (by omega),if_neg (by omega)]
open Go.Shelf
attribute [local go_sem] Oper.semAt_some
def FrmW(B:Nat)(W W2:World):Prop:=W.heap.size≤W2.heap.size∧∀q,B≤q→q<W.heap.size→W2.heap[q]?=W.heap[q]?
theorem FrmW.trans{B:Nat}{W W1 W2:World}(h1:FrmW B W W1)(h2:FrmW B W1 W2):FrmW B W W2 :=
 ⟨Nat.le_trans h1.1 h2.1,fun q hq hl=>(h2.2 q hq (Nat.lt_of_lt_of_le hl h1.1)).trans (h1.2 q hq hl)⟩
theorem FrmW.grown{B:Nat}{W W2:World}(h:W.grownBy W2 none):FrmW B W W2:=⟨h.size,fun q _ hl=>h.block q hl (by simp)⟩
theorem FrmW.below{B:Nat}{W W2:World}(h:Below W.heap.size W W2):FrmW B W W2:=⟨h.size,fun q _ hl=>h.block q hl⟩
theorem FrmW.set{B:Nat}{W:World}{p:Addr}(hp:p.block<B)(v:Value):FrmW B W (W.setCell p v) :=
 ⟨by simp[World.setCell],fun q hq _=>Below.heap_setCell _ _ _ _ (by omega)⟩
def z7m(J:Nat→World→Prop):Prop:=∀s W W',J s W→W.grownBy W' none→J s W'
theorem zfy{W W2:World}(h:W.grownBy W2 none){k:Nat}{o:Obj}(hk:W.heap[k]?=some o):W2.heap[k]?=some o :=
 (h.block k (Z8 hk) (by simp)).trans hk
theorem zjc{n m:Nat}{P:Program}{l:Nat}{f:FuncId}{tmps:Array Value}{assign body:Code}{w:World}{R:Ending→World→Prop}
 (h:RoundIn Fence.wide n P l f tmps assign body w R):RoundIn Fence.wide m P l f tmps assign body w R :=
 ⟨h.1,fun c cs _=>h.2 c cs (room_wide _)⟩
theorem zoc{n m:Nat}{P:Program}{l:Nat}{args:Array Value}{w:World}{R:Ending→World→Prop}(h:YieldAt Fence.wide n P l args w R):YieldAt Fence.wide m P l args w R:=by
 obtain⟨fn,tmps,assign,body,hy,hr⟩:=h;exact⟨fn,tmps,assign,body,hy,zjc hr⟩
def yc3(P:Program)(n gf:Nat)(lb:Array Value)(Arg:Nat→Value→Prop)(N:Nat)(E:Nat→World→Prop)(B:Nat):Prop :=
 ∀(l:Nat)(J:Nat→World→Prop)(Jx:World→Prop)(W:World),z7m J→(∀W1 W2,Jx W1→W1.grownBy W2 none→Jx W2)→(∀s W1,J s W1→E s W1) →
  (∀s v W1,J s W1→s<N→Arg s v→YieldAt Fence.wide (n-1) P l #[v] W1 fun e W2=>(e=.returned (.bool true)∧FrmW B W1 W2∧J (s+1) W2)∨(e=.returned (.bool false)∧Jx W2)) →
  B≤W.heap.size→J 0 W→CallsIn Fence.wide n P gf (#[.func (.yield l) #[] #[]] ++ lb) W fun e W2=>(∃v,e=.returned v)∧(J N W2∨Jx W2)
def zlq(B s:Nat)(I:Nat→World→Prop)(Ix:World→Prop)(W:World):Exit→Act→World→Prop
 | .normal,_,W2=>FrmW B W W2∧I (s+1) W2
 | .ret,_,W2=>FrmW B W W2∧Ix W2
 |_,_,_=>False
theorem zs3{P:Program}{n:Nat}{g:Operand}{ps:Array Tmp}{assign body:Code}{Q:Exit→Act→World→Prop}{a:Act}{w:World}(h1:1≤n){gf:Nat}{lb:Array Value}
 (hg:a.eval g=.func (.func gf) #[] lb) (eg:∀args w,(callFunc gf args).run P w=.ok (.enter gf args) w) {Arg:Nat→Value→Prop} {N:Nat} {E:Nat→World→Prop}
 (U6:yc3 P (n-1) gf lb Arg N E w.heap.size) (Xw:ps.size=1)
 (I:Nat→World→Prop) (Ix:World→Prop) (hI:OwnFrom w.heap.size I) (Tu:OwnFrom w.heap.size (fun(_:Unit) W=>Ix W)) (hE:∀s W,I s W→E s W) (h0:I 0 w) (a₁:Value→Nat→Act) (box:Value→Obj)
 (XP:∀(l:Nat)(v:Value)(s:Nat)(W:World)(K:Act→World→Prop),Arg s v→I s W→K (a₁ v W.heap.size) (W.alloc (box v))→assign.wpIn (Fence.wide.inRound l) (n-1-1) P (Exit.then K (fun _ _ _=>False)) { tmps:=(ps.zip #[v]).foldl (fun t (p,v)=>t.setIfInBounds p v) a.tmps,defers:=[] } W)
 (Wk:∀(l s:Nat)(v:Value)(b:Nat)(W:World),I s W→s<N→Arg s v→w.heap.size≤b→W.heap[b]?=some (box v)→body.wpIn (Fence.wide.inRound l) (n-1-1) P (zlq w.heap.size s I Ix W) (a₁ v b) W)
 (Wp:∀(D:Nat)(W:World),w.heap.size≤D→I N W→W.heap[D]?=some (.deferred (some []))→Q .normal { a with defers:={ target:=.collected D,args:=#[] } :: a.defers } W)
 (WC:∀(D:Nat)(W:World),w.heap.size≤D→Ix W→W.heap[D]?=some (.deferred (some []))→Code.ret.wpIn Fence.wide n P Q { a with defers:={ target:=.collected D,args:=#[] } :: a.defers } W) :
 (Code.rangeFunc g ps assign body).wpIn Fence.wide n P Q a w:=by
 refine wpIn_rangeFunc fun fn XC => ?_
 obtain⟨L,hL⟩:∃L:LoopState→Option Code→Loop,L=fun st pe=>{ state:=st,pending:=pe,fn,tmps:=a.tmps,params:=ps,assign,body,defers:=w.heap.size }:=⟨_,rfl⟩
 obtain⟨V,hV⟩:∃V,V=(w.alloc (.deferred (some []))).alloc (.loop (L .ready none)):=⟨_,rfl⟩
 have hloop:V.heap[w.heap.size+1]?=some (.loop (L .ready none)):=by
  rw[hV];have:=World.alloc_heap_new (w.alloc (.deferred (some []))) (.loop (L .ready none))
  rwa [World.size_alloc]at this
 have hdef:V.heap[w.heap.size]?=some (.deferred (some [])):=by
  rw[hV];exact(Below.heap_alloc _ _ _ (by simp)).trans (World.alloc_heap_new w _)
 have hIV:I 0 V:=by rw[hV];exact hI.alloc _ (hI.alloc _ h0)
 have hVs:w.heap.size≤V.heap.size:=by rw[hV];simp;omega
 refine⟨w.heap.size+1,[{ target:=.collected w.heap.size,args:=#[] }],V,{ target:=.fn (.func gf) lb,args:=#[.func (.yield (w.heap.size+1)) #[] #[]] },V,gf,
  #[.func (.yield (w.heap.size+1)) #[] #[]] ++ lb,V,?_,?_,fun _ _=>trivial,?_,fun _=>h1,?_⟩
 ·rw[hV,hL];exact run_enterLoop_outer _ _ _ _ _
 ·simp only[resolve,hg]
  simp[go_sem]
 ·simp[invoke,go_sem,eg]
 have turn:∀(W:World)(o o':Obj),W.heap[w.heap.size+1]?=some o→o.isCells=false→∀s,I s W→I s (W.putObj (w.heap.size+1) o'):=fun W o o' ho hc s hs=>hI.putObj o' hs (by omega) ho hc
 have turnx:∀(W:World)(o o':Obj),W.heap[w.heap.size+1]?=some o→o.isCells=false→Ix W→Ix (W.putObj (w.heap.size+1) o'):=fun W o o' ho hc hs=>Tu.putObj (s:=()) o' hs (by omega) ho hc
 have step:=U6 (w.heap.size+1) (fun s W=>I s W∧W.heap[w.heap.size+1]?=some (.loop (L .ready none))∧W.heap[w.heap.size]?=some (.deferred (some [])))
  (fun W=>Ix W∧W.heap[w.heap.size+1]?=some (.loop (L .done (some .ret)))∧W.heap[w.heap.size]?=some (.deferred (some []))) V
  (fun s W W2 hs Za=>⟨hI s W W2 none hs.1 Za (fun r e=>by cases e),zfy Za hs.2.1,zfy Za hs.2.2⟩)
  (fun W W2 hs Za=>⟨Tu () W W2 none hs.1 Za (fun r e=>by cases e),zfy Za hs.2.1,zfy Za hs.2.2⟩)
  (fun s W hs=>hE s W hs.1) ?_ hVs ⟨hIV,hloop,hdef⟩
 ·refine step.mono ?_
  rintro e W2 ⟨⟨v,rfl⟩,(⟨hi,hl,hk⟩ |⟨hi,hl,hk⟩)⟩
  ·have Zj:=run_endLoop (P:=P) hl (by rw[hL];simp)
   rw[hL]at Zj;exact⟨none,_,Zj,Wp _ _ (Nat.le_refl _) (turn W2 _ _ hl rfl N hi) ((World.putObj_heap_other (by omega)).trans hk)⟩
  ·have Zj:=run_endLoop (P:=P) hl (by rw[hL];simp)
   rw[hL]at Zj;exact⟨some .ret,_,Zj,WC _ _ (Nat.le_refl _) (turnx W2 _ _ hl rfl hi) ((World.putObj_heap_other (by omega)).trans hk)⟩
 ·rintro s v W ⟨hi,hl,hk⟩ Up TA
  have Z4:w.heap.size+1<W.heap.size:=(Z8 hl);have hy:=run_yield (P:=P) (args:=#[v]) hl (by rw[hL];simp[Xw]);rw[hL]at hy;obtain⟨WA,Tx⟩:∃WA,WA=W.alloc (box v):=⟨_,rfl⟩
  have hAs:WA.heap.size=W.heap.size+1:=by rw[Tx];simp
  have hAo:∀q,q<W.heap.size→WA.heap[q]?=W.heap[q]?:=fun q hq=>by rw[Tx];exact Below.heap_alloc _ _ _ hq
  have TU:WA.heap[w.heap.size+1]?=some (.loop (L .ready none)):=(hAo _ Z4).trans hl;have hkA:WA.heap[w.heap.size]?=some (.deferred (some [])):=(hAo _ (by omega)).trans hk;have hbA:WA.heap[W.heap.size]?=some (box v):=by rw[Tx];exact World.alloc_heap_new W (box v)
  have hib:=turn WA _ (.loop { L .ready none with state:=.busy }) TU rfl s (by rw[Tx];exact hI.alloc _ hi);have Yv:(WA.putObj (w.heap.size+1) (.loop { L .ready none with state:=.busy })).heap[w.heap.size+1]?=some (.loop { L .ready none with state:=.busy }):=World.putObj_heap_same (by omega);have Y3:(WA.putObj (w.heap.size+1) (.loop { L .ready none with state:=.busy })).heap[w.heap.size]?=some (.deferred (some [])):=(World.putObj_heap_other (by omega)).trans hkA;refine⟨fn,_,assign,body,hy,roundIn_of_wpIn XC (XP _ v s W _ TA hi ⟨_,by rw[←Tx];exact run_beginRound TU (by rw[hL]),?_⟩)⟩;refine wpIn_mono (Wk _ s v W.heap.size _ hib Up TA (by omega) ((World.putObj_heap_other (by omega)).trans hbA)) ?_
  intro e a3 W3 hp
  have shut:∀(jump:Option Code),FrmW w.heap.size (WA.putObj (w.heap.size+1) (.loop { L .ready none with state:=.busy })) W3 →
   W3.heap[w.heap.size+1]?=some (.loop { L .ready none with state:=.busy }) ∧
   (Instr.endRound (w.heap.size+1) jump).run P W3=.ok (.bool jump.isNone) (W3.putObj (w.heap.size+1) (.loop (L (if jump.isNone then .ready else .done) jump))) ∧
   (W3.putObj (w.heap.size+1) (.loop (L (if jump.isNone then .ready else .done) jump))).heap[w.heap.size+1]?=some (.loop (L (if jump.isNone then .ready else .done) jump)) ∧
   (W3.putObj (w.heap.size+1) (.loop (L (if jump.isNone then .ready else .done) jump))).heap[w.heap.size]?=some (.deferred (some [])):=fun jump Xr=>by
   have XR:=(Xr.2 _ (by omega) (Z8 Yv)).trans Yv;have Un:=(Xr.2 _ (Nat.le_refl _) (Z8 Y3)).trans Y3;have he:=run_endRound (P:=P) jump XR;refine⟨XR,?_,World.putObj_heap_same (Z8 XR),(World.putObj_heap_other (by omega)).trans Un⟩;rw[hL]at he ⊢;exact he
  cases e with
  |normal =>
   obtain⟨Xr,XJ⟩:=hp;obtain⟨c1,c2,c3,c4⟩:=shut none Xr;refine⟨_,_,c2,.inl ⟨rfl,⟨?_,fun q hq Uv => ?_⟩,turn W3 _ _ c1 rfl (s+1) XJ,c3,c4⟩⟩
   ·have h2:=Xr.1
    simp[World.putObj]at h2 ⊢;omega
   ·by_cases SA:q=w.heap.size+1
    ·subst SA;exact c3.trans hl.symm
    ·rw[World.putObj_heap_other SA,Xr.2 q hq (by simp[World.putObj];omega),World.putObj_heap_other SA]
     exact hAo q Uv
  |ret =>
   obtain⟨Xr,XJ⟩:=hp;obtain⟨c1,c2,c3,c4⟩:=shut (some .ret) Xr;exact⟨_,_,c2,.inr ⟨rfl,turnx W3 _ _ c1 rfl XJ,c3,c4⟩⟩
  |exit id=>exact hp.elim
  |goto t=>exact hp.elim
  |panic c=>exact hp.elim
  |outgrown=>exact hp.elim
attribute [local go_sem] Oper.semAt_some
def pre:Ct→List Ct
 | .mk k f t n e d ds l=>.mk k f t n e d ds l :: (l.attach.map fun x=>pre x.1).flatten
termination_by x=>SizeOf.sizeOf x
decreasing_by
 have:=List.sizeOf_lt_of_mem x.2;simp only[Ct.mk.sizeOf_spec];omega
theorem zje(x:Ct):pre x=x :: (x.sub.map pre).flatten:=by
 cases x with
 |mk k f t n e d ds l =>
  rw[pre]
  show _ :: (l.attach.map fun x=>pre x.1).flatten=_ :: (l.map pre).flatten
  rw[show(l.attach.map fun x=>pre x.1)=l.map pre from List.attach_map_val (l:=l) (f:=pre)]
def preN(l:List Ct)(k:Nat):Nat:=((l.take k).map pre).flatten.length
theorem zx9(l:List Ct)(k:Nat)(hk:k<l.length):preN l (k+1)=preN l k+(pre l[k]).length:=by
 unfold preN;rw[List.take_succ_eq_append_getElem hk,List.map_append,List.flatten_append,List.length_append,List.map_singleton,List.flatten_singleton]
theorem z82(x:Ct):(pre x).length=1+preN x.sub x.sub.length:=by
 rw[zje,List.length_cons,preN,List.take_length];omega
theorem z3b(x:Ct)(k i:Nat)(hk:k<x.sub.length)(hi:i<(pre x.sub[k]).length):(pre x)[1+preN x.sub k+i]?=(pre x.sub[k])[i]?:=by
 rw[zje,show 1+preN x.sub k+i=(preN x.sub k+i)+1 by omega,List.getElem?_cons_succ]
 have e:(x.sub.map pre).flatten=((x.sub.take k).map pre).flatten ++ (pre x.sub[k] ++ ((x.sub.drop (k+1)).map pre).flatten):=by
  rw[←List.flatten_cons,←List.map_cons,←List.drop_eq_getElem_cons hk,←List.flatten_append,←List.map_append,List.take_append_drop]
 rw[e,List.getElem?_append_right (by unfold preN;omega),show preN x.sub k+i-((x.sub.take k).map pre).flatten.length=i by unfold preN;omega,List.getElem?_append_left hi]
def VisP(B:Nat)(J:Nat→World→Prop)(Jx:World→Prop)(s1:Nat)(W:World)(e:Ending)(W2:World):Prop :=
 (e=.returned (.bool true)∧FrmW B W W2∧J s1 W2)∨(e=.returned (.bool false)∧Jx W2)
theorem zk7(W:World)(o:Obj):W.grownBy (W.alloc o) none:=World.grownBy_alloc W o none
theorem zwf{we:World}{B l N0:Nat}{J:Nat→World→Prop}{Jx:World→Prop}{T:Nat→Option Ct}(ZN:z7m J)(hE:∀s W,J s W→Below we.heap.size we W)
 (hY:∀s y cs W,J s W→T s=some y→CtAt N0 we cs y→YieldAt Fence.wide 0 Tryz.prog l #[.agg cs.toArray] W (VisP B J Jx (s+1) W)) :
 ∀(n:Nat)(x:Ct)(cs:List Value)(s0:Nat)(W:World),CtAt n we cs x→n≤N0→x.size≤100000→(∀i y,(pre x)[i]?=some y→T (s0+i)=some y)→B≤W.heap.size→J s0 W →
  Calls Tryz.prog 153 #[.agg cs.toArray,.func (.yield l) #[] #[]] W (VisP B J Jx (s0+(pre x).length) W):=by
 intro n
 induction n with
 |zero=>intro x cs s0 W h;exact h.elim
 |succ n ih =>
  intro x cs s0 W h hN hz hT hB hJ;have ZZ:=h;obtain⟨ea,el,ec,da,dl,dc,a,len,cap,rfl,Yu,YZ,Z6,ZC⟩:=h;have hsl:=x.sub_len;have ZH:len≤100000:=by omega
  obtain⟨W0,Z7⟩:∃W0,W0=W.alloc (.cells #[.int .u8 x.kind,.string x.frm,.string x.too,.string x.name,.int .u8 x.expr.kind,.string x.expr.rat,.string x.expr.name,.int .i64 x.expr.date,.slice ea el ec,.int .i64 x.date,.slice da dl dc,.slice a len cap] 40):=⟨_,rfl⟩
  have Za:W.grownBy W0 none:=by rw[Z7];exact zk7 _ _
  have hJ0:J s0 W0:=ZN _ _ _ hJ Za;have Z2:W0.heap[W.heap.size]?=some (.cells #[.int .u8 x.kind,.string x.frm,.string x.too,.string x.name,.int .u8 x.expr.kind,.string x.expr.rat,.string x.expr.name,.int .i64 x.expr.date,.slice ea el ec,.int .i64 x.date,.slice da dl dc,.slice a len cap] 40):=by rw[Z7];exact World.alloc_heap_new W _
  have hF0:FrmW B W W0:=FrmW.grown Za;have hW0s:W0.heap.size=W.heap.size+1:=by rw[Z7];simp
  have Wf:=hY s0 x _ W0 hJ0 (hT 0 x (by rw[zje];rfl)) (CtAt.up hN ZZ);have HI:=Z9 ih;have HS:=Z9 ZC;have HLEN:=Z9 Z6;have HZ:=Z9 hz;have HT:=Z9 hT;have HST:=Z9 ZN;have HE:=Z9 hE;have HF0:=Z9 hF0;have HW0:=Z9 Z7;have HBX:=Z9 Z2;obtain⟨fn,tmps,assign,body,hy,hR⟩:=Wf;have hy':(Instr.yield l #[.agg #[.int .u8 x.kind,.string x.frm,.string x.too,.string x.name,.int .u8 x.expr.kind,.string x.expr.rat,.string x.expr.name,.int .i64 x.expr.date,.slice ea el ec,.int .i64 x.date,.slice da dl dc,.slice a len cap]]).run Tryz.prog W0=.ok (.round l fn tmps assign body) W0:=hy;rw[Z7]at hy'
  have WH:Hid (∀m,RoundIn Fence.wide m Tryz.prog l fn tmps assign body W0 (VisP B J Jx (s0+1) W0)):=fun m=>zjc hR
  obtain⟨c0,c1,c2,c3,c4,c5,c6,c7,c8,c9,ca,cb⟩:=zbz Z2;clear ih ZC Z6 hz hT ZN hE hF0 Z7 Z2 Yu YZ ZZ hy hR hY hJ hJ0 Za hsl
  show Calls Tryz.prog 153 #[.agg #[.int .u8 x.kind,.string x.frm,.string x.too,.string x.name,.int .u8 x.expr.kind,.string x.expr.rat,.string x.expr.name,.int .i64 x.expr.date,.slice ea el ec,.int .i64 x.date,.slice da dl dc,.slice a len cap],.func (.yield l) #[] #[]] W _
  refine(callsIn_wide (n:=6)).1 ?_;refine callsIn_of_wp Tryz.func153 rfl trivial ?_ rfl;simp only[Tryz.ntmps153,List.size_toArray,List.length_cons,List.length_nil,Nat.reduceAdd,Nat.reduceSub,Array.replicate_succ,Array.replicate_zero,List.push_toArray,List.append_toArray,List.nil_append,List.cons_append]
  have hTf:∀f,Fence.wide.fn f:=fun _=>trivial
  gi_wp2_with fail;rw[←HW0.out];refine(WH.out _).mono ?_;rintro ee W1 (⟨rfl,VN,hJ1⟩ |⟨rfl,ZB⟩)
  ·have hbx1:W1.heap[W.heap.size]?=some (.cells #[.int .u8 x.kind,.string x.frm,.string x.too,.string x.name,.int .u8 x.expr.kind,.string x.expr.rat,.string x.expr.name,.int .i64 x.expr.date,.slice ea el ec,.int .i64 x.date,.slice da dl dc,.slice a len cap] 40):=(VN.2 _ hB (by omega)).trans HBX.out
   have hW1s:=VN.1;have HBX1:=Z9 hbx1;have HF1:=Z9 (HF0.out.trans VN);have HJ1:=Z9 hJ1;clear c0 c1 c2 c3 c4 c5 c6 c7 c8 c9 ca cb hy' WH hbx1 VN hJ1;obtain⟨c0,c1,c2,c3,c4,c5,c6,c7,c8,c9,ca,cb⟩:=zbz HBX1.out;gi_wp2_with fail;gi_loopw [14] (fun iv wr=>∃k:Nat,k≤len∧iv=.int .i64 (k:Int)∧FrmW B W wr∧W1.heap.size≤wr.heap.size∧J (s0+1+preN x.sub k) wr) (fun iv _=>len-(intOf iv).toNat)
   case atStart=>exact⟨0,Nat.zero_le _,rfl,HF1.out,Nat.le_refl _,HJ1.out⟩
   case round =>
    clear c0 c1 c2 c3 c4 c5 c6 c7 c8 c9 ca cb;obtain⟨w2,rfl⟩:∃w1:World,w1=wr:=⟨_,rfl⟩
    obtain⟨k,hk,rfl,hf,ZS,R7⟩:=hrel;have HBE:=Z9 (HE.out _ _ R7);have HF:=Z9 hf;have HJ:=Z9 R7;clear hf R7
    by_cases Z4:k<len
    ·have ZR:k<x.sub.length:=by rw[HLEN.out];exact Z4
     rcases HS.out with h0 |⟨g,o,ha,hg,Zq⟩
     ·omega
     ·subst ha
      obtain⟨y,hy,eap,elp,ecp,dap,dlp,dcp,ap,lenp,capp,⟨e0,e1,e2,e3,e4,e5,e6,e7,e8,e9,ea_,eb_⟩,ZB⟩:=CtAt.elem hg HBE.out ZR Zq;have hym:y ∈ x.sub:=by rw[hy];exact List.getElem_mem _
      have Ys:=Ct.sub_size hym;obtain⟨w3,WN⟩:∃w3,w3=w2.alloc (.cells #[.int .u8 y.kind,.string y.frm,.string y.too,.string y.name,.int .u8 y.expr.kind,.string y.expr.rat,.string y.expr.name,.int .i64 y.expr.date,.slice eap elp ecp,.int .i64 y.date,.slice dap dlp dcp,.slice ap lenp capp] 40):=⟨_,rfl⟩
      have Zk:w2.grownBy w3 none:=by rw[WN];exact zk7 _ _
      have hw3s:w3.heap.size=w2.heap.size+1:=by rw[WN];simp
      have HC:=Z9 (HI.out y _ (s0+1+preN x.sub k) w3 ZB (by omega) (by have:=HZ.out;omega) (fun i z hz=>by
       have hi:i<(pre y).length:=by
        rcases Nat.lt_or_ge i (pre y).length with h |h
        ·exact h
        ·rw[List.getElem?_eq_none h]at hz;cases hz
       have q:=z3b x k i ZR (by rw[←hy];exact hi);rw[←hy]at q;have:=HT.out (1+preN x.sub k+i) z (q.trans hz)
       rwa [←Nat.add_assoc,←Nat.add_assoc]at this) (by omega) (HST.out _ _ _ HJ.out Zk))
      have HPN:=Z9 (zx9 x.sub k ZR);rw[←hy]at HPN;have HF3:=Z9 (HF.out.trans (FrmW.grown Zk));have VB:=Z9 WN;have YL:(0:Int)≤(k:Int):=by omega
      have Zh:(k:Int)<(len:Int):=by omega
      clear ZB hym Ys Zq hy Zk WN;gi_wp2_with (gi_at_call 153;rw[←VB.out];refine(callsIn_wide.2 HC.out).mono ?_);rintro ee w4 (⟨rfl,SV,SJ⟩ |⟨rfl,UB⟩)
      ·have hw4s:=SV.1
       have HF4:=Z9 (HF3.out.trans SV)
       have HJ4:Hid (J (s0+1+preN x.sub (k+1)) w4):=by
        show J _ _
        rw[HPN.out,←Nat.add_assoc];exact SJ
       clear SV SJ;gi_wp2_with fail;go_roundw
       case rel=>exact⟨k+1,Z4,by go_num,HF4.out,by omega,HJ4.out⟩
       case measure=>simp[intOf]<;>omega
      ·gi_wp2_with fail
       go_ret;exact .inr ⟨rfl,UB⟩
    ·have hke:k=x.sub.length:=by rw[HLEN.out];omega
     have HJE:Hid (J (s0+(pre x).length) w2):=by
      show J _ _
      rw[z82,←Nat.add_assoc,←hke];exact HJ.out
     clear hke HJ;gi_wp2_with fail;go_ret;exact .inl ⟨rfl,HF.out,HJE.out⟩
  ·gi_wp2_with fail
   go_ret;exact .inr ⟨rfl,ZB⟩
attribute [local go_sem] Oper.semAt_some
theorem zpj(x:Ct)(ea:Option Addr)(el ec:Nat)(da:Option Addr)(dl dc:Nat)(a:Option Addr)(len cap:Nat)(w:World):Calls Tryz.prog 102 #[.agg #[.int .u8 x.kind,.string x.frm,.string x.too,.string x.name,.int .u8 x.expr.kind,.string x.expr.rat,.string x.expr.name,.int .i64 x.expr.date,.slice ea el ec,.int .i64 x.date,.slice da dl dc,.slice a len cap]] w fun e w' =>
 e=.returned (.func (.func 152) #[] #[.pointer (some ⟨w.heap.size,0,none⟩)])∧w'=w.alloc (.cells #[.int .u8 x.kind,.string x.frm,.string x.too,.string x.name,.int .u8 x.expr.kind,.string x.expr.rat,.string x.expr.name,.int .i64 x.expr.date,.slice ea el ec,.int .i64 x.date,.slice da dl dc,.slice a len cap] 40):=by
 go_enter Tryz.func102,Tryz.ntmps102;go_wp2_with fail;go_ret;exact⟨rfl,rfl⟩
def ArgN(x:Ct)(N0:Nat)(we:World)(s:Nat)(v:Value):Prop:=∃y cs,(pre x)[s]?=some y∧v=.agg cs.toArray∧CtAt N0 we cs y
theorem zpi(x:Ct)(ea:Option Addr)(el ec:Nat)(da:Option Addr)(dl dc:Nat)(a:Option Addr)(len cap:Nat)(we:World)(n N0 m bx B:Nat)(hm:2≤m)(ZZ:CtAt n we [.int .u8 x.kind,.string x.frm,.string x.too,.string x.name,.int .u8 x.expr.kind,.string x.expr.rat,.string x.expr.name,.int .i64 x.expr.date,.slice ea el ec,.int .i64 x.date,.slice da dl dc,.slice a len cap] x)(hN:n≤N0)(hz:x.size≤100000) :
 yc3 Tryz.prog m 152 #[.pointer (some ⟨bx,0,none⟩)] (ArgN x N0 we) (pre x).length (fun _ W=>Below we.heap.size we W∧W.heap[bx]?=some (.cells #[.int .u8 x.kind,.string x.frm,.string x.too,.string x.name,.int .u8 x.expr.kind,.string x.expr.rat,.string x.expr.name,.int .i64 x.expr.date,.slice ea el ec,.int .i64 x.date,.slice da dl dc,.slice a len cap] 40)) B:=by
 intro l J Jx W ZN _ hE hY hB h0
 have HV:=Z9 (zwf (T:=fun s=>(pre x)[s]?) (we:=we) (l:=l) (N0:=N0) ZN (fun s W hs=>(hE s W hs).1) (Jx:=Jx) (B:=B) (fun s y cs W1 hs hT hc=>by
  have Z4:s<(pre x).length:=by
   rcases Nat.lt_or_ge s (pre x).length with h |h
   ·exact h
   ·rw[List.getElem?_eq_none h]at hT;cases hT
  exact zoc (hY s _ W1 hs Z4 ⟨y,cs,hT,rfl,hc⟩)) n x _ 0 W ZZ hN hz (fun i y hi=>by rw[Nat.zero_add];exact hi) hB h0)
 obtain⟨c0,c1,c2,c3,c4,c5,c6,c7,c8,c9,ca,cb⟩:=zbz (hE 0 W h0).2;clear ZN hE hY h0 ZZ;refine callsIn_of_wp Tryz.func152 rfl trivial ?_ rfl;simp only[Tryz.ntmps152,List.size_toArray,List.length_cons,List.length_nil,Nat.reduceAdd,Nat.reduceSub,Array.replicate_succ,Array.replicate_zero,List.push_toArray,List.append_toArray,List.nil_append,List.cons_append]
 have hTf:∀f,Fence.wide.fn f:=fun _=>trivial
 have WW:1≤m:=by omega
 gi_wp2_with (gi_at_call 153;refine(callsIn_wide.2 HV.out).mono ?_);rw[Nat.zero_add];rintro ee w4 (⟨rfl,SV,SJ⟩ |⟨rfl,UB⟩)
 ·gi_wp2_with fail
  refine bodyPost_end (results_none rfl _ _ _) rfl ?_;exact⟨⟨_,rfl⟩,.inl SJ⟩
 ·gi_wp2_with fail
  refine bodyPost_end (results_none rfl _ _ _) rfl ?_;exact⟨⟨_,rfl⟩,.inr UB⟩
attribute [local go_sem] Oper.semAt_some
def cnX(y:Ct):Nat:=1+eSz y
theorem z18(l:List Ct)(h:∀y ∈ l,((pre y).map cnX).sum=y.csz):(((l.map pre).flatten).map cnX).sum=(l.map Ct.csz).sum:=by
 induction l with
 |nil=>rfl
 |cons a l ih =>
  rw[List.map_cons,List.flatten_cons,List.map_append,List.sum_append,List.map_cons,List.sum_cons,h a (List.mem_cons_self ..),ih fun y hy=>h y (List.mem_cons_of_mem _ hy)]
theorem zw5:∀(x:Ct),((pre x).map cnX).sum=x.csz
 | .mk k f t n e d ds l=>by
  rw[zje,Ct.csz_is,List.map_cons,List.sum_cons,z18 _ fun y hy=>zw5 y];rfl
termination_by x=>SizeOf.sizeOf x
decreasing_by
 have:=List.sizeOf_lt_of_mem hy;simp only[Ct.mk.sizeOf_spec];simp only[Ct.sub]at this;omega
theorem z16(l:List Ct)(s:Nat)(y:Ct)(h:l[s]?=some y):((l.take (s+1)).map cnX).sum=((l.take s).map cnX).sum+cnX y:=by
 have hs:s<l.length:=by
  rcases Nat.lt_or_ge s l.length with q |q
  ·exact q
  ·rw[List.getElem?_eq_none q]at h;cases h
 rw[List.getElem?_eq_getElem hs]at h
 injection h with h
 rw[List.take_succ_eq_append_getElem hs,List.map_append,List.sum_append,List.map_singleton,List.sum_singleton,h]
theorem ybk(l:List Ct)(s:Nat):((l.take s).map cnX).sum≤(l.map cnX).sum:=by
 have h:(l.map cnX).sum=((l.take s).map cnX).sum+((l.drop s).map cnX).sum:=by
  rw[←List.sum_append,←List.map_append,List.take_append_drop]
 omega
theorem zkx:∀(x:Ct){y:Ct},y ∈ pre x→y.size≤x.size
 | .mk k f t n e d ds l,y,h=>by
  rw[zje,List.mem_cons]at h
  rcases h with rfl |h
  ·exact Nat.le_refl _
  ·obtain⟨_,h1,h2⟩:=List.mem_flatten.1 h
   obtain⟨z,hz,rfl⟩:=List.mem_map.1 h1;have q1:=zkx z h2;have q2:=Ct.sub_size (x:=.mk k f t n e d ds l) hz;omega
termination_by x=>SizeOf.sizeOf x
decreasing_by
 have:=List.sizeOf_lt_of_mem hz;simp only[Ct.mk.sizeOf_spec];simp only[Ct.sub]at this;omega
theorem zx8:∀(d:Nat)(x:Ct){y:Ct},CSm d x→y ∈ pre x→∃e,e≤d∧CSm e y
 |0,_,_,h,_=>h.elim
 |d+1,x,y,h,hy=>by
  rw[zje,List.mem_cons]at hy
  rcases hy with rfl |hy
  ·exact⟨_,Nat.le_refl _,h⟩
  ·obtain⟨_,h1,h2⟩:=List.mem_flatten.1 hy
   obtain⟨z,hz,rfl⟩:=List.mem_map.1 h1;obtain⟨e,he,hc⟩:=zx8 d z (h.2.2 z hz) h2;exact⟨e,by omega,hc⟩
def boxV(v:Value):Obj:=match v with
 | .agg cs=>.cells cs 40
 |_=>.cells #[] 40
def SzI(x:Ct)(ea:Option Addr)(el ec:Nat)(da:Option Addr)(dl dc:Nat)(a:Option Addr)(len cap:Nat)(w:World)(s:Nat)(W:World):Prop :=
 Below w.heap.size w W∧W.heap[w.heap.size+1]?=some (.cells #[.int .i64 ((((pre x).take s).map cnX).sum:Nat)] 3)∧W.heap[w.heap.size+1+1]?=some (.cells #[.int .u8 x.kind,.string x.frm,.string x.too,.string x.name,.int .u8 x.expr.kind,.string x.expr.rat,.string x.expr.name,.int .i64 x.expr.date,.slice ea el ec,.int .i64 x.date,.slice da dl dc,.slice a len cap] 40)
theorem z8d(x:Ct)(ea:Option Addr)(el ec:Nat)(da:Option Addr)(dl dc:Nat)(a:Option Addr)(len cap:Nat)(w:World)(B:Nat)(hB:w.heap.size+3≤B):OwnFrom B (SzI x ea el ec da dl dc a len cap w):=by
 intro s W W' row ⟨h1,h2,h3⟩ hg hr
 have Z0:∀j,j<w.heap.size+3→some j≠row:=fun j hj e=>by have:=(hr j e.symm).1;omega
 have l2:=(Z8 h2);have l3:=(Z8 h3);exact⟨h1.grown hg h1.size (fun k hk=>by have:=(hr k hk).1;omega),(hg.block _ l2 (Z0 _ (by omega))).trans h2,(hg.block _ l3 (Z0 _ (by omega))).trans h3⟩
theorem zmf(n:Nat)(x:Ct)(cs:List Value)(w:World)(ZZ:CtAt n w cs x)(hz:x.size≤100000):Calls Tryz.prog 100 #[.agg cs.toArray] w (IntP w (x.csz:Int)):=by
 obtain⟨ea,el,ec,da,dl,dc,a,len,cap,rfl,_⟩:=ZZ.shape;have VY:=Ct.csz_le x;have hsum:=zw5 x
 show Calls Tryz.prog 100 #[.agg #[.int .u8 x.kind,.string x.frm,.string x.too,.string x.name,.int .u8 x.expr.kind,.string x.expr.rat,.string x.expr.name,.int .i64 x.expr.date,.slice ea el ec,.int .i64 x.date,.slice da dl dc,.slice a len cap]] w _
 refine(callsIn_wide (n:=6)).1 ?_;refine callsIn_of_wp_marks Tryz.func100 rfl trivial ?_ rfl;simp only[Tryz.ntmps100,List.size_toArray,List.length_cons,List.length_nil,Nat.reduceAdd,Nat.reduceSub,Array.replicate_succ,Array.replicate_zero,List.push_toArray,List.append_toArray,List.nil_append,List.cons_append]
 have hTf:∀f,Fence.wide.fn f:=fun _=>trivial
 gi_wp2_with (gi_at_call 102;refine(callsIn_wide.2 (zpj x ea el ec da dl dc a len cap _)).mono ?_;rintro e w' ⟨rfl,rfl⟩);obtain⟨W0,Z7⟩:∃W0,W0=((w.alloc (.cells #[.int .u8 x.kind,.string x.frm,.string x.too,.string x.name,.int .u8 x.expr.kind,.string x.expr.rat,.string x.expr.name,.int .i64 x.expr.date,.slice ea el ec,.int .i64 x.date,.slice da dl dc,.slice a len cap] 40)).alloc (.cells #[.int .i64 0] 3)).alloc (.cells #[.int .u8 x.kind,.string x.frm,.string x.too,.string x.name,.int .u8 x.expr.kind,.string x.expr.rat,.string x.expr.name,.int .i64 x.expr.date,.slice ea el ec,.int .i64 x.date,.slice da dl dc,.slice a len cap] 40):=⟨_,rfl⟩
 have hT:=zom w (.cells #[.int .u8 x.kind,.string x.frm,.string x.too,.string x.name,.int .u8 x.expr.kind,.string x.expr.rat,.string x.expr.name,.int .i64 x.expr.date,.slice ea el ec,.int .i64 x.date,.slice da dl dc,.slice a len cap] 40) (.cells #[.int .i64 0] 3) (.cells #[.int .u8 x.kind,.string x.frm,.string x.too,.string x.name,.int .u8 x.expr.kind,.string x.expr.rat,.string x.expr.name,.int .i64 x.expr.date,.slice ea el ec,.int .i64 x.date,.slice da dl dc,.slice a len cap] 40);rw[←Z7]at hT;have ZS:W0.heap.size=w.heap.size+3:=by rw[Z7];simp
 have hB0:Below w.heap.size w W0:=by rw[Z7];exact((zaa w _).alloc (by simp) _).alloc (by simp;omega) _
 have hI0:SzI x ea el ec da dl dc a len cap w 0 W0:=⟨hB0,hT.2.1,hT.2.2⟩;rw[←Z7];have hS:=zpi x ea el ec da dl dc a len cap w n n 5 (w.heap.size+1+1) W0.heap.size (by omega) ZZ (Nat.le_refl _) hz;have HSUM:=Z9 hsum;have ZQ:=Z9 ZZ;clear Z7 hT hB0 hsum ZZ
 refine zs3 (by omega) (gf:=152) (lb:=#[.pointer (some ⟨w.heap.size+1+1,0,none⟩)]) rfl (enters_of Tryz.func152 (by kernel_rfl) rfl) hS rfl
  (SzI x ea el ec da dl dc a len cap w) (fun _=>False) (z8d x ea el ec da dl dc a len cap w _ (by omega)) (fun _ _ _ _ h _ _=>h.elim) (fun s W h=>⟨h.1,h.2.2⟩) hI0
  (fun v b=>{ tmps:=#[.agg #[.int .u8 x.kind,.string x.frm,.string x.too,.string x.name,.int .u8 x.expr.kind,.string x.expr.rat,.string x.expr.name,.int .i64 x.expr.date,.slice ea el ec,.int .i64 x.date,.slice da dl dc,.slice a len cap],.pointer (some ⟨w.heap.size,0,none⟩),.int .i64 0,.pointer (some ⟨w.heap.size+1,0,none⟩),.pointer (some ⟨b,0,none⟩),.agg #[.int .u8 x.kind,.string x.frm,.string x.too,.string x.name,.int .u8 x.expr.kind,.string x.expr.rat,.string x.expr.name,.int .i64 x.expr.date,.slice ea el ec,.int .i64 x.date,.slice da dl dc,.slice a len cap],.func (.func 152) #[] #[.pointer (some ⟨w.heap.size+1+1,0,none⟩)],v,undef,undef,undef,undef,undef,undef,undef,undef,undef,undef,undef,undef],defers:=[] }) boxV ?assign ?body ?done ?stop
 case assign =>
  rintro l v s W K ⟨y,cs,hy,rfl,hc⟩ hI hK;obtain⟨eap,elp,ecp,dap,dlp,dcp,ap,lenp,capp,rfl,_⟩:=hc.shape;have e:zdp y eap elp ecp dap dlp dcp ap lenp capp=[.int .u8 y.kind,.string y.frm,.string y.too,.string y.name,.int .u8 y.expr.kind,.string y.expr.rat,.string y.expr.name,.int .i64 y.expr.date,.slice eap elp ecp,.int .i64 y.date,.slice dap dlp dcp,.slice ap lenp capp]:=rfl;rw[e]at hK ⊢;gi_wp2;exact hK
 case body =>
  rintro l s v b W ⟨Zv,Zz,Z2⟩ hs ⟨y,cs,hy,rfl,hc⟩ hbB Wl
  obtain⟨m,hm⟩:∃m,n=m+1:=by
   cases n with
   |zero=>exact hc.elim
   |succ m=>exact⟨m,rfl⟩
  subst hm;obtain⟨eap,elp,ecp,dap,dlp,dcp,ap,lenp,capp,rfl,Yu,_⟩:=hc;have e:zdp y eap elp ecp dap dlp dcp ap lenp capp=[.int .u8 y.kind,.string y.frm,.string y.too,.string y.name,.int .u8 y.expr.kind,.string y.expr.rat,.string y.expr.name,.int .i64 y.expr.date,.slice eap elp ecp,.int .i64 y.date,.slice dap dlp dcp,.slice ap lenp capp]:=rfl;rw[e];have hbox':W.heap[b]?=some (.cells #[.int .u8 y.kind,.string y.frm,.string y.too,.string y.name,.int .u8 y.expr.kind,.string y.expr.rat,.string y.expr.name,.int .i64 y.expr.date,.slice eap elp ecp,.int .i64 y.date,.slice dap dlp dcp,.slice ap lenp capp] 40):=Wl
  have Zq:y.expr.sub.length=elp:=by
   obtain⟨a',l',c',he,hl,_⟩:=Yu
   injection he with _ he;injection he with _ he;injection he with _ he;injection he with _ he;injection he with he _
   injection he with _ he _
   rw[hl,he]
  obtain⟨S,hS⟩:∃S:Nat,S=(((pre x).take s).map cnX).sum:=⟨_,rfl⟩
  rw[←hS]at Zz;have hS1:=z16 (pre x) s y hy;have SP:=ybk (pre x) (s+1);rw[←hS]at hS1;have Ys:=zkx x (List.mem_of_getElem? hy);have hyz:=y.expr_size;have hS3:S+cnX y≤100000:=by have:=HSUM.out;omega
  have hn0:=zbf Zz 0;have hnf:=Lib.frozen_of_heap Zz 0;have hnl:=(Z8 Zz);have ZK:=(Z8 hbox');have Z0:¬(b=w.heap.size+1):=by omega
  have Ym:¬(w.heap.size+1=b):=by omega
  obtain⟨c0,c1,c2,c3,c4,c5,c6,c7,c8,c9,ca,cb⟩:=zbz hbox';obtain⟨W1,YK⟩:∃W1,W1=W.setCell ⟨w.heap.size+1,0,none⟩ (.int .i64 ((S:Int)+1)):=⟨_,rfl⟩
  have hW1n:W1.heap[w.heap.size+1]?=some (.cells #[.int .i64 ((S:Int)+1)] 3):=by
   rw[YK];simp[World.setCell,Array.getElem?_modify,Zz]
  have hW1b:W1.heap[b]?=some (.cells #[.int .u8 y.kind,.string y.frm,.string y.too,.string y.name,.int .u8 y.expr.kind,.string y.expr.rat,.string y.expr.name,.int .i64 y.expr.date,.slice eap elp ecp,.int .i64 y.date,.slice dap dlp dcp,.slice ap lenp capp] 40):=by
   rw[YK,Below.heap_setCell _ _ _ _ Z0];exact hbox'
  have hW1x:W1.heap[w.heap.size+1+1]?=some (.cells #[.int .u8 x.kind,.string x.frm,.string x.too,.string x.name,.int .u8 x.expr.kind,.string x.expr.rat,.string x.expr.name,.int .i64 x.expr.date,.slice ea el ec,.int .i64 x.date,.slice da dl dc,.slice a len cap] 40):=by
   rw[YK,Below.heap_setCell _ _ _ _ (by show w.heap.size+1+1≠w.heap.size+1;omega)];exact Z2
  have hW1w:Below w.heap.size w W1:=by rw[YK];exact Zv.setCell (p:=⟨w.heap.size+1,0,none⟩) (by show w.heap.size≤w.heap.size+1;omega) _
  have hW1f:FrmW W0.heap.size W W1:=by rw[YK];exact FrmW.set (by show w.heap.size+1<W0.heap.size;omega) _
  have hW1s:W1.heap.size=W.heap.size:=by rw[YK];simp[World.setCell]
  have HBARE:=Z9 (zeh y.expr eap elp ecp W1 Zq)
  have HFIN:Hid (∀(A:Act)(W2:World)(C:Nat),Below W1.heap.size W1 W2→C=1+eSz y→C=1→zlq W0.heap.size s (SzI x ea el ec da dl dc a len cap w) (fun _=>False) W .normal A W2):=fun _ W2 C ZU hC hC1=>by
   refine⟨hW1f.trans (FrmW.below ZU),hW1w.trans (ZU.mono hW1w.size),?_,(ZU.block _ (Z8 hW1x)).trans hW1x⟩;rw[ZU.block _ (Z8 hW1n),hW1n,hS1];unfold cnX;rw[←hC,hC1];rfl
  have HFIN2:Hid (∀(A:Act)(W2:World)(C:Nat),Below W1.heap.size W1 W2→C=eSz y→zlq W0.heap.size s (SzI x ea el ec da dl dc a len cap w) (fun _=>False) W .normal A (W2.setCell ⟨w.heap.size+1,0,none⟩ (.int .i64 ((S:Int)+1+(C:Int))))):=fun _ W2 C ZU hC=>by
   have Yr:=(ZU.block _ (Z8 hW1n)).trans hW1n;refine⟨(hW1f.trans (FrmW.below ZU)).trans (FrmW.set (by show w.heap.size+1<W0.heap.size;omega) _),(hW1w.trans (ZU.mono hW1w.size)).setCell (p:=⟨w.heap.size+1,0,none⟩) (by show w.heap.size≤w.heap.size+1;omega) _,?_,?_⟩
   ·rw[hS1]
    unfold cnX;rw[←hC];simp[World.setCell,Array.getElem?_modify,Yr];omega
   ·rw[Below.heap_setCell _ _ _ _ (by show w.heap.size+1+1≠w.heap.size+1;omega)]
    exact(ZU.block _ (Z8 hW1x)).trans hW1x
  have hcn:cnX y=1+eSz y:=rfl;have SU:=zzu y
  have HSZ:Hid (∀W2,Below W1.heap.size W1 W2→Calls Tryz.prog 90 #[.agg #[.int .u8 y.expr.kind,.string y.expr.rat,.string y.expr.name,.int .i64 y.expr.date,.slice eap elp ecp]] W2 (IntP W2 (y.expr.size:Int))):=fun W2 ZU=>zkv (m+1) y.expr _ W2 (ExAt.below (hW1w.trans (ZU.mono hW1w.size)) Yu) (by omega)
  have YW:=Z9 YK;have HN1:=Z9 hW1n;have ZT:=Z9 hW1b;have hSb:S+1≤100000:=by omega
  obtain⟨bb,Vh⟩:∃b,b=zd8 y.expr:=⟨_,rfl⟩
  rw[←Vh]at HBARE;have HBB:=Z9 Vh
  have HES:Hid (eSz y=if bb then 0 else y.expr.size):=by show _=_;rw[Vh];rfl
  obtain⟨q,hq⟩:∃q,q=y.expr.size:=⟨_,rfl⟩
  rw[←hq]at HSZ HES;have T7:q≤100000:=by omega
  have hSq:bb=false→S+1+q≤100000:=fun h=>by
   have:=HES.out;rw[h]at this;have:eSz y=q:=this;omega
  have HSq:=Z9 hSq
  have hTr:∀f,(Fence.wide.inRound l).fn f:=fun _=>trivial
  have Xn:1≤6-1-1:=by omega
  clear hS hS1 SP Ys hyz hS3 Zz Z2 Zv Wl hbox' Yu Zq hy YK hW1n hW1b hW1x hW1w hW1f hcn SU Vh hq hSq hs;gi_wp2_with (gi_at_call 150;rw[←YW.out];refine(CallsIn.inRound l (callsIn_wide.2 HBARE.out)).mono ?_);rintro e w2 ⟨rfl,Z3⟩;have ZY:=Z9 Z3
  cases bb with
  |true =>
   clear c0 c1 c2 c3 c4 c5 c6 c7 c8 c9 ca cb hn0 hnf Z3;gi_wp2;exact HFIN.out _ _ 1 ZY.out (by rw[HES.out];rfl) rfl
  |false =>
   have Yr:=(Z3.block _ (by omega)).trans HN1.out;have hbx2:=(Z3.block b (by omega)).trans ZT.out;have hS2q:=HSq.out rfl;have HWR:Hid (IntKind.i64.wrap ((S:Int)+1+(q:Int))=(S:Int)+1+(q:Int)):=IntWalk.i64_in _ (by omega);clear c0 c1 c2 c3 c4 c5 c6 c7 c8 c9 ca cb hn0 hnf Z3;have n2:=zbf Yr 0;have f2:=Lib.frozen_of_heap Yr 0;obtain⟨c0,c1,c2,c3,c4,c5,c6,c7,c8,c9,ca,cb⟩:=zbz hbx2;have HD0:Hid (Below W1.heap.size W1 w2.drew):=ZY.out.drew;clear Yr hbx2;gi_wp2;gi_region_with ((gi_at_call 90;refine(CallsIn.inRound l (callsIn_wide.2 (HSZ.out _ HD0.out))).mono ?_;rintro e w3 ⟨rfl,Zw⟩;have Zx:=Z9 (HD0.out.trans (Zw.mono HD0.out.size));have Us:=(Zx.out.block (w.heap.size+1) (by omega)).trans HN1.out;have n3:=zbf Us 0;have f3:=Lib.frozen_of_heap Us 0;clear Us Zw))
   all_goals
    gi_wp2
    try rw[HWR.out]
    exact HFIN2.out _ _ q Zx.out (by rw[HES.out];rfl)
 case done =>
  rintro D W hD ⟨Zv,Zz,Z2⟩ hK;rw[List.take_length,HSUM.out]at Zz;obtain⟨Z,hZ⟩:∃Z,Z=x.csz:=⟨_,rfl⟩
  rw[←hZ]at Zz ⊢;have n0:=zbf Zz 0;have HK:=Z9 hK;have HB:=Z9 Zv;have HZZ:=Z9 hZ;clear Zz Z2 Zv hK hZ VY HSUM ZQ hS hI0;gi_wp2;refine⟨by simp,.inl ⟨_,_,rfl,run_takeDeferred HK.out,?_⟩⟩;refine⟨.int .i64 (Z:Int),by simp[results,Tryz.results100,go_sem],by rw[HZZ.out],?_⟩;exact HB.out.grown (grownBy_putObj' W D (.deferred none)) HB.out.size (fun k e=>by injection e with e;omega)
 case stop =>
  rintro D W hD h hK;exact h.elim
theorem z6h(l:List Ct)(p:Ct→Bool)(h:∀y ∈ l,(pre y).all p=ze6 y):((l.map pre).flatten).all p=l.all ze6:=by
 induction l with
 |nil=>rfl
 |cons a l ih =>
  rw[List.map_cons,List.flatten_cons,List.all_append,h a (List.mem_cons_self ..),ih fun y hy=>h y (List.mem_cons_of_mem _ hy),List.all_cons]
theorem zto:∀(x:Ct),(pre x).all zdf=ze6 x
 | .mk k f t n e d ds l=>by
  rw[zje,zil,List.all_cons,z6h _ _ fun y hy=>zto y,Bool.and_comm]
termination_by x=>SizeOf.sizeOf x
decreasing_by
 have:=List.sizeOf_lt_of_mem hy;simp only[Ct.mk.sizeOf_spec];simp only[Ct.sub]at this;omega
theorem zx7:∀(n:Nat)(x:Ct){y:Ct},CKOk n x→y ∈ pre x→CKOk n y
 |0,_,_,h,_=>h.elim
 |n+1,x,y,h,hy=>by
  rw[zje,List.mem_cons]at hy
  rcases hy with rfl |hy
  ·exact h
  ·obtain⟨_,h1,h2⟩:=List.mem_flatten.1 hy
   obtain⟨z,hz,rfl⟩:=List.mem_map.1 h1;exact CKOk.up (by omega) (zx7 n z (h.2.2 z hz) h2)
theorem CtIn.node{n:Nat}{x y:Ct}{cs cs':List Value}{w w' Wg:World}(h:CtIn n x cs w Wg)(hy:y ∈ pre x)(hc:CtAt n w cs' y)(hb:Below w.heap.size w w'):CtIn n y cs' w' Wg:=by
 obtain⟨_,hk,hz,⟨d,hd,hs⟩,hp,ho⟩:=h;obtain⟨e,he,YG⟩:=zx8 d x hs hy;exact⟨CtAt.below hb hc,zx7 n x hk hy,Nat.le_trans (zkx x hy) hz,⟨e,by omega,YG⟩,hp,ho.trans (hb.mono ho.size)⟩
attribute [local go_sem] Oper.semAt_some
def ChI(x:Ct)(ea:Option Addr)(el ec:Nat)(da:Option Addr)(dl dc:Nat)(a:Option Addr)(len cap:Nat)(w:World)(D:Nat)(s:Nat)(W:World):Prop :=
 Below w.heap.size w W∧W.heap[w.heap.size+1]?=some (.cells #[.int .i64 0] 28)∧W.heap[D]?=some (.cells #[.int .u8 x.kind,.string x.frm,.string x.too,.string x.name,.int .u8 x.expr.kind,.string x.expr.rat,.string x.expr.name,.int .i64 x.expr.date,.slice ea el ec,.int .i64 x.date,.slice da dl dc,.slice a len cap] 40)∧∀i y,i<s→(pre x)[i]?=some y→zdf y=true
def ChX(x:Ct)(w:World)(W:World):Prop :=
 Below w.heap.size w W∧W.heap[w.heap.size+1]?=some (.cells #[.int .i64 8] 28)∧ze6 x=false
theorem ya0(x:Ct)(ea:Option Addr)(el ec:Nat)(da:Option Addr)(dl dc:Nat)(a:Option Addr)(len cap:Nat)(w:World)(D B:Nat)(hB:w.heap.size+2≤B)(hD:D<B):OwnFrom B (ChI x ea el ec da dl dc a len cap w D):=by
 intro s W W' row ⟨h1,h2,h3,h4⟩ hg hr
 have Z0:∀j,j<B→some j≠row:=fun j hj e=>by have:=(hr j e.symm).1;omega
 have l2:=(Z8 h2);have l3:=(Z8 h3);exact⟨h1.grown hg h1.size (fun k hk=>by have:=(hr k hk).1;omega),(hg.block _ l2 (Z0 _ (by omega))).trans h2,(hg.block _ l3 (Z0 _ hD)).trans h3,h4⟩
theorem yaz(x:Ct)(w:World)(B:Nat)(hB:w.heap.size+2≤B):OwnFrom B (fun(_:Unit) W=>ChX x w W):=by
 intro s W W' row ⟨h1,h2,h3⟩ hg hr
 have Z0:∀j,j<B→some j≠row:=fun j hj e=>by have:=(hr j e.symm).1;omega
 have l2:=(Z8 h2);exact⟨h1.grown hg h1.size (fun k hk=>by have:=(hr k hk).1;omega),(hg.block _ l2 (Z0 _ (by omega))).trans h2,h3⟩
theorem zye(n:Nat)(x:Ct)(cs:List Value)(w Wg:World)(YN:zcr Wg)(h:CtIn n x cs w Wg):Calls Tryz.prog 56 #[.agg cs.toArray] w (IntP w (chkC x)):=by
 have XX:=h.at_.shape;obtain⟨ea,el,ec,da,dl,dc,a,len,cap,rfl,_⟩:=XX
 show Calls Tryz.prog 56 #[.agg #[.int .u8 x.kind,.string x.frm,.string x.too,.string x.name,.int .u8 x.expr.kind,.string x.expr.rat,.string x.expr.name,.int .i64 x.expr.date,.slice ea el ec,.int .i64 x.date,.slice da dl dc,.slice a len cap]] w _
 obtain⟨W0,Z7⟩:∃W0,W0=(w.alloc (.cells #[.int .u8 x.kind,.string x.frm,.string x.too,.string x.name,.int .u8 x.expr.kind,.string x.expr.rat,.string x.expr.name,.int .i64 x.expr.date,.slice ea el ec,.int .i64 x.date,.slice da dl dc,.slice a len cap] 40)).alloc (.cells #[.int .i64 0] 28):=⟨_,rfl⟩
 have Z2:W0.heap[w.heap.size]?=some (.cells #[.int .u8 x.kind,.string x.frm,.string x.too,.string x.name,.int .u8 x.expr.kind,.string x.expr.rat,.string x.expr.name,.int .i64 x.expr.date,.slice ea el ec,.int .i64 x.date,.slice da dl dc,.slice a len cap] 40):=by rw[Z7];exact zg8 ..
 have XI:W0.heap[w.heap.size+1]?=some (.cells #[.int .i64 0] 28):=by rw[Z7];exact zcx _ _ _ (World.size_alloc _ _)
 have hB0:Below w.heap.size w W0:=by rw[Z7];exact(zaa w _).alloc (by simp) _
 have hsz0:W0.heap.size=w.heap.size+2:=by rw[Z7];simp
 have h0:=h.below hB0;have VY:=Ct.csz_le x;have Vc:=h.size
 have HC:∀W,Below W0.heap.size W0 W→_:=fun W hW=>zbz ((hW.block _ (Z8 Z2)).trans Z2)
 have HY:Hid (∀W,Below W0.heap.size W0 W→W.heap[w.heap.size+1]?=some (.cells #[.int .i64 0] 28)):=fun W hW=>(hW.block _ (Z8 XI)).trans XI
 have HSZ:Hid (∀W,Below W0.heap.size W0 W→Calls Tryz.prog 100 #[.agg #[.int .u8 x.kind,.string x.frm,.string x.too,.string x.name,.int .u8 x.expr.kind,.string x.expr.rat,.string x.expr.name,.int .i64 x.expr.date,.slice ea el ec,.int .i64 x.date,.slice da dl dc,.slice a len cap]] W (IntP W (x.csz:Int))):=fun W hW=>zmf n x _ W (CtAt.below hW h0.at_) (by omega)
 have VS:Hid (∀W,Below W0.heap.size W0 W→Calls Tryz.prog 101 #[.agg #[.int .u8 x.kind,.string x.frm,.string x.too,.string x.name,.int .u8 x.expr.kind,.string x.expr.rat,.string x.expr.name,.int .i64 x.expr.date,.slice ea el ec,.int .i64 x.date,.slice da dl dc,.slice a len cap]] W (IntP W (x.cdp:Int))):=fun W hW=>zq8 n x _ W (CtAt.below hW h0.at_) h.size h.sm9
 have hcd:x.cdp≤1000:=by
  obtain⟨d,h9,hd⟩:=h.sm9;have:=hd.cdp;omega
 obtain⟨R,hR⟩:∃R,R=chkC x:=⟨_,rfl⟩
 rw[←hR];have HW0:=Z9 Z7;have HB0:=Z9 hB0;have HIN:=Z9 h;have HPT:=Z9 YN;have HCC:=Z9 HC;obtain⟨sz,ZS⟩:∃q,q=x.csz:=⟨_,rfl⟩
 obtain⟨dp,Xc⟩:∃q,q=x.cdp:=⟨_,rfl⟩
 have hcx:R=if 500<sz∨60<dp then 4 else if ze6 x then 0 else 8:=by rw[hR,ZS,Xc];rfl
 have hszb:sz≤3000:=by omega
 have hdpb:dp≤1000:=by omega
 rw[←ZS]at HSZ;rw[←Xc]at VS;have HCX:=Z9 hcx
 have hTf:∀f,Fence.wide.fn f:=fun _=>trivial
 clear hR Z7 hB0 HC h0 h Z2 XI ZS Xc hcx VY Vc hcd YN;refine(callsIn_wide (n:=6)).1 ?_;refine callsIn_of_wp_marks Tryz.func56 rfl trivial ?_ rfl;simp only[Tryz.ntmps56,List.size_toArray,List.length_cons,List.length_nil,Nat.reduceAdd,Nat.reduceSub,Array.replicate_succ,Array.replicate_zero,List.push_toArray,List.append_toArray,List.nil_append,List.cons_append];gi_wp2_with (gi_at_call 100;rw[←HW0.out];refine(callsIn_wide.2 (HSZ.out _ (Below.refl _ _))).mono ?_);rintro e w1 ⟨rfl,hb⟩;have ZT:=Z9 hb;have HB:=Z9 (HB0.out.trans (hb.mono HB0.out.size));clear hb;obtain⟨c0,c1,c2,c3,c4,c5,c6,c7,c8,c9,ca,cb⟩:=HCC.out w1 ZT.out
 have y0:=zbf (HY.out w1 ZT.out) 0;have yf:=Lib.frozen_of_heap (HY.out w1 ZT.out) 0
 by_cases h5:500<sz
 ·have e:R=4:=by rw[HCX.out,if_pos (.inl h5)]
  have E:=Z9 e;have d5:decide ((500:Int)<(sz:Int))=true:=decide_eq_true (by omega);clear e;gi_wp2_with fail;refine⟨.int .i64 4,by simp[results,Tryz.results56,go_sem,World.cell?_setCell_same w1 ⟨w.heap.size+1,0,none⟩ (.int .i64 4) y0],by rw[E.out],HB.out.setCell (p:=⟨w.heap.size+1,0,none⟩) (Nat.le_succ _) _⟩
 have d5:decide ((500:Int)<(sz:Int))=false:=decide_eq_false (by omega)
 by_cases h6:60<dp
 ·have e:R=4:=by rw[HCX.out,if_pos (.inr h6)]
  have E:=Z9 e;have d6:decide ((60:Int)<(dp:Int))=true:=decide_eq_true (by omega);clear e;gi_wp2_with (gi_at_call 101;refine(callsIn_wide.2 (VS.out _ ZT.out)).mono ?_;rintro e w2 ⟨rfl,Z3⟩;have ZY:=Z9 (ZT.out.trans (Z3.mono ZT.out.size));have HBB:=Z9 (HB.out.trans (Z3.mono HB.out.size));clear Z3 c0 c1 c2 c3 c4 c5 c6 c7 c8 c9 ca cb y0 yf;obtain⟨c0,c1,c2,c3,c4,c5,c6,c7,c8,c9,ca,cb⟩:=HCC.out w2 ZY.out;have y0:=zbf (HY.out w2 ZY.out) 0;have yf:=Lib.frozen_of_heap (HY.out w2 ZY.out) 0);refine⟨.int .i64 4,by simp[results,Tryz.results56,go_sem,World.cell?_setCell_same w2 ⟨w.heap.size+1,0,none⟩ (.int .i64 4) y0],by rw[E.out],HBB.out.setCell (p:=⟨w.heap.size+1,0,none⟩) (Nat.le_succ _) _⟩
 have d6:decide ((60:Int)<(dp:Int))=false:=decide_eq_false (by omega);gi_wp2_with (first |(gi_at_call 102;refine(callsIn_wide.2 (zpj x ea el ec da dl dc a len cap _)).mono ?_;rintro e w' ⟨rfl,rfl⟩) |(gi_at_call 101;refine(callsIn_wide.2 (VS.out _ ZT.out)).mono ?_;rintro e w2 ⟨rfl,Z3⟩;have ZY:=Z9 (ZT.out.trans (Z3.mono ZT.out.size));have HBB:=Z9 (HB.out.trans (Z3.mono HB.out.size));clear Z3 c0 c1 c2 c3 c4 c5 c6 c7 c8 c9 ca cb y0 yf;obtain⟨c0,c1,c2,c3,c4,c5,c6,c7,c8,c9,ca,cb⟩:=HCC.out w2 ZY.out;have y0:=zbf (HY.out w2 ZY.out) 0;have yf:=Lib.frozen_of_heap (HY.out w2 ZY.out) 0));obtain⟨W3,YD⟩:∃W3,W3=w2.alloc (.cells #[.int .u8 x.kind,.string x.frm,.string x.too,.string x.name,.int .u8 x.expr.kind,.string x.expr.rat,.string x.expr.name,.int .i64 x.expr.date,.slice ea el ec,.int .i64 x.date,.slice da dl dc,.slice a len cap] 40):=⟨_,rfl⟩
 have hsz3:W3.heap.size=w2.heap.size+1:=by rw[YD];simp
 have h2s:=ZY.out.size;have hB3:Below w.heap.size w W3:=by rw[YD];exact HBB.out.alloc HBB.out.size _
 have SF:W3.heap[w.heap.size+1]?=some (.cells #[.int .i64 0] 28):=by rw[YD];exact(Below.heap_alloc _ _ _ (by omega)).trans (HY.out w2 ZY.out)
 have hbx3:W3.heap[w2.heap.size]?=some (.cells #[.int .u8 x.kind,.string x.frm,.string x.too,.string x.name,.int .u8 x.expr.kind,.string x.expr.rat,.string x.expr.name,.int .i64 x.expr.date,.slice ea el ec,.int .i64 x.date,.slice da dl dc,.slice a len cap] 40):=by rw[YD];exact World.alloc_heap_new w2 _
 have hI0:ChI x ea el ec da dl dc a len cap w w2.heap.size 0 W3:=⟨hB3,SF,hbx3,fun i y hi=>absurd hi (Nat.not_lt_zero _)⟩;rw[←YD];have hS:=zpi x ea el ec da dl dc a len cap w n n 5 w2.heap.size W3.heap.size (by omega) HIN.out.at_ (Nat.le_refl _) (by have:=HIN.out.size;omega);have HFP:=Z9 (zto x);clear YD hB3 SF hbx3 c0 c1 c2 c3 c4 c5 c6 c7 c8 c9 ca cb y0 yf
 refine zs3 (by omega) (gf:=152) (lb:=#[.pointer (some ⟨w2.heap.size,0,none⟩)]) rfl (enters_of Tryz.func152 (by kernel_rfl) rfl) hS rfl
  (ChI x ea el ec da dl dc a len cap w w2.heap.size) (ChX x w) (ya0 x ea el ec da dl dc a len cap w _ _ (by omega) (by omega)) (yaz x w _ (by omega)) (fun s W h=>⟨h.1,h.2.2.1⟩) hI0
  (fun v b=>{ tmps:=#[.agg #[.int .u8 x.kind,.string x.frm,.string x.too,.string x.name,.int .u8 x.expr.kind,.string x.expr.rat,.string x.expr.name,.int .i64 x.expr.date,.slice ea el ec,.int .i64 x.date,.slice da dl dc,.slice a len cap],.pointer (some ⟨w.heap.size,0,none⟩),.pointer (some ⟨w.heap.size+1,0,none⟩),.pointer (some ⟨b,0,none⟩),.agg #[.int .u8 x.kind,.string x.frm,.string x.too,.string x.name,.int .u8 x.expr.kind,.string x.expr.rat,.string x.expr.name,.int .i64 x.expr.date,.slice ea el ec,.int .i64 x.date,.slice da dl dc,.slice a len cap],.int .i64 (sz:Int),.bool false,.bool false,.agg #[.int .u8 x.kind,.string x.frm,.string x.too,.string x.name,.int .u8 x.expr.kind,.string x.expr.rat,.string x.expr.name,.int .i64 x.expr.date,.slice ea el ec,.int .i64 x.date,.slice da dl dc,.slice a len cap],.int .i64 (dp:Int),.bool false,.bool false,.agg #[.int .u8 x.kind,.string x.frm,.string x.too,.string x.name,.int .u8 x.expr.kind,.string x.expr.rat,.string x.expr.name,.int .i64 x.expr.date,.slice ea el ec,.int .i64 x.date,.slice da dl dc,.slice a len cap],.func (.func 152) #[] #[.pointer (some ⟨w2.heap.size,0,none⟩)],v,undef,undef,undef],defers:=[] }) boxV ?assign ?body ?done ?stop
 case assign =>
  rintro l v s W K ⟨y,cs,hy,rfl,hc⟩ hI hK;obtain⟨eap,elp,ecp,dap,dlp,dcp,ap,lenp,capp,rfl,_⟩:=hc.shape;have e:zdp y eap elp ecp dap dlp dcp ap lenp capp=[.int .u8 y.kind,.string y.frm,.string y.too,.string y.name,.int .u8 y.expr.kind,.string y.expr.rat,.string y.expr.name,.int .i64 y.expr.date,.slice eap elp ecp,.int .i64 y.date,.slice dap dlp dcp,.slice ap lenp capp]:=rfl;rw[e]at hK ⊢;gi_wp2;exact hK
 case body =>
  rintro l s v b W ⟨Zv,Zz,Z2,Zy⟩ hs ⟨y,cs,hy,rfl,hc⟩ hbB Wl;have WZ:=List.mem_of_getElem? hy;have Xs:=HIN.out.node WZ hc Zv;obtain⟨eap,elp,ecp,dap,dlp,dcp,ap,lenp,capp,rfl,_⟩:=hc.shape;have e:zdp y eap elp ecp dap dlp dcp ap lenp capp=[.int .u8 y.kind,.string y.frm,.string y.too,.string y.name,.int .u8 y.expr.kind,.string y.expr.rat,.string y.expr.name,.int .i64 y.expr.date,.slice eap elp ecp,.int .i64 y.date,.slice dap dlp dcp,.slice ap lenp capp]:=rfl;rw[e]at Xs ⊢;have hbox':W.heap[b]?=some (.cells #[.int .u8 y.kind,.string y.frm,.string y.too,.string y.name,.int .u8 y.expr.kind,.string y.expr.rat,.string y.expr.name,.int .i64 y.expr.date,.slice eap elp ecp,.int .i64 y.date,.slice dap dlp dcp,.slice ap lenp capp] 40):=Wl
  have HND:=Z9 (zyc HPT.out n y _ W Xs);obtain⟨r,hr⟩:∃r,r=zdf y:=⟨_,rfl⟩
  rw[←hr]at HND;obtain⟨c0,c1,c2,c3,c4,c5,c6,c7,c8,c9,ca,cb⟩:=zbz hbox';have hsW:W3.heap.size≤W.heap.size:=by have:=(Z8 hbox');omega
  have HT:Hid (∀(A:Act)(W2:World),Below W.heap.size W W2→r=true→zlq W3.heap.size s (ChI x ea el ec da dl dc a len cap w w2.heap.size) (ChX x w) W .normal A W2):=fun _ W2 ZU Uw =>
   ⟨FrmW.below ZU,Zv.trans (ZU.mono Zv.size),(ZU.block _ (Z8 Zz)).trans Zz,(ZU.block _ (Z8 Z2)).trans Z2,fun i z hi hz=>by
    rcases Nat.lt_or_ge i s with h |h
    ·exact Zy i z h hz
    ·have:i=s:=by omega
     subst this;rw[hy]at hz
     injection hz with hz
     rw[←hz,←hr,Uw]⟩
  have HF:Hid (∀(A:Act)(W2:World),Below W.heap.size W W2→r=false→zlq W3.heap.size s (ChI x ea el ec da dl dc a len cap w w2.heap.size) (ChX x w) W .ret A (W2.setCell ⟨w.heap.size+1,0,none⟩ (.int .i64 8))):=fun _ W2 ZU Uw=>by
   have Yd:=(ZU.block _ (Z8 Zz)).trans Zz;refine⟨(FrmW.below ZU).trans (FrmW.set (by show w.heap.size+1<W3.heap.size;omega) _),(Zv.trans (ZU.mono Zv.size)).setCell (p:=⟨w.heap.size+1,0,none⟩) (by show w.heap.size≤w.heap.size+1;omega) _,?_,?_⟩
   ·simp[World.setCell,Array.getElem?_modify,Yd]
   ·rw[←HFP.out,List.all_eq_false]
    exact⟨y,WZ,by rw[←hr,Uw];decide⟩
  have HCN:=Z9 Zz
  have hTr:∀f,(Fence.wide.inRound l).fn f:=fun _=>trivial
  have Xn:1≤6-1-1:=by omega
  clear Z2 Zz Zy Zv Wl hbox' hc hy WZ Xs hr hs hS hI0
  cases r with
  |true =>
   gi_wp2_with (gi_at_call 103;refine(CallsIn.inRound l (callsIn_wide.2 HND.out)).mono ?_;rintro e W2 ⟨rfl,Z3⟩;have HB:=Z9 Z3;clear Z3 c0 c1 c2 c3 c4 c5 c6 c7 c8 c9 ca cb);exact HT.out _ _ HB.out (by first |rfl |trivial)
  |false =>
   gi_wp2_with (gi_at_call 103;refine(CallsIn.inRound l (callsIn_wide.2 HND.out)).mono ?_;rintro e W2 ⟨rfl,Z3⟩;have HB:=Z9 Z3;have Yd:=(Z3.block _ (Z8 HCN.out)).trans HCN.out;have n2:=zbf Yd 0;have f2:=Lib.frozen_of_heap Yd 0;clear Z3 Yd c0 c1 c2 c3 c4 c5 c6 c7 c8 c9 ca cb);exact HF.out _ _ HB.out (by first |rfl |trivial)
 case done =>
  rintro D W hD ⟨Zv,Zz,Z2,Zy⟩ hK
  have XD:ze6 x=true:=by
   rw[←HFP.out,List.all_eq_true];intro y hy;obtain⟨i,hi,rfl⟩:=List.getElem_of_mem hy;exact Zy i _ hi (List.getElem?_eq_getElem hi)
  have e0:R=0:=by rw[HCX.out,if_neg (by omega),XD];rfl
  have E:=Z9 e0;have HK:=Z9 hK;have HB:=Z9 Zv;have Z0:w.heap.size+1≠D:=by omega
  have n0:=zbf Zz 0;have f0:=Lib.frozen_of_heap Zz 0;have HCN:=Z9 Zz;clear Zz Z2 Zy hK Zv XD e0 hS hI0;gi_wp2;have hK2:(W.setCell ⟨w.heap.size+1,0,none⟩ (.int .i64 0)).heap[D]?=some (.deferred (some [])):=(Below.heap_setCell _ _ _ _ (Ne.symm Z0)).trans HK.out;refine⟨by simp,.inl ⟨_,_,rfl,run_takeDeferred hK2,?_⟩⟩
  have hc:((W.setCell ⟨w.heap.size+1,0,none⟩ (.int .i64 0)).putObj D (.deferred none)).cell? ⟨w.heap.size+1,0,none⟩=some (.int .i64 0):=by
   have e:=(World.putObj_heap_other (w:=W.setCell ⟨w.heap.size+1,0,none⟩ (.int .i64 0)) (o:=.deferred none) Z0);have e2:(W.setCell ⟨w.heap.size+1,0,none⟩ (.int .i64 0)).heap[w.heap.size+1]?=some (.cells #[.int .i64 0] 28):=by simp[World.setCell,Array.getElem?_modify,HCN.out]
   exact zbf (e.trans e2) 0
  refine⟨.int .i64 0,by simp[results,Tryz.results56,go_sem,hc],by rw[E.out],?_⟩;have YJ:=HB.out.setCell (p:=⟨w.heap.size+1,0,none⟩) (by show w.heap.size≤w.heap.size+1;omega) (.int .i64 0);exact YJ.grown (grownBy_putObj' _ D (.deferred none)) YJ.size (fun k e=>by injection e with e;omega)
 case stop =>
  rintro D W hD ⟨Zv,Zz,XD⟩ hK;have e0:R=8:=by rw[HCX.out,if_neg (by omega),XD];rfl
  have E:=Z9 e0;have HK:=Z9 hK;have HB:=Z9 Zv;have Z0:w.heap.size+1≠D:=by omega
  have HCN:=Z9 Zz;clear Zz hK Zv XD e0 hS hI0;gi_wp2;refine⟨by simp,.inl ⟨_,_,rfl,run_takeDeferred HK.out,?_⟩⟩;have hc:(W.putObj D (.deferred none)).cell? ⟨w.heap.size+1,0,none⟩=some (.int .i64 8):=zbf ((World.putObj_heap_other (w:=W) (o:=.deferred none) Z0).trans HCN.out) 0;refine⟨.int .i64 8,by simp[results,Tryz.results56,go_sem,hc],by rw[E.out],?_⟩;exact HB.out.grown (grownBy_putObj' W D (.deferred none)) HB.out.size (fun k e=>by injection e with e;omega)
def CSl:Nat→Ct→Prop
 |0,_=>False
 |d+1,x=>(x.name.size≤200∧x.frm.size≤200∧x.too.size≤200∧x.dates.length≤20000)∧SmX (d+1) x.expr∧∀y ∈ x.sub,CSl d y
theorem CSl.up:∀{n m:Nat}{x:Ct},n≤m→CSl n x→CSl m x
 |0,_,_,_,h=>h.elim
 |_+1,0,_,hm,_=>absurd hm (by omega)
 |n+1,m+1,_,hm,⟨h1,h2,h3⟩=>⟨h1,zh7 hm h2,fun y hy=>CSl.up (by omega) (h3 y hy)⟩
def GdC(x:Ct):Prop:=∃d,CSl d x∧CKOk d x
theorem GdC.list:∀{l:List Ct},(∀y ∈ l,GdC y)→∃d,∀y ∈ l,CSl d y∧CKOk d y
 | [],_=>⟨0,fun y h=>by cases h⟩
 |a :: l,h=>by
  obtain⟨d1,h1,h2⟩:=h a (by simp)
  obtain⟨d2,h3⟩:=GdC.list (l:=l) fun y hy=>h y (by simp[hy])
  refine⟨max d1 d2,fun y hy => ?_⟩
  rcases List.mem_cons.1 hy with rfl |hy
  ·exact⟨CSl.up (by omega) h1,CKOk.up (by omega) h2⟩
  ·exact⟨CSl.up (by omega) (h3 y hy).1,CKOk.up (by omega) (h3 y hy).2⟩
theorem GdC.mk{k:Int}{f t n:ByteArray}{e:Ex}{d:Int}{ds:List Int}{l:List Ct}(hk:0≤k∧k≤255)(hf:f.size≤200)(ht:t.size≤200)(hn:n.size≤200)(he:GdX e)(hd:ds.length≤20000)(hl:∀y ∈ l,GdC y):GdC (.mk k f t n e d ds l):=by
 obtain⟨m,hm⟩:=GdC.list hl;obtain⟨q,hq,Zp⟩:=he;exact⟨max m q+1,⟨⟨hn,hf,ht,hd⟩,zh7 (by omega) hq,fun y hy=>CSl.up (by omega) (hm y hy).1⟩,⟨hk,KOk.up (by omega) Zp,fun y hy=>CKOk.up (by omega) (hm y hy).2⟩⟩
theorem zzs:GdX tX0:=GdX.mk (by decide) (by decide) (by decide) fun y hy=>by cases hy
theorem zee:tX0.size=1:=zgp _ _ _ _
theorem zbq:tE0.size≤200:=by decide
theorem zd4(k:Int)(f t n:ByteArray)(e:Ex)(d:Int)(ds:List Int)(l:List Ct):(Ct.mk k f t n e d ds l).size=1+e.size+(l.map Ct.size).sum:=by rw[Ct.size_is];rfl
def SmC(f:RdC):Prop:=∀l,TksS l→l.length≤20000→∀x l',f l=.ok x l'→GdC x∧x.size+2*l'.length≤2*l.length∧l' <:+ l
def SmE(f:RdX):Prop:=∀l,TksS l→∀x l',f l=.ok x l'→GdX x∧x.size+l'.length≤l.length∧l' <:+ l
theorem zxw(n:Nat)(b:Bool):SmE (rdE n b):=fun l hl x l' h=>by
 have a:=zks n b l hl x l' h;have c:=zbi n b l;rw[h]at c;exact⟨a.1,a.2,c.1⟩
theorem z0a:∀(n:Nat)(l:List Tk)(ds:List Int)(l':List Tk),zfr n l=.ok ds l'→l' <:+ l∧ds.length+l'.length≤l.length
 |0,_,_,_,h=>by cases h
 |n+1,l,ds,l',h=>by
  unfold zfr at h
  split at h
  ·rename_i h3
   obtain⟨t2,r2,rfl⟩:=zb7 h3;obtain⟨t,l1,e1,h⟩:=zak h;obtain⟨xs,l2,e2,h⟩:=zak h
   injection h with h1 h2;subst h1 h2
   have e3:=z3q e1;change r2=t :: l1 at e3;subst e3;have a:=z0a n l1 xs l2 e2;refine⟨a.1.trans ((List.suffix_cons _ _).trans (List.suffix_cons _ _)),?_⟩;simp only[List.length_cons];omega
  ·injection h with h1 h2;subst h1 h2
   exact⟨List.suffix_refl _,by simp⟩
theorem z45{n:Nat}{l:List Tk}{ds:List Int}{l':List Tk}(h:zb9 n l=.ok ds l'):l' <:+ l∧ds.length+l'.length≤l.length:=by
 unfold zb9 at h;obtain⟨t,l1,e1,h⟩:=zak h;obtain⟨xs,l2,e2,h⟩:=zak h
 injection h with h1 h2;subst h1 h2
 obtain rfl:=z3q e1;have a:=z0a n l1 xs l2 e2;exact⟨a.1.trans (List.suffix_cons _ _),by simp only[List.length_cons];omega⟩
theorem zij{C:RdC}(hC:SmC C):SmC (zbh C):=fun l hl hn x l' h=>by
 unfold zbh at h;obtain⟨u,l1,e1,h⟩:=zak h;obtain⟨c,l2,e2,h⟩:=zak h;obtain⟨v,l3,e3,h⟩:=zak h
 injection h with h1 h2;subst h1 h2
 have s1:=zen e1;have a:=hC l1 (hl.suf s1.1) (by omega) c l2 e2;have s3:=zen e3;exact⟨a.1,by omega,s3.1.trans (a.2.2.trans s1.1)⟩
theorem z6s{C:RdC}(hC:SmC C){l:List Tk}(hl:TksS l)(hn:l.length≤20000){xs:List Ct}{l':List Tk}(h:tTwo C l=.ok xs l'):(∀y ∈ xs,GdC y)∧(xs.map Ct.size).sum+2*l'.length≤2*l.length∧l' <:+ l:=by
 unfold tTwo at h;obtain⟨a,l1,e1,h⟩:=zak h;obtain⟨u,l2,e2,h⟩:=zak h;obtain⟨b,l3,e3,h⟩:=zak h
 injection h with h1 h2;subst h1 h2
 have s1:=zij hC l hl hn a l1 e1;have s2:=zen e2;have q:=s1.2.2.length_le;have s3:=zij hC l2 ((hl.suf s1.2.2).suf s2.1) (by omega) b l3 e3;refine⟨fun y hy => ?_,?_,s3.2.2.trans (s2.1.trans s1.2.2)⟩
 ·simp only[List.mem_cons,List.not_mem_nil,or_false]at hy
  rcases hy with rfl |rfl
  ·exact s1.1
  ·exact s3.1
 ·simp only[List.map_cons,List.map_nil,List.sum_cons,List.sum_nil];omega
theorem zk1{l l':List Tk}{n:ByteArray}(hl:TksS l)(h:zdc l=.ok n l'):n.size≤200∧l' <:+ l∧l'.length+1=l.length:=by
 obtain⟨t,rfl,rfl⟩:=zyx h;exact⟨(hl t (by simp)).1,List.suffix_cons _ _,rfl⟩
theorem yc1{l l':List Tk}{p:ByteArray × ByteArray}(hl:TksS l)(h:tBy l=.ok p l'):p.1.size≤200∧p.2.size≤200∧l' <:+ l∧l'.length+3=l.length:=by
 unfold tBy at h;obtain⟨a,l1,e1,h⟩:=zak h;obtain⟨u,l2,e2,h⟩:=zak h;obtain⟨b,l3,e3,h⟩:=zak h
 injection h with h1 h2;subst h1 h2
 have s1:=zk1 hl e1;have s2:=zen e2;have s3:=zk1 ((hl.suf s1.2.1).suf s2.1) e3;exact⟨s1.1,s3.1,s3.2.1.trans (s2.1.trans s1.2.1),by omega⟩
theorem zpy{C:RdC}(hC:SmC C){n:Nat}{l:List Tk}(hl:TksS l)(hn:l.length≤20000){p:List Int × Ct}{l':List Tk}(h:zb0 C n l=.ok p l'):p.1.length≤20000∧GdC p.2∧p.2.size+2*l'.length+2≤2*l.length∧l' <:+ l:=by
 unfold zb0 at h;obtain⟨u,l1,e1,h⟩:=zak h;obtain⟨ds,l2,e2,h⟩:=zak h;obtain⟨a,l3,e3,h⟩:=zak h
 injection h with h1 h2;subst h1 h2
 have s1:=zen e1;have s2:=z45 e2;have s3:=zij hC l2 ((hl.suf s1.1).suf s2.1) (by omega) a l3 e3;exact⟨by show ds.length≤_;omega,s3.1,by show a.size+_+_≤_;omega,s3.2.2.trans (s2.1.trans s1.1)⟩
def SmK(f:RdC):Prop:=∀l,TksS l→l.length≤20000→∀x l',f l=.ok x l'→GdC x∧x.size+2*l'.length≤2*l.length+2∧l' <:+ l
theorem zev{f:RdC}(hf:SmK f){l:List Tk}(Z0:zap l≠[])(hl:TksS l)(hn:l.length≤20000){x:Ct}{l':List Tk}(h:f l.tail=.ok x l'):GdC x∧x.size+2*l'.length≤2*l.length∧l' <:+ l:=by
 obtain⟨t,r,rfl⟩:=zav Z0;rw[List.length_cons]at hn;have a:=hf r (hl.suf (List.suffix_cons _ _)) (by omega) x l' h;exact⟨a.1,by rw[List.length_cons];omega,a.2.2.trans (List.suffix_cons _ _)⟩
theorem yb1{S:RdX}(hS:SmE S):SmC (tPay S):=fun l hl hn x l' h=>by
 unfold tPay at h;obtain⟨a,l1,e1,h⟩:=zak h;obtain⟨u,l2,e2,h⟩:=zak h;obtain⟨y,l3,e3,h⟩:=zak h;obtain⟨b,l4,e4,h⟩:=zak h;obtain⟨v,l5,e5,h⟩:=zak h;obtain⟨c,l6,e6,h⟩:=zak h
 injection h with h1 h2;subst h1 h2
 have s1:=zk1 hl e1;have s2:=zen e2;have q2:=(hl.suf s1.2.1).suf s2.1;have s3:=hS l2 q2 y l3 e3;have q3:=q2.suf s3.2.2;have s4:=zk1 q3 e4;have s5:=zen e5;have s6:=zk1 ((q3.suf s4.2.1).suf s5.1) e6;refine⟨GdC.mk (by decide) s1.1 s6.1 s4.1 s3.1 (by simp) (fun y hy=>by cases hy),?_,s6.2.1.trans (s5.1.trans (s4.2.1.trans (s3.2.2.trans (s2.1.trans s1.2.1))))⟩;rw[zd4];simp only[List.map_nil,List.sum_nil];omega
theorem ya2{C:RdC}(hC:SmC C):SmK (zfs C):=fun l hl hn x l' h=>by
 unfold zfs at h;obtain⟨u,l1,e1,h⟩:=zak h;obtain⟨a,l2,e2,h⟩:=zak h;obtain⟨v,l3,e3,h⟩:=zak h;obtain⟨b,l4,e4,h⟩:=zak h;obtain⟨z,l5,e5,h⟩:=zak h
 injection h with h1 h2;subst h1 h2
 have s1:=zen e1;have s2:=hC l1 (hl.suf s1.1) (by omega) a l2 e2;have s3:=zen e3;have q:=s2.2.2.length_le;have s4:=hC l3 (((hl.suf s1.1).suf s2.2.2).suf s3.1) (by omega) b l4 e4;have s5:=zen e5;refine⟨GdC.mk (by decide) zbq zbq zbq zzs (by simp) (fun y hy => ?_),?_,s5.1.trans (s4.2.2.trans (s3.1.trans (s2.2.2.trans s1.1)))⟩
 ·simp only[List.mem_cons,List.not_mem_nil,or_false]at hy
  rcases hy with rfl |rfl
  ·exact s2.1
  ·exact s4.1
 ·rw[zd4,zee]
  simp only[List.map_cons,List.map_nil,List.sum_cons,List.sum_nil];omega
theorem zta{a:Ct}(h:GdC a):∀y ∈ [a],GdC y:=fun y hy=>by
 obtain rfl:=List.mem_singleton.1 hy;exact h
theorem z2n{S:RdX}{C:RdC}(hS:SmE S)(hC:SmC C):SmK (zge S C):=fun l hl hn x l' h=>by
 unfold zge at h;obtain⟨y,l1,e1,h⟩:=zak h;obtain⟨a,l2,e2,h⟩:=zak h
 injection h with h1 h2;subst h1 h2
 have s1:=hS l hl y l1 e1;have s2:=zij hC l1 (hl.suf s1.2.2) (by omega) a l2 e2;refine⟨GdC.mk (by decide) zbq zbq zbq s1.1 (by simp) (zta s2.1),?_,s2.2.2.trans s1.2.2⟩;rw[zd4];simp only[List.map_cons,List.map_nil,List.sum_cons,List.sum_nil];omega
theorem yds{T:RdX}{C:RdC}(hT:SmE T)(hC:SmC C):SmK (tIf T C):=fun l hl hn x l' h=>by
 unfold tIf at h;obtain⟨y,l1,e1,h⟩:=zak h;obtain⟨ab,l2,e2,h⟩:=zak h
 injection h with h1 h2;subst h1 h2
 have s1:=hT l hl y l1 e1;have s2:=z6s hC (hl.suf s1.2.2) (by omega) e2;refine⟨GdC.mk (by decide) zbq zbq zbq s1.1 (by simp) s2.1,?_,s2.2.2.trans s1.2.2⟩;rw[zd4];omega
theorem ydn{C:RdC}(hC:SmC C):SmK (tOn C):=fun l hl hn x l' h=>by
 unfold tOn at h;obtain⟨t,l1,e1,h⟩:=zak h;obtain⟨a,l2,e2,h⟩:=zak h
 injection h with h1 h2;subst h1 h2
 obtain rfl:=z3q e1;rw[List.length_cons]at hn;have s2:=zij hC l1 (hl.suf (List.suffix_cons _ _)) (by omega) a l2 e2;refine⟨GdC.mk (by decide) zbq zbq zbq zzs (by simp) (zta s2.1),?_,s2.2.2.trans (List.suffix_cons _ _)⟩;rw[zd4,zee,List.length_cons];simp only[List.map_cons,List.map_nil,List.sum_cons,List.sum_nil];omega
theorem z86{C:RdC}(hC:SmC C):SmK (zix C):=fun l hl hn x l' h=>by
 unfold zix at h;obtain⟨nf,l1,e1,h⟩:=zak h;obtain⟨ab,l2,e2,h⟩:=zak h
 injection h with h1 h2;subst h1 h2
 have s1:=yc1 hl e1;have s2:=z6s hC (hl.suf s1.2.2.1) (by omega) e2;refine⟨GdC.mk (by decide) s1.2.1 zbq s1.1 zzs (by simp) s2.1,?_,s2.2.2.trans s1.2.2.1⟩;rw[zd4,zee];omega
theorem ya1{C:RdC}(hC:SmC C)(n:Nat):SmK (ziy C n):=fun l hl hn x l' h=>by
 unfold ziy at h;obtain⟨nf,l1,e1,h⟩:=zak h;obtain⟨da,l2,e2,h⟩:=zak h
 injection h with h1 h2;subst h1 h2
 have s1:=yc1 hl e1;have s2:=zpy hC (hl.suf s1.2.2.1) (by omega) e2;refine⟨GdC.mk (by decide) s1.2.1 zbq s1.1 zzs s2.1 (zta s2.2.1),?_,s2.2.2.2.trans s1.2.2.1⟩;rw[zd4,zee];simp only[List.map_cons,List.map_nil,List.sum_cons,List.sum_nil];omega
theorem zwc{T:RdX}{C:RdC}(hT:SmE T)(hC:SmC C)(k:Int)(hk:0≤k∧k≤255)(n:Nat):SmK (zes k T C n):=fun l hl hn x l' h=>by
 unfold zes at h;obtain⟨y,l1,e1,h⟩:=zak h;obtain⟨da,l2,e2,h⟩:=zak h
 injection h with h1 h2;subst h1 h2
 have s1:=hT l hl y l1 e1;have s2:=zpy hC (hl.suf s1.2.2) (by omega) e2;refine⟨GdC.mk hk zbq zbq zbq s1.1 s2.1 (zta s2.2.1),?_,s2.2.2.2.trans s1.2.2⟩;rw[zd4];simp only[List.map_cons,List.map_nil,List.sum_cons,List.sum_nil];omega
theorem ycw{S T:RdX}{C:RdC}(hS:SmE S)(hT:SmE T)(hC:SmC C)(n:Nat):SmC (tCon S T C n):=fun l hl hn x l' h=>by
 unfold tCon at h
 split at h
 ·exact yb1 hS l hl hn x l' h
 split at h
 ·rename_i e
  obtain⟨t,r,rfl⟩:=zav (l:=l) (by rw[e];simp)
  injection h with h1 h2;subst h1 h2
  refine⟨GdC.mk (by decide) zbq zbq zbq zzs (by simp) (fun y hy=>by cases hy),?_,List.suffix_cons _ _⟩;rw[zd4,zee,List.length_cons];simp only[List.map_nil,List.sum_nil,List.tail_cons];omega
 split at h
 ·rename_i e;exact zev (ya2 hC) (by rw[e];simp) hl hn h
 split at h
 ·rename_i e;exact zev (z2n hS hC) (by rw[e];simp) hl hn h
 split at h
 ·rename_i e;exact zev (yds hT hC) (by rw[e];simp) hl hn h
 split at h
 ·rename_i e;exact zev (ydn hC) (by rw[e];simp) hl hn h
 split at h
 ·rename_i e;exact zev (z86 hC) (by rw[e];simp) hl hn h
 split at h
 ·rename_i e;exact zev (ya1 hC n) (by rw[e];simp) hl hn h
 split at h
 ·rename_i e;exact zev (zwc hT hC 9 (by decide) n) (by rw[e];simp) hl hn h
 split at h
 ·rename_i e;exact zev (zwc hT hC 10 (by decide) n) (by rw[e];simp) hl hn h
 ·cases h
theorem zs2:∀n,SmC (rdC n)
 |0=>fun l _ _ x l' h=>by cases h
 |n+1=>ycw (zxw (n+1) true) (zxw (n+1) false) (zs2 n) (n+1)
theorem SmX.tight:∀{d:Nat}{x:Ex},SmX d x→SmX x.depth x
 |0,_,h=>h.elim
 |d+1,x,⟨h1,h2,h3⟩=>by
  rw[Ex.depth_is,Nat.add_comm];exact⟨h1,h2,fun y hy=>zh7 (zrg hy) (SmX.tight (h3 y hy))⟩
theorem zmz{x:Ex}(h:zd8 x=true):x.size=1∧x.depth=1:=by
 have hl:x.sub=[]:=by
  unfold zd8 at h;rw[Bool.and_eq_true]at h;have h2:=h.2
  cases hs:x.sub with
  |nil=>rfl
  |cons a l=>rw[hs]at h2;simp at h2;omega
 rw[Ex.size_is,Ex.depth_is,hl];exact⟨rfl,rfl⟩
theorem zms:∀(x:Ex),x.depth≤x.size
 | .mk k r n d l=>by
  rw[Ex.depth_is,Ex.size_is]
  show 1+maxD l≤1+(l.map Ex.size).sum
  have h2:∀(m:List Ex),(∀y ∈ m,y ∈ l)→maxD m≤(m.map Ex.size).sum:=fun m=>by
   induction m with
   |nil=>intro _;simp[maxD]
   |cons a m ih =>
    intro h;have ha:a ∈ l:=h a (List.mem_cons_self ..);have h3:a.depth≤a.size:=zms a
    have h4:=ih fun y hy=>h y (List.mem_cons_of_mem _ hy)
    show max a.depth (maxD m)≤_
    rw[List.map_cons,List.sum_cons];omega
  have:=h2 l fun y hy=>hy
  omega
termination_by x=>SizeOf.sizeOf x
decreasing_by
 have:=List.sizeOf_lt_of_mem ha;simp only[Ex.mk.sizeOf_spec];omega
theorem zn2:∀(x:Ct),x.size≤2*x.csz
 | .mk k f t n e d ds l=>by
  rw[Ct.csz_is,Ct.size_is]
  have h1:1+e.size≤2*(1+eSz (.mk k f t n e d ds l)):=by
   show 1+e.size≤2*(1+if zd8 e then 0 else e.size)
   by_cases hb:zd8 e=true
   ·rw[if_pos hb];have:=(zmz hb).1;omega
   ·rw[if_neg hb];omega
  have h2:∀(m:List Ct),(∀y ∈ m,y ∈ l)→(m.map Ct.size).sum≤2*(m.map Ct.csz).sum:=fun m=>by
   induction m with
   |nil=>intro _;simp
   |cons a m ih =>
    intro h;have ha:a ∈ l:=h a (List.mem_cons_self ..);have h3:a.size≤2*a.csz:=zn2 a
    have h4:=ih fun y hy=>h y (List.mem_cons_of_mem _ hy)
    rw[List.map_cons,List.map_cons,List.sum_cons,List.sum_cons];omega
  have:=h2 l fun y hy=>hy
  show 1+e.size+(l.map Ct.size).sum≤2*(1+eSz _+(l.map Ct.csz).sum)
  omega
termination_by x=>SizeOf.sizeOf x
decreasing_by
 have:=List.sizeOf_lt_of_mem ha;simp only[Ct.mk.sizeOf_spec];omega
theorem z9o{l:List Ct}{y:Ct}(h:y ∈ l):y.csz≤(l.map Ct.csz).sum:=by
 induction l with
 |nil=>cases h
 |cons a l ih =>
  rw[List.map_cons,List.sum_cons]
  rcases List.mem_cons.1 h with rfl |h
  ·omega
  ·have:=ih h;omega
theorem CSl.few:∀{d:Nat}{x:Ct}{m:Nat},CSl d x→x.csz≤m→m≤1000→CSm (m+1) x
 |0,_,_,h,_,_=>h.elim
 |d+1,x,m,⟨⟨h1,h2,h3,h4⟩,h5,h6⟩,hm,hb=>by
  have hc:=Ct.csz_is x
  have he:x.expr.size≤m∧x.expr.depth≤m∧1≤m:=by
   have hd:=zms x.expr;unfold eSz at hc
   by_cases hb:zd8 x.expr=true
   ·have:=zmz hb;omega
   ·rw[if_neg hb]at hc;omega
  refine⟨⟨h1,h2,h3,h4,by omega⟩,zh7 (by omega) h5.tight,fun y hy => ?_⟩;obtain⟨q,rfl⟩:∃q,m=q+1:=⟨m-1,by omega⟩
  exact CSl.few (h6 y hy) (by have:=z9o hy;omega) (by omega)
attribute [local go_sem] Oper.semAt_some
theorem zyd(n:Nat)(x:Ct)(cs:List Value)(w:World)(ZZ:CtAt n w cs x)(hz:x.size≤100000)(hc:500<x.csz):Calls Tryz.prog 56 #[.agg cs.toArray] w (IntP w 4):=by
 have XX:=ZZ.shape;obtain⟨ea,el,ec,da,dl,dc,a,len,cap,rfl,_⟩:=XX
 show Calls Tryz.prog 56 #[.agg #[.int .u8 x.kind,.string x.frm,.string x.too,.string x.name,.int .u8 x.expr.kind,.string x.expr.rat,.string x.expr.name,.int .i64 x.expr.date,.slice ea el ec,.int .i64 x.date,.slice da dl dc,.slice a len cap]] w _
 obtain⟨W0,Z7⟩:∃W0,W0=(w.alloc (.cells #[.int .u8 x.kind,.string x.frm,.string x.too,.string x.name,.int .u8 x.expr.kind,.string x.expr.rat,.string x.expr.name,.int .i64 x.expr.date,.slice ea el ec,.int .i64 x.date,.slice da dl dc,.slice a len cap] 40)).alloc (.cells #[.int .i64 0] 28):=⟨_,rfl⟩
 have XI:W0.heap[w.heap.size+1]?=some (.cells #[.int .i64 0] 28):=by rw[Z7];exact zcx _ _ _ (World.size_alloc _ _)
 have Z2:W0.heap[w.heap.size]?=some (.cells #[.int .u8 x.kind,.string x.frm,.string x.too,.string x.name,.int .u8 x.expr.kind,.string x.expr.rat,.string x.expr.name,.int .i64 x.expr.date,.slice ea el ec,.int .i64 x.date,.slice da dl dc,.slice a len cap] 40):=by rw[Z7];exact zg8 ..
 have hB0:Below w.heap.size w W0:=by rw[Z7];exact(zaa w _).alloc (by simp) _
 have VY:=Ct.csz_le x
 have HC:∀W,Below W0.heap.size W0 W→_:=fun W hW=>zbz ((hW.block _ (Z8 Z2)).trans Z2)
 have HY:Hid (∀W,Below W0.heap.size W0 W→W.heap[w.heap.size+1]?=some (.cells #[.int .i64 0] 28)):=fun W hW=>(hW.block _ (Z8 XI)).trans XI
 have HSZ:Hid (∀W,Below W0.heap.size W0 W→Calls Tryz.prog 100 #[.agg #[.int .u8 x.kind,.string x.frm,.string x.too,.string x.name,.int .u8 x.expr.kind,.string x.expr.rat,.string x.expr.name,.int .i64 x.expr.date,.slice ea el ec,.int .i64 x.date,.slice da dl dc,.slice a len cap]] W (IntP W (x.csz:Int))):=fun W hW=>zmf n x _ W (CtAt.below hW (CtAt.below hB0 ZZ)) hz
 have HW0:=Z9 Z7;have HB0:=Z9 hB0;have HCC:=Z9 HC;obtain⟨sz,ZS⟩:∃q,q=x.csz:=⟨_,rfl⟩
 rw[←ZS]at HSZ hc VY;have hszb:sz≤100000:=by omega
 have hTf:∀f,Fence.wide.fn f:=fun _=>trivial
 clear Z7 hB0 HC Z2 XI ZS VY ZZ hz;refine(callsIn_wide (n:=6)).1 ?_;refine callsIn_of_wp_marks Tryz.func56 rfl trivial ?_ rfl;simp only[Tryz.ntmps56,List.size_toArray,List.length_cons,List.length_nil,Nat.reduceAdd,Nat.reduceSub,Array.replicate_succ,Array.replicate_zero,List.push_toArray,List.append_toArray,List.nil_append,List.cons_append];gi_wp2_with (gi_at_call 100;rw[←HW0.out];refine(callsIn_wide.2 (HSZ.out _ (Below.refl _ _))).mono ?_);rintro e w1 ⟨rfl,hb⟩;have ZT:=Z9 hb;have HB:=Z9 (HB0.out.trans (hb.mono HB0.out.size));clear hb;obtain⟨c0,c1,c2,c3,c4,c5,c6,c7,c8,c9,ca,cb⟩:=HCC.out w1 ZT.out
 have y0:=zbf (HY.out w1 ZT.out) 0;have yf:=Lib.frozen_of_heap (HY.out w1 ZT.out) 0;have d5:decide ((500:Int)<(sz:Int))=true:=decide_eq_true (by omega);gi_wp2_with fail;refine⟨.int .i64 4,by simp[results,Tryz.results56,go_sem,World.cell?_setCell_same w1 ⟨w.heap.size+1,0,none⟩ (.int .i64 4) y0],rfl,HB.out.setCell (p:=⟨w.heap.size+1,0,none⟩) (Nat.le_succ _) _⟩
theorem zmg{n:Nat}{x:Ct}{cs:List Value}{w Wg:World}(ZZ:CtAt n w cs x)(hg:GdC x)(hz:x.size≤100000)(YN:zcr Wg)(Yp:zb6 Wg)(Y8:Below Wg.heap.size Wg w):Calls Tryz.prog 56 #[.agg cs.toArray] w (IntP w (chkC x)):=by
 rcases Nat.lt_or_ge 500 x.csz with h |h
 ·rw[show chkC x=4 from if_pos (.inl h)]
  exact zyd n x cs w ZZ hz h
 ·obtain⟨d,h1,h2⟩:=hg
  have h3:=zn2 x;exact zye (max n d) x cs w Wg YN ⟨ZZ.up (by omega),h2.up (by omega),by omega,⟨501,by omega,h1.few h (by omega)⟩,Yp,Y8⟩
noncomputable def zb2(s:ByteArray):Option Ct × Int × Int :=
 match lexL 0 s.data.toList with
 | .no i er=>(none,(i:Int),er)
 | .yes ts=>match rdC 20001 ts with
  | .ok x []=>if chkC x=0 then(some x,(s.size:Int),0)else(none,(s.size:Int),chkC x)
  | .ok _ (t :: _)=>(none,t.place,12)
  | .no []=>(none,(s.size:Int),12)
  | .no (t :: _)=>(none,t.place,12)
def RcP(w:World)(o:Option Ct × Int × Int)(e:Ending)(w':World):Prop :=
 ∃v,e=.returned (.tuple #[v,.int .i64 o.2.1,.int .i64 o.2.2])∧(match o.1 with |some x=>VCt w.heap.size x w' v |none=>v=.agg #[.int .u8 0,.string ⟨#[]⟩,.string ⟨#[]⟩,.string ⟨#[]⟩,.int .u8 0,.string ⟨#[]⟩,.string ⟨#[]⟩,.int .i64 0,.slice none 0 0,.int .i64 0,.slice none 0 0,.slice none 0 0])∧Below w.heap.size w w'
abbrev zCt:Obj:=.cells #[.int .u8 0,.string ⟨#[]⟩,.string ⟨#[]⟩,.string ⟨#[]⟩,.int .u8 0,.string ⟨#[]⟩,.string ⟨#[]⟩,.int .i64 0,.slice none 0 0,.int .i64 0,.slice none 0 0,.slice none 0 0] 40
theorem zhj{u:World}{b:Nat}{t:TypeId}{z0 z1 z2 z3 z4 z5 z6 z7 z8 z9 za zb:Value}(h:u.heap[b]?=some (.cells #[z0,z1,z2,z3,z4,z5,z6,z7,z8,z9,za,zb] t))(v0 v1 v2 v3 v4 v5 v6 v7 v8 v9 va vb:Value):((((((((((((u.setCell ⟨b,0,none⟩ v0).setCell ⟨b,1,none⟩ v1).setCell ⟨b,2,none⟩ v2).setCell ⟨b,3,none⟩ v3).setCell ⟨b,4,none⟩ v4).setCell ⟨b,5,none⟩ v5).setCell ⟨b,6,none⟩ v6).setCell ⟨b,7,none⟩ v7).setCell ⟨b,8,none⟩ v8).setCell ⟨b,9,none⟩ v9).setCell ⟨b,10,none⟩ va).setCell ⟨b,11,none⟩ vb).heap[b]?=some (.cells #[v0,v1,v2,v3,v4,v5,v6,v7,v8,v9,va,vb] t):=by
 simp[World.setCell,Array.getElem?_modify,h]
theorem zhk{u:World}{b c:Nat}{v0 v1 v2 v3 v4 v5 v6 v7 v8 v9 va vb:Value}(h:c≠b):((((((((((((u.setCell ⟨b,0,none⟩ v0).setCell ⟨b,1,none⟩ v1).setCell ⟨b,2,none⟩ v2).setCell ⟨b,3,none⟩ v3).setCell ⟨b,4,none⟩ v4).setCell ⟨b,5,none⟩ v5).setCell ⟨b,6,none⟩ v6).setCell ⟨b,7,none⟩ v7).setCell ⟨b,8,none⟩ v8).setCell ⟨b,9,none⟩ v9).setCell ⟨b,10,none⟩ va).setCell ⟨b,11,none⟩ vb).heap[c]?=u.heap[c]?:=(zkl u b v0 v1 v2 v3 v4 v5 v6 v7 v8 v9 va vb).1 c h
theorem yc0(args:Array Value)(W:World):(callFunc 77 args).run Tryz.prog W=.ok (.enter 77 args) W:=by kernel_rfl
theorem zjv{w:World}{s:ByteArray}{a er:Int}(Vk:er≠0)(HW:Hid (Calls Tryz.prog 60 #[.string s,.func (.func 77) #[] #[.pointer (some ⟨w.heap.size+1,0,none⟩)]] ((w.alloc zCt).alloc zCt) (fun e u=>e=.returned (.tuple #[.int .i64 a,.int .i64 er])∧Kp2 (w.heap.size+1) (w.heap.size+1) ((w.alloc zCt).alloc zCt) u∧∃z0 z1 z2 z3 z4 z5 z6 z7 z8 z9 za zb,u.heap[w.heap.size+1]?=some (.cells #[z0,z1,z2,z3,z4,z5,z6,z7,z8,z9,za,zb] 40)))) :
 Calls Tryz.prog 32 #[.string s] w (RcP w (none,a,er)):=by
 have hmf:∀(fn:Fn)(first cap:Array Value)(w:World),(Instr.makeFunc fn first cap).run Tryz.prog w=.ok (.func fn first cap) w:=fun _ _ _ _=>rfl
 have Z3:Below w.heap.size w ((w.alloc zCt).alloc zCt):=(zaa w zCt).alloc (by simp) _;have Z2:((w.alloc zCt).alloc zCt).heap[w.heap.size]?=some zCt:=(Below.heap_alloc _ _ _ (by simp)).trans (heap_alloc_new w zCt);have ZS:((w.alloc zCt).alloc zCt).heap.size=w.heap.size+1+1:=by simp
 go_enter Tryz.func32,Tryz.ntmps32;go_wp2_with fail;change Calls _ _ _ ((w.alloc zCt).alloc zCt) _;refine HW.out.mono ?_;rintro e u ⟨rfl,hk,z0,z1,z2,z3,z4,z5,z6,z7,z8,z9,za,zb,hz⟩;have hr:u.heap[w.heap.size]?=some (.cells #[.int .u8 0,.string ⟨#[]⟩,.string ⟨#[]⟩,.string ⟨#[]⟩,.int .u8 0,.string ⟨#[]⟩,.string ⟨#[]⟩,.int .i64 0,.slice none 0 0,.int .i64 0,.slice none 0 0,.slice none 0 0] 40):=(hk.2.2.2.2 w.heap.size (by omega) (by omega) (by omega)).trans Z2;have HB:=Z9 (zjw Z3 hk (Nat.le_succ _));have e1:(er == 0)=false:=by simp[Vk]
 have e2:(er != 0)=true:=by simp[Vk]
 obtain⟨c0,c1,c2,c3,c4,c5,c6,c7,c8,c9,ca,cb⟩:=zbz hz;have fz:∀i,u.frozen? ⟨w.heap.size+1,i,none⟩=false:=Lib.frozen_of_heap hz
 have l1:=(Z8 hz);obtain⟨r0,r1,r2,r3,r4,r5,r6,r7,r8,r9,ra,rb⟩:=zbz hr;have fr:∀i,u.frozen? ⟨w.heap.size,i,none⟩=false:=Lib.frozen_of_heap hr
 have l0:=(Z8 hr);have hr':=zhj ((zhk (v0:=.int .u8 0) (v1:=.string ⟨#[]⟩) (v2:=.string ⟨#[]⟩) (v3:=.string ⟨#[]⟩) (v4:=.int .u8 0) (v5:=.string ⟨#[]⟩) (v6:=.string ⟨#[]⟩) (v7:=.int .i64 0) (v8:=.slice none 0 0) (v9:=.int .i64 0) (va:=.slice none 0 0) (vb:=.slice none 0 0) (show w.heap.size≠w.heap.size+1 by omega)).trans hr) (.int .u8 0) (.string ⟨#[]⟩) (.string ⟨#[]⟩) (.string ⟨#[]⟩) (.int .u8 0) (.string ⟨#[]⟩) (.string ⟨#[]⟩) (.int .i64 0) (.slice none 0 0) (.int .i64 0) (.slice none 0 0) (.slice none 0 0);have HRC:=Z9 (zbz hr');have HBF:Hid (Below w.heap.size w ((((((((((((((((((((((((u.setCell ⟨w.heap.size+1,0,none⟩ (.int .u8 0)).setCell ⟨w.heap.size+1,1,none⟩ (.string ⟨#[]⟩)).setCell ⟨w.heap.size+1,2,none⟩ (.string ⟨#[]⟩)).setCell ⟨w.heap.size+1,3,none⟩ (.string ⟨#[]⟩)).setCell ⟨w.heap.size+1,4,none⟩ (.int .u8 0)).setCell ⟨w.heap.size+1,5,none⟩ (.string ⟨#[]⟩)).setCell ⟨w.heap.size+1,6,none⟩ (.string ⟨#[]⟩)).setCell ⟨w.heap.size+1,7,none⟩ (.int .i64 0)).setCell ⟨w.heap.size+1,8,none⟩ (.slice none 0 0)).setCell ⟨w.heap.size+1,9,none⟩ (.int .i64 0)).setCell ⟨w.heap.size+1,10,none⟩ (.slice none 0 0)).setCell ⟨w.heap.size+1,11,none⟩ (.slice none 0 0)).setCell ⟨w.heap.size,0,none⟩ (.int .u8 0)).setCell ⟨w.heap.size,1,none⟩ (.string ⟨#[]⟩)).setCell ⟨w.heap.size,2,none⟩ (.string ⟨#[]⟩)).setCell ⟨w.heap.size,3,none⟩ (.string ⟨#[]⟩)).setCell ⟨w.heap.size,4,none⟩ (.int .u8 0)).setCell ⟨w.heap.size,5,none⟩ (.string ⟨#[]⟩)).setCell ⟨w.heap.size,6,none⟩ (.string ⟨#[]⟩)).setCell ⟨w.heap.size,7,none⟩ (.int .i64 0)).setCell ⟨w.heap.size,8,none⟩ (.slice none 0 0)).setCell ⟨w.heap.size,9,none⟩ (.int .i64 0)).setCell ⟨w.heap.size,10,none⟩ (.slice none 0 0)).setCell ⟨w.heap.size,11,none⟩ (.slice none 0 0))):=Z9 ((((((((((((((((((((((((HB.out.setCell (p:=⟨w.heap.size+1,0,none⟩) (Nat.le_succ _) _).setCell (p:=⟨w.heap.size+1,1,none⟩) (Nat.le_succ _) _).setCell (p:=⟨w.heap.size+1,2,none⟩) (Nat.le_succ _) _).setCell (p:=⟨w.heap.size+1,3,none⟩) (Nat.le_succ _) _).setCell (p:=⟨w.heap.size+1,4,none⟩) (Nat.le_succ _) _).setCell (p:=⟨w.heap.size+1,5,none⟩) (Nat.le_succ _) _).setCell (p:=⟨w.heap.size+1,6,none⟩) (Nat.le_succ _) _).setCell (p:=⟨w.heap.size+1,7,none⟩) (Nat.le_succ _) _).setCell (p:=⟨w.heap.size+1,8,none⟩) (Nat.le_succ _) _).setCell (p:=⟨w.heap.size+1,9,none⟩) (Nat.le_succ _) _).setCell (p:=⟨w.heap.size+1,10,none⟩) (Nat.le_succ _) _).setCell (p:=⟨w.heap.size+1,11,none⟩) (Nat.le_succ _) _).setCell (p:=⟨w.heap.size,0,none⟩) (Nat.le_refl _) _).setCell (p:=⟨w.heap.size,1,none⟩) (Nat.le_refl _) _).setCell (p:=⟨w.heap.size,2,none⟩) (Nat.le_refl _) _).setCell (p:=⟨w.heap.size,3,none⟩) (Nat.le_refl _) _).setCell (p:=⟨w.heap.size,4,none⟩) (Nat.le_refl _) _).setCell (p:=⟨w.heap.size,5,none⟩) (Nat.le_refl _) _).setCell (p:=⟨w.heap.size,6,none⟩) (Nat.le_refl _) _).setCell (p:=⟨w.heap.size,7,none⟩) (Nat.le_refl _) _).setCell (p:=⟨w.heap.size,8,none⟩) (Nat.le_refl _) _).setCell (p:=⟨w.heap.size,9,none⟩) (Nat.le_refl _) _).setCell (p:=⟨w.heap.size,10,none⟩) (Nat.le_refl _) _).setCell (p:=⟨w.heap.size,11,none⟩) (Nat.le_refl _) _)
 clear hk hz hr Z3 Z2 ZS HW hr';go_wp2_with fail;obtain⟨q0,q1,q2,q3,q4,q5,q6,q7,q8,q9,qa,qb⟩:=HRC.out;exact bodyPost_ret (v:=.tuple #[.agg #[.int .u8 0,.string ⟨#[]⟩,.string ⟨#[]⟩,.string ⟨#[]⟩,.int .u8 0,.string ⟨#[]⟩,.string ⟨#[]⟩,.int .i64 0,.slice none 0 0,.int .i64 0,.slice none 0 0,.slice none 0 0],.int .i64 a,.int .i64 er]) (by simp only[results,Tryz.results32];simp[go_sem,q0,q1,q2,q3,q4,q5,q6,q7,q8,q9,qa,qb]) rfl ⟨_,rfl,rfl,HBF.out⟩
theorem ybv{w w':World}{o o':Option Ct × Int × Int}{e:Ending}(E:o=o')(h:RcP w o' e w'):RcP w o e w':=E ▸ h
theorem zxu{w Wg:World}{s:ByteArray}{at_:Int}{x:Ct}(hx:GdC x)(ZS:x.size≤100000)(YN:zcr Wg)(Yp:zb6 Wg)(Y8:Below Wg.heap.size Wg w)(HW:Hid (Calls Tryz.prog 60 #[.string s,.func (.func 77) #[] #[.pointer (some ⟨w.heap.size+1,0,none⟩)]] ((w.alloc zCt).alloc zCt) (fun e u=>e=.returned (.tuple #[.int .i64 at_,.int .i64 0])∧Kp2 (w.heap.size+1) (w.heap.size+1) ((w.alloc zCt).alloc zCt) u∧∃lo,((w.alloc zCt).alloc zCt).heap.size≤lo∧CBc (w.heap.size+1) lo x u))) :
 Calls Tryz.prog 32 #[.string s] w (RcP w (if chkC x=0 then(some x,at_,0)else(none,at_,chkC x))):=by
 have hmf:∀(fn:Fn)(first cap:Array Value)(w:World),(Instr.makeFunc fn first cap).run Tryz.prog w=.ok (.func fn first cap) w:=fun _ _ _ _=>rfl
 have Z3:Below w.heap.size w ((w.alloc zCt).alloc zCt):=(zaa w zCt).alloc (by simp) _;have Z2:((w.alloc zCt).alloc zCt).heap[w.heap.size]?=some zCt:=(Below.heap_alloc _ _ _ (by simp)).trans (heap_alloc_new w zCt);have hsw:((w.alloc zCt).alloc zCt).heap.size=w.heap.size+1+1:=by simp
 obtain⟨K,hK⟩:∃K,K=chkC x:=⟨_,rfl⟩
 rw[←hK]
 obtain⟨OUT,Xl⟩:∃o,o=(if K=0 then(some x,at_,0)else(none,at_,K):Option Ct × Int × Int):=⟨_,rfl⟩
 rw[←Xl];have HOUT:=Z9 Xl
 have HCK:Hid (∀n cs u,CtAt n u cs x→Below w.heap.size w u→Calls Tryz.prog 56 #[.agg cs.toArray] u (IntP u K)):=Z9 (fun n cs u ZZ X7=>by
  rw[hK]
  exact zmg ZZ hx ZS YN Yp (Y8.trans (X7.mono Y8.size)))
 clear hK hx ZS YN Yp Y8 Xl;go_enter Tryz.func32,Tryz.ntmps32;go_wp2_with fail;change Calls _ _ _ ((w.alloc zCt).alloc zCt) _;refine HW.out.mono ?_;rintro e u ⟨rfl,hk,lo,WK,n,ea,el,ec,da,dl,dc,a,len,cap,hz,hx⟩;have hr:u.heap[w.heap.size]?=some (.cells #[.int .u8 0,.string ⟨#[]⟩,.string ⟨#[]⟩,.string ⟨#[]⟩,.int .u8 0,.string ⟨#[]⟩,.string ⟨#[]⟩,.int .i64 0,.slice none 0 0,.int .i64 0,.slice none 0 0,.slice none 0 0] 40):=(hk.2.2.2.2 w.heap.size (by omega) (by omega) (by omega)).trans Z2;have HB:=Z9 (zjw Z3 hk (Nat.le_succ _));obtain⟨c0,c1,c2,c3,c4,c5,c6,c7,c8,c9,ca,cb⟩:=zbz hz;have l1:=(Z8 hz);have l0:=(Z8 hr)
 have HCC:=Z9 (HCK.out n [.int .u8 x.kind,.string x.frm,.string x.too,.string x.name,.int .u8 x.expr.kind,.string x.expr.rat,.string x.expr.name,.int .i64 x.expr.date,.slice ea el ec,.int .i64 x.date,.slice da dl dc,.slice a len cap] u (hx.at fun g h=>h.2) HB.out);have HZ:=Z9 hz;have HR:=Z9 hr;have HX:=Z9 hx;have hlo2:w.heap.size+1+1≤lo:=by omega
 clear hk hz hr Z3 Z2 HW hx WK hsw;go_wp2_with fail;refine HCC.out.mono ?_;rintro e u2 ⟨rfl,hb⟩;have hz:=(hb.block _ l1).trans HZ.out;have hr:=(hb.block _ l0).trans HR.out;have ZY:=Z9 (HB.out.trans (hb.mono HB.out.size))
 have Zu:CtOn (fun g=>lo≤g∧g<u2.heap.size) n u2 [.int .u8 x.kind,.string x.frm,.string x.too,.string x.name,.int .u8 x.expr.kind,.string x.expr.rat,.string x.expr.name,.int .i64 x.expr.date,.slice ea el ec,.int .i64 x.date,.slice da dl dc,.slice a len cap] x:=(HX.out.keep (w':=u2) fun g ⟨_,g2⟩=>hb.block g g2).mono fun g ⟨g1,g2⟩=>⟨g1,Nat.lt_of_lt_of_le g2 hb.size⟩
 have HX2:=Z9 Zu;clear hb Zu c0 c1 c2 c3 c4 c5 c6 c7 c8 c9 ca cb l0 l1;obtain⟨c0,c1,c2,c3,c4,c5,c6,c7,c8,c9,ca,cb⟩:=zbz hz;have fz:∀i,u2.frozen? ⟨w.heap.size+1,i,none⟩=false:=Lib.frozen_of_heap hz
 have l1:=(Z8 hz);obtain⟨r0,r1,r2,r3,r4,r5,r6,r7,r8,r9,ra,rb⟩:=zbz hr;have fr:∀i,u2.frozen? ⟨w.heap.size,i,none⟩=false:=Lib.frozen_of_heap hr
 have l0:=(Z8 hr)
 by_cases Xk:K=0
 ·subst Xk
  have hr':=zhj hr (.int .u8 x.kind) (.string x.frm) (.string x.too) (.string x.name) (.int .u8 x.expr.kind) (.string x.expr.rat) (.string x.expr.name) (.int .i64 x.expr.date) (.slice ea el ec) (.int .i64 x.date) (.slice da dl dc) (.slice a len cap);have HRC:=Z9 (zbz hr');have HBF:Hid (Below w.heap.size w ((((((((((((u2.setCell ⟨w.heap.size,0,none⟩ (.int .u8 x.kind)).setCell ⟨w.heap.size,1,none⟩ (.string x.frm)).setCell ⟨w.heap.size,2,none⟩ (.string x.too)).setCell ⟨w.heap.size,3,none⟩ (.string x.name)).setCell ⟨w.heap.size,4,none⟩ (.int .u8 x.expr.kind)).setCell ⟨w.heap.size,5,none⟩ (.string x.expr.rat)).setCell ⟨w.heap.size,6,none⟩ (.string x.expr.name)).setCell ⟨w.heap.size,7,none⟩ (.int .i64 x.expr.date)).setCell ⟨w.heap.size,8,none⟩ (.slice ea el ec)).setCell ⟨w.heap.size,9,none⟩ (.int .i64 x.date)).setCell ⟨w.heap.size,10,none⟩ (.slice da dl dc)).setCell ⟨w.heap.size,11,none⟩ (.slice a len cap))):=Z9 ((((((((((((ZY.out.setCell (p:=⟨w.heap.size,0,none⟩) (Nat.le_refl _) _).setCell (p:=⟨w.heap.size,1,none⟩) (Nat.le_refl _) _).setCell (p:=⟨w.heap.size,2,none⟩) (Nat.le_refl _) _).setCell (p:=⟨w.heap.size,3,none⟩) (Nat.le_refl _) _).setCell (p:=⟨w.heap.size,4,none⟩) (Nat.le_refl _) _).setCell (p:=⟨w.heap.size,5,none⟩) (Nat.le_refl _) _).setCell (p:=⟨w.heap.size,6,none⟩) (Nat.le_refl _) _).setCell (p:=⟨w.heap.size,7,none⟩) (Nat.le_refl _) _).setCell (p:=⟨w.heap.size,8,none⟩) (Nat.le_refl _) _).setCell (p:=⟨w.heap.size,9,none⟩) (Nat.le_refl _) _).setCell (p:=⟨w.heap.size,10,none⟩) (Nat.le_refl _) _).setCell (p:=⟨w.heap.size,11,none⟩) (Nat.le_refl _) _)
  have HV:Hid (VCt w.heap.size x ((((((((((((u2.setCell ⟨w.heap.size,0,none⟩ (.int .u8 x.kind)).setCell ⟨w.heap.size,1,none⟩ (.string x.frm)).setCell ⟨w.heap.size,2,none⟩ (.string x.too)).setCell ⟨w.heap.size,3,none⟩ (.string x.name)).setCell ⟨w.heap.size,4,none⟩ (.int .u8 x.expr.kind)).setCell ⟨w.heap.size,5,none⟩ (.string x.expr.rat)).setCell ⟨w.heap.size,6,none⟩ (.string x.expr.name)).setCell ⟨w.heap.size,7,none⟩ (.int .i64 x.expr.date)).setCell ⟨w.heap.size,8,none⟩ (.slice ea el ec)).setCell ⟨w.heap.size,9,none⟩ (.int .i64 x.date)).setCell ⟨w.heap.size,10,none⟩ (.slice da dl dc)).setCell ⟨w.heap.size,11,none⟩ (.slice a len cap)) (.agg #[.int .u8 x.kind,.string x.frm,.string x.too,.string x.name,.int .u8 x.expr.kind,.string x.expr.rat,.string x.expr.name,.int .i64 x.expr.date,.slice ea el ec,.int .i64 x.date,.slice da dl dc,.slice a len cap])):=Z9 ⟨n,ea,el,ec,da,dl,dc,a,len,cap,rfl,(HX2.out.keep (w':=((((((((((((u2.setCell ⟨w.heap.size,0,none⟩ (.int .u8 x.kind)).setCell ⟨w.heap.size,1,none⟩ (.string x.frm)).setCell ⟨w.heap.size,2,none⟩ (.string x.too)).setCell ⟨w.heap.size,3,none⟩ (.string x.name)).setCell ⟨w.heap.size,4,none⟩ (.int .u8 x.expr.kind)).setCell ⟨w.heap.size,5,none⟩ (.string x.expr.rat)).setCell ⟨w.heap.size,6,none⟩ (.string x.expr.name)).setCell ⟨w.heap.size,7,none⟩ (.int .i64 x.expr.date)).setCell ⟨w.heap.size,8,none⟩ (.slice ea el ec)).setCell ⟨w.heap.size,9,none⟩ (.int .i64 x.date)).setCell ⟨w.heap.size,10,none⟩ (.slice da dl dc)).setCell ⟨w.heap.size,11,none⟩ (.slice a len cap))) fun g ⟨g1,_⟩=>zhk (show g≠w.heap.size by omega)).mono fun g ⟨g1,g2⟩=>⟨by omega,by simpa only [World.size_setCell]using g2⟩⟩
  clear hz hr hr';go_wp2_with fail;obtain⟨q0,q1,q2,q3,q4,q5,q6,q7,q8,q9,qa,qb⟩:=HRC.out;exact bodyPost_ret (v:=.tuple #[.agg #[.int .u8 x.kind,.string x.frm,.string x.too,.string x.name,.int .u8 x.expr.kind,.string x.expr.rat,.string x.expr.name,.int .i64 x.expr.date,.slice ea el ec,.int .i64 x.date,.slice da dl dc,.slice a len cap],.int .i64 at_,.int .i64 0]) (by simp only[results,Tryz.results32];simp[go_sem,q0,q1,q2,q3,q4,q5,q6,q7,q8,q9,qa,qb]) rfl (ybv (show OUT=(some x,at_,0)by rw[HOUT.out];simp) ⟨_,rfl,HV.out,HBF.out⟩)
 ·have e2:(K != 0)=true:=by simp[Xk]
  have hr':=zhj ((zhk (v0:=.int .u8 0) (v1:=.string ⟨#[]⟩) (v2:=.string ⟨#[]⟩) (v3:=.string ⟨#[]⟩) (v4:=.int .u8 0) (v5:=.string ⟨#[]⟩) (v6:=.string ⟨#[]⟩) (v7:=.int .i64 0) (v8:=.slice none 0 0) (v9:=.int .i64 0) (va:=.slice none 0 0) (vb:=.slice none 0 0) (show w.heap.size≠w.heap.size+1 by omega)).trans hr) (.int .u8 0) (.string ⟨#[]⟩) (.string ⟨#[]⟩) (.string ⟨#[]⟩) (.int .u8 0) (.string ⟨#[]⟩) (.string ⟨#[]⟩) (.int .i64 0) (.slice none 0 0) (.int .i64 0) (.slice none 0 0) (.slice none 0 0);have HRC:=Z9 (zbz hr');have HBF:Hid (Below w.heap.size w ((((((((((((((((((((((((u2.setCell ⟨w.heap.size+1,0,none⟩ (.int .u8 0)).setCell ⟨w.heap.size+1,1,none⟩ (.string ⟨#[]⟩)).setCell ⟨w.heap.size+1,2,none⟩ (.string ⟨#[]⟩)).setCell ⟨w.heap.size+1,3,none⟩ (.string ⟨#[]⟩)).setCell ⟨w.heap.size+1,4,none⟩ (.int .u8 0)).setCell ⟨w.heap.size+1,5,none⟩ (.string ⟨#[]⟩)).setCell ⟨w.heap.size+1,6,none⟩ (.string ⟨#[]⟩)).setCell ⟨w.heap.size+1,7,none⟩ (.int .i64 0)).setCell ⟨w.heap.size+1,8,none⟩ (.slice none 0 0)).setCell ⟨w.heap.size+1,9,none⟩ (.int .i64 0)).setCell ⟨w.heap.size+1,10,none⟩ (.slice none 0 0)).setCell ⟨w.heap.size+1,11,none⟩ (.slice none 0 0)).setCell ⟨w.heap.size,0,none⟩ (.int .u8 0)).setCell ⟨w.heap.size,1,none⟩ (.string ⟨#[]⟩)).setCell ⟨w.heap.size,2,none⟩ (.string ⟨#[]⟩)).setCell ⟨w.heap.size,3,none⟩ (.string ⟨#[]⟩)).setCell ⟨w.heap.size,4,none⟩ (.int .u8 0)).setCell ⟨w.heap.size,5,none⟩ (.string ⟨#[]⟩)).setCell ⟨w.heap.size,6,none⟩ (.string ⟨#[]⟩)).setCell ⟨w.heap.size,7,none⟩ (.int .i64 0)).setCell ⟨w.heap.size,8,none⟩ (.slice none 0 0)).setCell ⟨w.heap.size,9,none⟩ (.int .i64 0)).setCell ⟨w.heap.size,10,none⟩ (.slice none 0 0)).setCell ⟨w.heap.size,11,none⟩ (.slice none 0 0))):=Z9 ((((((((((((((((((((((((ZY.out.setCell (p:=⟨w.heap.size+1,0,none⟩) (Nat.le_succ _) _).setCell (p:=⟨w.heap.size+1,1,none⟩) (Nat.le_succ _) _).setCell (p:=⟨w.heap.size+1,2,none⟩) (Nat.le_succ _) _).setCell (p:=⟨w.heap.size+1,3,none⟩) (Nat.le_succ _) _).setCell (p:=⟨w.heap.size+1,4,none⟩) (Nat.le_succ _) _).setCell (p:=⟨w.heap.size+1,5,none⟩) (Nat.le_succ _) _).setCell (p:=⟨w.heap.size+1,6,none⟩) (Nat.le_succ _) _).setCell (p:=⟨w.heap.size+1,7,none⟩) (Nat.le_succ _) _).setCell (p:=⟨w.heap.size+1,8,none⟩) (Nat.le_succ _) _).setCell (p:=⟨w.heap.size+1,9,none⟩) (Nat.le_succ _) _).setCell (p:=⟨w.heap.size+1,10,none⟩) (Nat.le_succ _) _).setCell (p:=⟨w.heap.size+1,11,none⟩) (Nat.le_succ _) _).setCell (p:=⟨w.heap.size,0,none⟩) (Nat.le_refl _) _).setCell (p:=⟨w.heap.size,1,none⟩) (Nat.le_refl _) _).setCell (p:=⟨w.heap.size,2,none⟩) (Nat.le_refl _) _).setCell (p:=⟨w.heap.size,3,none⟩) (Nat.le_refl _) _).setCell (p:=⟨w.heap.size,4,none⟩) (Nat.le_refl _) _).setCell (p:=⟨w.heap.size,5,none⟩) (Nat.le_refl _) _).setCell (p:=⟨w.heap.size,6,none⟩) (Nat.le_refl _) _).setCell (p:=⟨w.heap.size,7,none⟩) (Nat.le_refl _) _).setCell (p:=⟨w.heap.size,8,none⟩) (Nat.le_refl _) _).setCell (p:=⟨w.heap.size,9,none⟩) (Nat.le_refl _) _).setCell (p:=⟨w.heap.size,10,none⟩) (Nat.le_refl _) _).setCell (p:=⟨w.heap.size,11,none⟩) (Nat.le_refl _) _)
  clear hz hr hr';go_wp2_with fail;obtain⟨q0,q1,q2,q3,q4,q5,q6,q7,q8,q9,qa,qb⟩:=HRC.out;exact bodyPost_ret (v:=.tuple #[.agg #[.int .u8 0,.string ⟨#[]⟩,.string ⟨#[]⟩,.string ⟨#[]⟩,.int .u8 0,.string ⟨#[]⟩,.string ⟨#[]⟩,.int .i64 0,.slice none 0 0,.int .i64 0,.slice none 0 0,.slice none 0 0],.int .i64 at_,.int .i64 K]) (by simp only[results,Tryz.results32];simp[go_sem,q0,q1,q2,q3,q4,q5,q6,q7,q8,q9,qa,qb]) rfl (ybv (HOUT.out.trans (if_neg Xk)) ⟨_,rfl,rfl,HBF.out⟩)
theorem zff(s:ByteArray)(w Wg:World)(hs:s.size≤20000)(YN:zcr Wg)(Yp:zb6 Wg)(Y8:Below Wg.heap.size Wg w):Calls Tryz.prog 32 #[.string s] w (RcP w (zb2 s)):=by
 have YX:((w.alloc zCt).alloc zCt).heap[w.heap.size+1]?=some zCt:=by
  have:=heap_alloc_new (w.alloc zCt) zCt
  rwa [World.size_alloc]at this
 have HW:=zog 77 (w.heap.size+1) zCt (CBc (w.heap.size+1)) (rdC 20001) (z8t _) yc0 (CBc.stab _) s ((w.alloc zCt).alloc zCt) hs YX;unfold zb2
 cases hl:lexL 0 s.data.toList with
 |no i er =>
  rw[hl]at HW;exact zjv (zi4 hl) (Z9 (HW.mono fun e u ⟨h1,h2,h3⟩=>⟨h1,h2,_,_,_,_,_,_,_,_,_,_,_,_,h3⟩))
 |yes ts =>
  rw[hl]at HW;have hts:=zfh _ 0 _ (Nat.le_refl _) hl;have Z6:=zgn hl;rw[zab]at Z6;dsimp only
  cases hf:rdC 20001 ts with
  |no l =>
   cases l with
   |nil =>
    refine zjv (by decide) (Z9 (HW.mono fun e u h => ?_));have h2:=zjp hf h;exact⟨h2.1,h2.2.1,_,_,_,_,_,_,_,_,_,_,_,_,h2.2.2⟩
   |cons t l =>
    refine zjv (by decide) (Z9 (HW.mono fun e u h => ?_));have h2:=zjp hf h;exact⟨h2.1,h2.2.1,_,_,_,_,_,_,_,_,_,_,_,_,h2.2.2⟩
  |ok x l =>
   have hg:=zs2 20001 ts hts (by omega) x l hf
   cases l with
   |nil =>
    refine zxu hg.1 (by have:=hg.2.1;omega) YN Yp Y8 (Z9 (HW.mono fun e u h => ?_));obtain⟨lo,h1,h2,h3,h4⟩:=zjo hf h;exact⟨h1,h4,lo,h2,h3⟩
   |cons t l =>
    refine zjv (by decide) (Z9 (HW.mono fun e u h => ?_));obtain⟨lo,h1,h2,⟨n,ea,el,ec,da,dl,dc,a,len,cap,h3,_⟩,h4⟩:=zjo hf h;exact⟨h1,h4,_,_,_,_,_,_,_,_,_,_,_,_,h3⟩
def shE1:Ex:=.mk 6 tE0 tE0 0 [.mk 1 ⟨#[50]⟩ tE0 0 [],.mk 5 tE0 tE0 0 [.mk 3 tE0 ⟨#[83,80,88]⟩ 0 [],.mk 1 ⟨#[49,48,48]⟩ tE0 0 []]]
def shE2:Ex:=.mk 1 ⟨#[49]⟩ tE0 0 []
def shC1:Ct:=.mk 2 ⟨#[65]⟩ ⟨#[66]⟩ ⟨#[85,83,68]⟩ shE1 0 [] []
def shZ:Ct:=.mk 1 tE0 tE0 tE0 tX0 0 [] []
def shP:Ct:=.mk 2 ⟨#[116,111]⟩ ⟨#[66]⟩ ⟨#[69,85,82]⟩ shE2 0 [] []
def shC2:Ct:=.mk 3 tE0 tE0 tE0 tX0 0 [] [shZ,shP]
end Go.Proofs.YtkobkpepgdddeaaGreatDoor
