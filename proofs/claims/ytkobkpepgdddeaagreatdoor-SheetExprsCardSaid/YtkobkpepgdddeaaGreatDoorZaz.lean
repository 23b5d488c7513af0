/-
  The reference's factor walked: a name; whole. No condition.
-/
import Derived.Test.YtkobkpepgdddeaaGreatDoorZay
import Derived.WalkMore
import Derived.Deep.LoopGhost
import Derived.Test.YtkobkpepgdddeaaGreatDoorZap
import Derived.Test.YtkobkpepgdddeaaGreatDoorZaa
import Derived.Test.YtkobkpepgdddeaaGreatDoorZar
import Derived.Test.YtkobkpepgdddeaaGreatDoorZab
import Derived.BigRegion
import Derived.Test.YtkobkpepgdddeaaGreatDoorZae
namespace Go.Proofs.YtkobkpepgdddeaaGreatDoor
open Go.RowKit
set_option maxHeartbeats 16000000
set_option maxRecDepth 100000
theorem z4x{α:Type}(r:Rd α):chW [⟨#[110,111,119]⟩] r=if qIs 1 [110,111,119] r=true then some (⟨#[110,111,119]⟩,r.rest.tail)else none:=by
 cases h:qIs 1 [110,111,119] r
 ·rw[zgh h];rfl
 ·rw[zej h];rfl
def fixR(n:ByteArray)(p:Rd Unit):Rd Ex :=
 p.bind fun _ l=>if tIs 1 [110,111,119] l=true then .ok (.mk 3 tE0 n 0 []) l.tail else(tOf 4 l).bind fun t l=>.ok (.mk 2 tE0 n t.date []) l
theorem z2i{t:Tk}{l:List Tk}(h:tNm (t :: l)=true):tFix (t :: l)=fixR t.text (tEat 5 [64] l):=by
 unfold tFix;rw[zuk h];rfl
theorem zz2{n:ByteArray}{p:Rd Unit}(h:qIs 1 [110,111,119] p=true):fixR n p=.ok (.mk 3 tE0 n 0 []) p.rest.tail:=by
 cases p with
 |no l=>cases h
 |ok x l=>exact if_pos h
theorem zz3{n:ByteArray}{p:Rd Unit}(h:qIs 1 [110,111,119] p=false):fixR n p=(p.bind fun _ l=>tOf 4 l).bind fun t l=>.ok (.mk 2 tE0 n t.date []) l:=by
 cases p with
 |no l=>rfl
 |ok x l=>exact if_neg (by rw[show tIs 1 [110,111,119] l=false from h];simp)
theorem GAt.setNew{α:Type}{rb b c:Nat}{ts:List Tk}{w u:World}{r:Rd α}(h:GAt rb ts b w u r)(hc:b<c)(i:Nat)(v:Value)(hw:w.heap.size≤c:=by omega):GAt rb ts b w (u.setCell ⟨c,i,none⟩ v) r :=
 ⟨(Below.heap_setCell _ _ _ _ (by show b≠c;omega)).trans h.box,h.rd.setNew (Nat.lt_trans h.lt hc) _ _,zaq h.grown hw _ _,h.lt⟩
theorem z2n{u:World}{b:Nat}{x0 x1 x2 x3 x4:Value}{t:TypeId}(h:u.heap[b]?=some (.cells #[x0,x1,x2,x3,x4] t))(v:Value):(u.setCell ⟨b,0,none⟩ v).heap[b]?=some (.cells #[v,x1,x2,x3,x4] t):=by
 simp[World.setCell,Array.getElem?_modify,h]
theorem z2m{u:World}{b:Nat}{x0 x1 x2 x3 x4:Value}{t:TypeId}(h:u.heap[b]?=some (.cells #[x0,x1,x2,x3,x4] t))(v:Value):(u.setCell ⟨b,3,none⟩ v).heap[b]?=some (.cells #[x0,x1,x2,v,x4] t):=by
 simp[World.setCell,Array.getElem?_modify,h]
theorem zld{rb:Nat}{ts:List Tk}(w:World)(l:List Tk)(h:QSt rb ts w (.ok () l:Rd Unit))(h1:zar l≠[109,97,120])(h2:zar l≠[109,105,110])(h3:zar l≠[99,97,115,101])(h5:tIs 5 [40] l=false)(h6:tNm l=true) :
 Calls Tryz.prog 170 #[.pointer (some ⟨rb,0,none⟩)] w (QP (VEx w.heap.size) QEx rb ts w (tFix l)):=by
 have a4:=Z9 (zjj w l h h1 h2 h3);have hg:=GAt.start h;have a3:=Z9 (hg.alloc zee);have Z7:=hg.lt;have hfd:=zlu;have c2:=zo7 (b:=false) (l:=l) h;have aF:=Z9 (fun W (hW:QSt rb ts W (.ok () l:Rd Unit))=>zd6 rb ts 5 ⟨#[40]⟩ W (.ok () l:Rd Unit) hW);rw[show qIs 5 (ByteArray.mk #[40]).data.toList (.ok () l:Rd Unit)=false from h5]at aF;have Zx:=Z9 (fun W (hW:QSt rb ts W (.ok () l:Rd Unit))=>zla rb ts W (.ok () l:Rd Unit) hW);rw[show qNm (.ok () l:Rd Unit)=true from h6]at Zx;have bm:=Z9 (fun W (hW:QSt rb ts W (.ok () l:Rd Unit))=>z2v rb ts W (.ok () l:Rd Unit) hW)
 obtain⟨t,l0,hl⟩:∃t l0,l=t :: l0:=by
  cases l with
  |nil=>cases h6
  |cons t l0=>exact⟨t,l0,rfl⟩
 rw[show((.ok () l:Rd Unit).bind fun _ l=>zgf l)=.ok t.text l0 by rw[hl]at h6 ⊢;exact zuk h6]at bm;have bt:=Z9 (fun W (hW:QSt rb ts W (.ok () l0:Rd Unit))=>zi2 rb ts ⟨#[64]⟩ W (.ok () l0:Rd Unit) hW);obtain⟨P,hP⟩:∃P:Rd Unit,P=tEat 5 [64] l0:=⟨_,rfl⟩
 rw[show((.ok () l0:Rd Unit).bind fun _ l=>tEat 5 (ByteArray.mk #[64]).data.toList l)=P from hP.symm]at bt;rw[show tFix l=fixR t.text P by rw[hl]at h6 ⊢;rw[hP];exact z2i h6];have bu:=Z9 (fun W (hW:QSt rb ts W P) (Zi:rb<W.heap.size)=>zdn rb ts (W.alloc zml) P (hW.below (zaf W zml)) [⟨#[110,111,119]⟩] W.heap.size 1 (by simp) (by omega) (by simp) (by simp) (zyc W));rw[z4x]at bu;have bB:=Z9 (fun W (hW:QSt rb ts W P)=>zu1 rb ts 4 W P hW);obtain⟨N,hN⟩:∃N,N=t.text:=⟨_,rfl⟩
 rw[←hN]at bm ⊢;clear h h1 h2 h3 h5 h6 hg hP hl hN;go_enter Tryz.func170,Tryz.ntmps170;go_wp2_with fail;refine a4.out.mono ?_;rintro e u ⟨rfl,hq,hg⟩;have av:=Z9 (a3.out.call (r':=(.ok () l:Rd Unit)) hg hq);clear hq hg;simp only[Option.map_none,Option.getD_none,tE0];go_wp2_with fail;refine(aF.out _ av.out.rd).mono ?_;rintro e u2 ⟨rfl,hb⟩;have a1:=Z9 (av.out.below hb);clear hb;go_wp2_with fail;refine(Zx.out _ a1.out.rd).mono ?_;rintro e u3 ⟨rfl,hb⟩;have a0:=Z9 (a1.out.below hb);clear hb;go_wp2_with fail;refine(bm.out _ a0.out.rd).mono ?_;rintro e u4 ⟨vv,rfl,⟨sn,rfl⟩,hx,hr,hg⟩
 have bw:sn=N:=by
  have:=hx N l0 rfl;unfold VStr at this;injection this
 subst bw;have aI:=Z9 (a0.out.call hg hr);clear hr hg hx;go_wp2_with fail;have aZ:=Z9 (aI.out.alloc (.cells #[.int .u8 3,.string ⟨#[]⟩,.string sn,.int .i64 0,.slice none 0 0] 25));refine(bt.out _ (aZ.out.rd.as rfl)).mono ?_;rintro e u6 ⟨v6,rfl,rfl,_,hr,hg⟩;have bv:=Z9 (zao (heap_alloc_new u4 (.cells #[.int .u8 3,.string ⟨#[]⟩,.string sn,.int .i64 0,.slice none 0 0] 25)) hg (Nat.ne_of_lt (Nat.lt_trans Z7 aI.out.blt)));have au:=Z9 (aZ.out.call hg hr);have aK:=Z9 aI.out.blt;clear hr hg;have aw:=Z9 (bu.out u6 au.out.rd (Nat.lt_trans Z7 au.out.blt))
 cases hn:qIs 1 [110,111,119] P
 ·rw[hn,if_neg (by simp)]at aw
  have bo:=Z9 (zz3 (n:=sn) hn);clear hn;go_wp2_with fail;refine aw.out.mono ?_;rintro e u7 ⟨rfl,hq,hg⟩;have bn:=Z9 ((au.out.alloc zml).call (r':=P) hg hq);have XJ:=zao bv.out (Lib.grownBy_trans (World.grownBy_alloc u6 zml _) hg) (Nat.ne_of_lt (Nat.lt_trans Z7 aK.out));obtain⟨b0,b1,b2,b3,b4⟩:=zae XJ;have fb:∀i,u7.frozen? ⟨u4.heap.size,i,none⟩=false:=Lib.frozen_of_heap XJ
  have zb4:=(Z8 XJ);have bE:=Z9 XJ;clear hq hg XJ;simp only[Option.map_none,Option.getD_none,tE0];go_wp2_with fail;have aY:=Z9 (bn.out.setNew aK.out 0 (.int .u8 2) (Nat.le_of_lt aK.out));have Xq:=z2n bE.out (.int .u8 2);have bD:=Z9 Xq;clear Xq b0 b1 b2 b3 b4 fb zb4;refine(bB.out _ aY.out.rd).mono ?_;rintro e u9 ⟨vv,rfl,⟨ta,tb,tc,td,te,rfl⟩,hx,hr,hg⟩;have bq:=aY.out.call hg hr;have aR:=zao bD.out hg (Nat.ne_of_lt (Nat.lt_trans Z7 aK.out));obtain⟨b0,b1,b2,b3,b4⟩:=zae aR;have fb:∀i,u9.frozen? ⟨u4.heap.size,i,none⟩=false:=Lib.frozen_of_heap aR
  have zb4:=(Z8 aR);have al:=bq.setNew aK.out 3 (.int .i64 td) (Nat.le_of_lt aK.out)
  have ac:=Z9 (al.fin (R:=(P.bind fun _ l=>tOf 4 l).bind fun t l=>.ok (.mk 2 tE0 sn t.date []) l) (Nat.le.refl) (by cases(P.bind fun _ l=>tOf 4 l)<;>rfl) 2 td ⟨#[]⟩ sn none 0 0 (fun x l e=>by
   cases hP:(P.bind fun _ l=>tOf 4 l)with
   |no l=>rw[hP]at e;cases e
   |ok t l2 =>
    rw[hP]at e
    injection e with e1 e2
    rw[←e1,(zqc (hx t l2 hP)).2]
    exact zkz _ _ _ _ _ _))
  have Xw:=z2m aR (.int .i64 td);obtain⟨f0,f1,f2,f3,f4⟩:=zae Xw;have fz:∀i,(u9.setCell ⟨u4.heap.size,3,none⟩ (.int .i64 td)).frozen? ⟨w.heap.size,i,none⟩=false:=Lib.frozen_of_heap al.box
  have zb:w.heap.size<(u9.setCell ⟨u4.heap.size,3,none⟩ (.int .i64 td)).heap.size:=al.blt;obtain⟨z0,z1,z2,z3,z4⟩:=zae al.box;clear hx hr hg bq aR al Xw;go_wp2_with fail;obtain⟨W',ae,Zs,Yn⟩:=ac.out;rw[←ae];rw[←bo.out]at Yn;obtain⟨d0,d1,d2,d3,d4⟩:=zae Zs;exact bodyPost_ret (v:=.agg #[.int .u8 2,.string ⟨#[]⟩,.string sn,.int .i64 td,.slice none 0 0]) (by simp[results,Tryz.results170,go_sem,d0,d1,d2,d3,d4]) rfl Yn
 ·rw[hn,if_pos rfl]at aw
  have bo:=Z9 (zz2 (n:=sn) hn);clear hn;go_wp2_with fail;refine aw.out.mono ?_;rintro e u7 ⟨rfl,hq,hg⟩;have aP:=(au.out.alloc zml).call (r':=(.ok () P.rest.tail:Rd Unit)) hg hq;have XJ:=zao bv.out (Lib.grownBy_trans (World.grownBy_alloc u6 zml _) hg) (Nat.ne_of_lt (Nat.lt_trans Z7 aK.out));obtain⟨b0,b1,b2,b3,b4⟩:=zae XJ;have fz:∀i,u7.frozen? ⟨w.heap.size,i,none⟩=false:=Lib.frozen_of_heap aP.box
  have zb:w.heap.size<u7.heap.size:=aP.blt;obtain⟨z0,z1,z2,z3,z4⟩:=zae aP.box
  have ac:=Z9 (aP.fin (R:=.ok (.mk 3 tE0 sn 0 []) P.rest.tail) (Nat.le.refl) rfl 3 0 ⟨#[]⟩ sn none 0 0 (fun x l e=>by
   injection e with e1 e2
   rw[←e1]
   exact zkz _ _ _ _ _ _))
  clear hq hg aP XJ;simp only[Option.map_some,Option.getD_some];go_wp2_with fail;obtain⟨W',ae,Zs,Yn⟩:=ac.out;rw[←ae];rw[←bo.out]at Yn;obtain⟨d0,d1,d2,d3,d4⟩:=zae Zs;exact bodyPost_ret (v:=.agg #[.int .u8 3,.string ⟨#[]⟩,.string sn,.int .i64 0,.slice none 0 0]) (by simp[results,Tryz.results170,go_sem,d0,d1,d2,d3,d4]) rfl Yn
theorem zu2{rb n0:Nat}{ts:List Tk}(S T:RdX)(hp:zl7 rb n0 ts S T)(cS:∀l,(S l).Cons l)(cT:∀l,(T l).Cons l)(w:World)(r:Rd Unit)(h:QSt rb ts w r)(hl:∀x l,r=.ok x l→l.length≤n0) :
 Calls Tryz.prog 170 #[.pointer (some ⟨rb,0,none⟩)] w (QP (VEx w.heap.size) QEx rb ts w (r.bind fun _ l=>zbv S T l)):=by
 cases r with
 |no l=>exact zhs w l h
 |ok x l =>
  have ak:=hl x l rfl
  show Calls _ _ _ _ (QP _ _ _ _ _ (zbv S T l))
  by_cases h1:zar l=[109,97,120]
  ·rw[show zbv S T l=zbf 7 (List.replicate 0 T ++ List.replicate 2 S) l.tail by unfold zbv;rw[if_pos h1];rfl]
   exact zlc S T hp cS cT w l h ak h1
  by_cases h2:zar l=[109,105,110]
  ·rw[show zbv S T l=zbf 8 (List.replicate 0 T ++ List.replicate 2 S) l.tail by unfold zbv;rw[if_neg h1,if_pos h2];rfl]
   exact zlb S T hp cS cT w l h ak h2
  by_cases h3:zar l=[99,97,115,101]
  ·rw[show zbv S T l=zbf 9 (List.replicate 1 T ++ List.replicate 2 S) l.tail by unfold zbv;rw[if_neg h1,if_neg h2,if_pos h3];rfl]
   exact zj3 S T hp cS cT w l h ak h3
  rw[zsm h1 h2 h3];unfold zvn
  cases h5:tIs 5 [40] l
  ·rw[if_neg (by simp)]
   cases h6:tNm l
   ·rw[if_neg (by simp)]
    exact zgu w l h h1 h2 h3 h5 h6
   ·rw[if_pos rfl]
    exact zld w l h h1 h2 h3 h5 h6
  ·rw[if_pos rfl]
   exact zi3 S T hp w l h ak h1 h2 h3 h5
def RgQ(B bx:Nat)(u:World)(g:Nat):Prop:=B<g∧g<u.heap.size∧g≠bx
structure PrQ(rb:Nat)(ts:List Tk)(B bx:Nat)(w:World)(q:Rd Ex)(yk yd:Int)(ya yb:ByteArray)(pa:Option Addr)(pl pc:Nat)(u:World):Prop where
 at_:GAt rb ts B w u q
 lo:B<bx
 box:u.heap[bx]?=some (.cells #[.int .u8 yk,.string ya,.string yb,.int .i64 yd,.slice pa pl pc] 25)
 ex:∀x l,q=.ok x l→∃m,ExOn (RgQ B bx u) m u [.int .u8 yk,.string ya,.string yb,.int .i64 yd,.slice pa pl pc] x
theorem zdc{S S':Nat→Prop}{n:Nat}{u u':World}{cs:List Value}{x:Ex}(hx:ExOn S n u cs x)(hk:∀g,S g→u'.heap[g]?=u.heap[g]?)(hs:∀g,S g→S' g):ExOn S' n u' cs x :=
 (hx.keep (w':=u') fun g hg=>hk g hg).mono hs
theorem zir{B:Nat}{x:Ex}{u:World}{yk yd:Int}{ya yb:ByteArray}{pa:Option Addr}{pl pc:Nat}(h:VEx B x u (.agg #[.int .u8 yk,.string ya,.string yb,.int .i64 yd,.slice pa pl pc])) :
 ∃m,ExOn (fun g=>B≤g∧g<u.heap.size) m u [.int .u8 yk,.string ya,.string yb,.int .i64 yd,.slice pa pl pc] x:=by
 obtain⟨n,a,len,cap,ev,X3⟩:=h
 injection ev with ev
 injection ev with ev
 injection ev with q1 ev
 injection ev with q2 ev
 injection ev with q3 ev
 injection ev with q4 ev
 injection ev with q5 ev
 rw[←q1,←q2,←q3,←q4,←q5]at X3;exact⟨n,X3⟩
theorem zoa{B n:Nat}{x:Ex}{u:World}{yk yd:Int}{ya yb:ByteArray}{pa:Option Addr}{pl pc:Nat}(h:ExOn (fun g=>B≤g∧g<u.heap.size) n u [.int .u8 yk,.string ya,.string yb,.int .i64 yd,.slice pa pl pc] x) :
 VEx B x u (.agg #[.int .u8 yk,.string ya,.string yb,.int .i64 yd,.slice pa pl pc]):=by
 obtain⟨a,len,cap,hs⟩:=h.shape;have YP:=hs
 injection hs with h0 hs;injection hs with h1 hs;injection hs with h2 hs;injection hs with h3 hs;injection hs with h4 _
 rw[YP]at h;refine⟨n,a,len,cap,?_,h⟩;rw[h0,h1,h2,h3,h4]
theorem PrQ.start{rb B:Nat}{ts:List Tk}{w u:World}{q:Rd Ex}{yk yd:Int}{ya yb:ByteArray}{pa:Option Addr}{pl pc:Nat}(h:GAt rb ts B w u q)(hx:∀x l,q=.ok x l→VEx (B+1) x u (.agg #[.int .u8 yk,.string ya,.string yb,.int .i64 yd,.slice pa pl pc])) :
 PrQ rb ts B u.heap.size w q yk yd ya yb pa pl pc (u.alloc (.cells #[.int .u8 yk,.string ya,.string yb,.int .i64 yd,.slice pa pl pc] 25)) :=
 ⟨h.alloc _,h.blt,heap_alloc_new u _,fun x l e=>by
  obtain⟨m,X3⟩:=zir (hx x l e)
  exact⟨m,zdc X3 (fun g ⟨_,g2⟩=>Below.heap_alloc u _ g g2) (fun g ⟨g1,g2⟩=>⟨g1,by rw[World.size_alloc];omega,Nat.ne_of_lt g2⟩)⟩⟩
theorem PrQ.call{rb B bx:Nat}{ts:List Tk}{w u u':World}{q q':Rd Ex}{yk yd:Int}{ya yb:ByteArray}{pa:Option Addr}{pl pc:Nat}(h:PrQ rb ts B bx w q yk yd ya yb pa pl pc u)(hg:u.grownBy u' (some rb))(hr:QSt rb ts u' q')(hq:∀x l,q'=.ok x l→∃l',q=.ok x l'):PrQ rb ts B bx w q' yk yd ya yb pa pl pc u' :=
 ⟨h.at_.call hg hr,h.lo,zao h.box hg (by have:=h.lo;have:=h.at_.lt;omega),fun x l e=>by
  obtain⟨l',e'⟩:=hq x l e;obtain⟨m,X3⟩:=h.ex x l' e';have Zi:=h.at_.lt
  exact⟨m,zdc X3 (fun g ⟨g1,g2,_⟩=>hg.block g g2 (fun e=>by injection e with e;omega)) (fun g ⟨g1,g2,g3⟩=>⟨g1,Nat.lt_of_lt_of_le g2 hg.size,g3⟩)⟩⟩
theorem PrQ.step{rb B bx:Nat}{ts:List Tk}{w u u5:World}{q p:Rd Ex}{xk xd yk yd:Int}{xa xb ya yb:ByteArray}{qa pa:Option Addr}{ql qc pl pc:Nat}(k:Int){x:Ex}{l0:List Tk}(hw:w.heap.size≤B)(h:PrQ rb ts B bx w q xk xd xa xb qa ql qc u)(hq:q=.ok x l0)
 (hg:u.drew.grownBy u5 (some rb)) (hr:QSt rb ts u5 p) (hy:∀y l,p=.ok y l→VEx u.drew.heap.size y u5 (.agg #[.int .u8 yk,.string ya,.string yb,.int .i64 yd,.slice pa pl pc])) :
 ∃W',W'=(((((u5.setCell ⟨bx,0,none⟩ (.int .u8 k)).setCell ⟨bx,1,none⟩ (.string ⟨#[]⟩)).setCell ⟨bx,2,none⟩ (.string ⟨#[]⟩)).setCell ⟨bx,3,none⟩ (.int .i64 0)).setCell ⟨bx,4,none⟩ (.slice (some ⟨u5.heap.size,0,none⟩) 2 2)).alloc (.cells #[.int .u8 xk,.string xa,.string xb,.int .i64 xd,.slice qa ql qc,.int .u8 yk,.string ya,.string yb,.int .i64 yd,.slice pa pl pc] 25) ∧
  PrQ rb ts B bx w (p.bind fun y l=>.ok (tEx2 k x y) l) k 0 ⟨#[]⟩ ⟨#[]⟩ (some ⟨u5.heap.size,0,none⟩) 2 2 W':=by
 have Zi:=h.at_.lt;have XP:=h.lo;have hub:=(Z8 h.box);have a6:u.grownBy u5 (some rb):=⟨hg.os,hg.tape,hg.output,hg.size,hg.block⟩;have Zo:=a6.size;have h5:GAt rb ts B w u5 p:=h.at_.call a6 hr;have Wy:=zao h.box a6 (by omega);have Zw:=za2 Wy (.int .u8 k) (.string ⟨#[]⟩) (.string ⟨#[]⟩) (.int .i64 0) (.slice (some ⟨u5.heap.size,0,none⟩) 2 2);obtain⟨u6,Uk⟩:∃u6,u6=((((u5.setCell ⟨bx,0,none⟩ (.int .u8 k)).setCell ⟨bx,1,none⟩ (.string ⟨#[]⟩)).setCell ⟨bx,2,none⟩ (.string ⟨#[]⟩)).setCell ⟨bx,3,none⟩ (.int .i64 0)).setCell ⟨bx,4,none⟩ (.slice (some ⟨u5.heap.size,0,none⟩) 2 2):=⟨_,rfl⟩
 have Ti:u6.heap.size=u5.heap.size:=by rw[Uk];simp[World.setCell]
 have aN:w.heap.size≤bx:=by omega
 have h6:GAt rb ts B w u6 p:=by
  rw[Uk];exact((((h5.setNew XP _ _ aN).setNew XP _ _ aN).setNew XP _ _ aN).setNew XP _ _ aN).setNew XP _ _ aN
 have aO:∀c,c≠bx→u6.heap[c]?=u5.heap[c]?:=fun c hc=>by
  rw[Uk,Below.heap_setCell _ _ _ _ (by show c≠bx;exact hc),Below.heap_setCell _ _ _ _ (by show c≠bx;exact hc),Below.heap_setCell _ _ _ _ (by show c≠bx;exact hc),Below.heap_setCell _ _ _ _ (by show c≠bx;exact hc),Below.heap_setCell _ _ _ _ (by show c≠bx;exact hc)]
 rw[←Uk]at Zw;rw[←Uk];obtain⟨o,ho⟩:∃o,o=Obj.cells #[.int .u8 xk,.string xa,.string xb,.int .i64 xd,.slice qa ql qc,.int .u8 yk,.string ya,.string yb,.int .i64 yd,.slice pa pl pc] 25:=⟨_,rfl⟩
 have YD:(u6.alloc o).heap[u5.heap.size]?=some o:=by
  have:=heap_alloc_new u6 o
  rwa [Ti]at this
 have YX:∀c,c≠bx→c<u5.heap.size→(u6.alloc o).heap[c]?=u5.heap[c]?:=fun c hc hl=>(Below.heap_alloc u6 _ _ (by rw[Ti];exact hl)).trans (aO c hc)
 have hsa:(u6.alloc o).heap.size=u5.heap.size+1:=by rw[World.size_alloc,Ti]
 rw[←ho];refine⟨_,rfl,(h6.alloc o).as (by cases p<;>rfl),XP,(Below.heap_alloc u6 _ _ (by rw[Ti];omega)).trans Zw,fun z l e => ?_⟩
 cases hp:p with
 |no l=>rw[hp]at e;cases e
 |ok y l2 =>
  rw[hp]at e
  injection e with e1 e2
  rw[←e1];obtain⟨m,hx⟩:=h.ex x l0 hq;obtain⟨m2,hy⟩:=zir (hy y l2 hp);have bd:u.drew.heap.size=u.heap.size:=rfl
  have Yp:ExOn (RgQ B bx (u6.alloc o)) (max m m2) (u6.alloc o) [.int .u8 xk,.string xa,.string xb,.int .i64 xd,.slice qa ql qc] x :=
   (zdc hx (fun g ⟨g1,g2,g3⟩=>(YX g g3 (by omega)).trans (a6.block g g2 (fun e=>by injection e with e;omega))) (fun g ⟨g1,g2,g3⟩=>⟨g1,by omega,g3⟩)).up (by omega)
  have XC:ExOn (RgQ B bx (u6.alloc o)) (max m m2) (u6.alloc o) [.int .u8 yk,.string ya,.string yb,.int .i64 yd,.slice pa pl pc] y :=
   (zdc hy (fun g ⟨g1,g2⟩=>YX g (by rw[bd]at g1;omega) g2) (fun g ⟨g1,g2⟩=>⟨by rw[bd]at g1;omega,by omega,by rw[bd]at g1;omega⟩)).up (by omega)
  rw[ho]at YD;exact⟨_,zrk k ⟨by omega,by omega,by omega⟩ (ho ▸ YD) Yp XC⟩
theorem PrQ.fin{rb B bx:Nat}{ts:List Tk}{w u:World}{q R:Rd Ex}{yk yd:Int}{ya yb:ByteArray}{pa:Option Addr}{pl pc:Nat}(h:PrQ rb ts B bx w q yk yd ya yb pa pl pc u)(hb:B=w.heap.size)(hR:R=q) :
 ∃W',W'=((((u.setCell ⟨B,0,none⟩ (.int .u8 yk)).setCell ⟨B,1,none⟩ (.string ya)).setCell ⟨B,2,none⟩ (.string yb)).setCell ⟨B,3,none⟩ (.int .i64 yd)).setCell ⟨B,4,none⟩ (.slice pa pl pc) ∧
  W'.heap[B]?=some (.cells #[.int .u8 yk,.string ya,.string yb,.int .i64 yd,.slice pa pl pc] 25) ∧
  QP (VEx w.heap.size) QEx rb ts w R (.returned (.agg #[.int .u8 yk,.string ya,.string yb,.int .i64 yd,.slice pa pl pc])) W' :=
 h.at_.fin (Nat.le_of_eq hb.symm) (by rw[hR]) yk yd ya yb pa pl pc (fun x l e=>by
  obtain⟨m,hx⟩:=h.ex x l (by rw[←hR];exact e)
  exact zoa (hx.mono fun g ⟨g1,g2,_⟩=>⟨g1,g2⟩))
theorem zkc{rb n0:Nat}{ts:List Tk}(F:RdX)(hF:∀(W:World) (r:Rd Unit),QSt rb ts W r→(∀x l,r=.ok x l→l.length≤n0)→Calls Tryz.prog 170 #[.pointer (some ⟨rb,0,none⟩)] W (QP (VEx W.heap.size) QEx rb ts W (r.bind fun _ l=>F l)))
 (cF:∀l,(F l).Cons l) (N:Nat) (w:World) (r:Rd Unit) (h:QSt rb ts w r) (hl:∀x l,r=.ok x l→l.length≤n0∧l.length≤N) :
 Calls Tryz.prog 121 #[.pointer (some ⟨rb,0,none⟩)] w (QP (VEx w.heap.size) QEx rb ts w (r.bind fun _ l=>zbj F N l)):=by
 have hg:=GAt.start h;have Z7:=h.lt;obtain⟨B,hB⟩:∃B,B=w.heap.size:=⟨_,rfl⟩
 have a8:=Z9 hF;have aJ:=Z9 (hF (w.alloc zC) r hg.rd (fun x l e=>(hl x l e).1));have aq:=Z9 cF
 obtain⟨P,hP⟩:∃P,P=r.bind fun _ l=>F l:=⟨_,rfl⟩
 rw[←hP]at aJ
 obtain⟨GR,ZK⟩:∃GR,GR=r.bind fun _ l=>zbj F N l:=⟨_,rfl⟩
 have a2:Hid (GR=P.bind fun x l=>zgr F N x l):=Z9 (by rw[ZK,hP];cases r<;>rfl)
 have ay:Hid (∀x l,P=.ok x l→l.length<N∧l.length≤n0):=Z9 (fun x l e=>by
  rw[hP]at e
  cases hr:r with
  |no l=>rw[hr]at e;cases e
  |ok y l0 =>
   rw[hr]at e;have:=(cF l0).lt (show F l0=.ok x l from e);have h2:=hl y l0 hr
   exact⟨by omega,by omega⟩)
 rw[←ZK];have HG:=Z9 hg;clear h hl hF cF hg hP ZK;go_enter Tryz.func121,Tryz.ntmps121;go_wp2_with fail;refine aJ.out.mono ?_;rintro e u ⟨vv,rfl,⟨yk,ya,yb,yd,pa,pl,pc,rfl⟩,hx,hr,hg⟩;have ab:=Z9 (PrQ.start (HG.out.call hg hr) (fun x l e=>by have:=hx x l e;rw[World.size_alloc]at this;exact this));clear hx hr hg;go_wp2_with fail;have aU:Hid (∃c,(∀x l,P=.ok x l→l.length<c)∧GR=P.bind fun x l=>zgr F c x l):=Z9 ⟨N,fun x l e=>(ay.out x l e).1,a2.out⟩;have aV:Hid (∀x l,P=.ok x l→l.length≤n0):=Z9 (fun x l e=>(ay.out x l e).2);rw[←hB]at ab ⊢;obtain⟨bx,ZZ⟩:∃bx,bx=u.heap.size:=⟨_,rfl⟩
 rw[←ZZ]at ab ⊢;obtain⟨W0,Z3⟩:∃W0,W0=u.alloc (.cells #[.int .u8 yk,.string ya,.string yb,.int .i64 yd,.slice pa pl pc] 25):=⟨_,rfl⟩
 rw[←Z3]at ab ⊢;have aL:=Z9 hB;clear ZZ Z3 HG aJ a2 ay hB;go_loopg [7] P.rest.length (fun k _ wr=>∃(q:Rd Ex)(yk yd:Int)(ya yb:ByteArray)(pa:Option Addr)(pl pc:Nat),Hid (PrQ rb ts B bx w q yk yd ya yb pa pl pc wr)∧q.rest.length=k∧Hid (∀x l,q=.ok x l→l.length≤n0)∧Hid (∃c,(∀x l,q=.ok x l→l.length<c)∧GR=q.bind fun x l=>zgr F c x l))
 case atStart=>exact⟨P,yk,yd,ya,yb,pa,pl,pc,ab,rfl,aV,aU⟩
 case round =>
  obtain⟨w1,rfl⟩:∃w1:World,w1=wr:=⟨_,rfl⟩
  obtain⟨q,xk,xd,xa,xb,qa,ql,qc,YA,hk,HN,HQ⟩:=hrel;have aF:=Z9 (zd6 rb ts 5 ⟨#[42]⟩ w1 q YA.out.at_.rd);have Zi:=YA.out.at_.lt;have XP:=YA.out.lo;clear ab aU aV
  cases hs:qIs 5 [42] q
  ·rw[show qIs 5 (ByteArray.mk #[42]).data.toList q=false from hs]at aF
   have hE:GR=q:=by
    obtain⟨c,hc,e⟩:=HQ.out;rw[e]
    cases q with
    |no l=>rfl
    |ok x l =>
     have Zs:=hc x l rfl;obtain⟨c',rfl⟩:∃c',c=c'+1:=⟨c-1,by omega⟩
     exact if_neg (by rw[show tIs 5 [42] l=false from hs];simp)
   have HE:=Z9 hE;clear hs hE;go_wp2_with fail;refine aF.out.mono ?_;rintro e u2 ⟨rfl,hb⟩;have h2:=YA.out.call (q':=q) (zan (zah hb)) (YA.out.at_.rd.below hb) (fun x l e=>⟨l,e⟩);have ac:=Z9 (h2.fin aL.out HE.out);have fz:∀i,u2.frozen? ⟨B,i,none⟩=false:=Lib.frozen_of_heap h2.at_.box
   have zb:B<u2.heap.size:=h2.at_.blt;obtain⟨z0,z1,z2,z3,z4⟩:=zae h2.at_.box;obtain⟨b0,b1,b2,b3,b4⟩:=zae h2.box;clear hb h2;go_wp2_with fail;obtain⟨W',ae,Zs,Yn⟩:=ac.out;rw[←ae];obtain⟨d0,d1,d2,d3,d4⟩:=zae Zs;exact bodyPost_ret (v:=.agg #[.int .u8 xk,.string xa,.string xb,.int .i64 xd,.slice qa ql qc]) (by simp[results,Tryz.results121,go_sem,d0,d1,d2,d3,d4]) rfl Yn
  ·rw[show qIs 5 (ByteArray.mk #[42]).data.toList q=true from hs]at aF
   obtain⟨x,t,l,Ye⟩:∃x t l,q=.ok x (t :: l):=by
    cases q with
    |no l=>cases hs
    |ok x l =>
     obtain⟨t,l,rfl⟩:=zb2 hs;exact⟨x,t,l,rfl⟩
   have XL:l.length<gk:=by rw[Ye]at hk;have hk:(t :: l).length=gk:=hk;rw[List.length_cons]at hk;omega
   have ak:l.length≤n0:=by have:=HN.out x (t :: l) Ye;rw[List.length_cons]at this;omega
   have hT:tIs 5 [42] (t :: l)=true:=by rw[Ye]at hs;exact hs
   have HM:=Z9 (fun W (hW:QSt rb ts W q)=>zi2 rb ts ⟨#[42]⟩ W q hW);rw[show(q.bind fun _ l=>tEat 5 (ByteArray.mk #[42]).data.toList l)=.ok () l by rw[Ye];exact zor hT]at HM
   have Y4:∃c',(∀y l2,(F l).bind (fun y l2=>.ok (tEx2 6 x y) l2)=.ok y l2→l2.length<c')∧GR=((F l).bind fun y l2=>.ok (tEx2 6 x y) l2).bind fun x l=>zgr F c' x l:=by
    obtain⟨c,hc,e⟩:=HQ.out;have Zs:=hc x (t :: l) Ye;obtain⟨c',rfl⟩:∃c',c=c'+1:=⟨c-1,by omega⟩
    refine⟨c',fun y l2 e2 => ?_,?_⟩
    ·cases hf:F l with
     |no l3=>rw[hf]at e2;cases e2
     |ok z l3 =>
      rw[hf]at e2
      injection e2 with e3 e4
      rw[←e4];have:=(aq.out l).lt hf;rw[List.length_cons]at Zs;omega
    ·rw[e,Ye]
     show(if tIs 5 [42] (t :: l)=true then _ else _)=_
     rw[if_pos hT]
     show(F l).bind _=_
     cases F l<;>rfl
   have aS:=Z9 Y4
   have aA:Hid ((F l).rest.length≤l.length∧∀z l3,F l=.ok z l3→l3.length≤n0):=Z9 (by
    have:=aq.out l;refine⟨?_,fun z l3 hf=>by have:=(aq.out l).lt hf;omega⟩
    cases hf:F l with
    |no l3=>rw[hf]at this;exact List.IsSuffix.length_le this
    |ok z l3=>rw[hf]at this;exact Nat.le_of_lt this.2)
   have aT:=Z9 Ye;clear hs Ye hT Y4 HQ;go_wp2_with fail;refine aF.out.mono ?_;rintro e u2 ⟨rfl,hb⟩;have ah:=Z9 (YA.out.call (q':=q) (zan (zah hb)) (YA.out.at_.rd.below hb) (fun x l e=>⟨l,e⟩));clear hb;go_wp2_with fail;refine(HM.out u2 ah.out.at_.rd).mono ?_;rintro e u3 ⟨v3,rfl,rfl,_,hr,hg⟩;have az:=Z9 (ah.out.call (q':=.ok x l) hg (hr.as rfl) (fun y l2 e=>by injection e with e1 e2;rw[←e1];exact⟨_,aT.out⟩));have af:=Z9 (a8.out u3.drew (.ok () l) (hr.below (Below.refl _ u3).drew) (fun y l2 e=>by injection e with e1 e2;rw[←e2];exact ak));rw[show((.ok () l:Rd Unit).bind fun _ l=>F l)=F l from rfl]at af
   obtain⟨q0,q1,q2,q3,q4⟩:=zae az.out.box;have aQ:=(Z8 az.out.box);clear hr hg;go_wp2_with fail
   go_region_law (first
    |(go_simp;refine af.out.mono ?_;rintro e u5 ⟨vv,rfl,⟨yk,ya,yb,yd,pa,pl,pc,rfl⟩,hy,XQ,Y8⟩;have ZA:=Z9 (az.out.step 6 (Nat.le_of_eq aL.out.symm) rfl Y8 XQ hy);have aa:=zao az.out.box (u:=u5) ⟨Y8.os,Y8.tape,Y8.output,Y8.size,Y8.block⟩ (Nat.ne_of_lt (Nat.lt_trans Zi XP));obtain⟨p0,p1,p2,p3,p4⟩:=zae aa;have fp:∀i,u5.frozen? ⟨bx,i,none⟩=false:=Lib.frozen_of_heap aa;have ax:=(Z8 aa);clear hy XQ Y8 aa))
   all_goals
    go_wp2_with fail;obtain⟨W',ae,YD⟩:=ZA.out;rw[←ae];have am:=Z9 YD;clear YD;go_roundg (F l).rest.length
    case measure=>have:=aA.out.1;omega
    case rel =>
     refine⟨_,_,_,_,_,_,_,_,am,by cases F l<;>rfl,Z9 (fun y l2 e => ?_),aS⟩
     cases hf:F l with
     |no l3=>rw[hf]at e;cases e
     |ok z l3 =>
      rw[hf]at e
      injection e with e1 e2
      rw[←e2];exact aA.out.2 z l3 hf
theorem PrQ.eat{rb B bx:Nat}{ts:List Tk}{w u:World}{q:Rd Ex}{yk yd:Int}{ya yb:ByteArray}{pa:Option Addr}{pl pc:Nat}{x:Ex}{t:Tk}{l:List Tk}(h:PrQ rb ts B bx w q yk yd ya yb pa pl pc u)(hq:q=.ok x (t :: l)) :
 ∃a cap nx,u.heap[rb]?=some (.cells #[.slice a ts.length cap,.int .i64 (nx:Nat),.bool false] 98)∧IntKind.i64.wrap ((nx:Int)+1)=(nx:Int)+1∧PrQ rb ts B bx w (.ok x l) yk yd ya yb pa pl pc (u.setCell ⟨rb,1,none⟩ (.int .i64 ((nx:Int)+1))):=by
 have bp:=h.at_.rd;rw[hq]at bp;obtain⟨a,cap,nx,hb,h1,h2,h3,h4,h5⟩:=bp;refine⟨a,cap,nx,hb,IntWalk.i64_in _ (by omega),h.call (q':=.ok x l) (Lib.grownBy_setCell u rb 1 _) (QAt.next hb h1 h3 h4 h5) (fun y l2 e => ?_)⟩
 injection e with e1 e2
 rw[←e1];exact⟨_,hq⟩
theorem z2k{F:RdX}{m c:Nat}{x:Ex}{l:List Tk}(h:tIs 5 [43] l=false)(h2:tIs 5 [45] l=false):tAdd F m (c+1) x l=.ok x l:=by
 show(if _ then _ else if _ then _ else _)=_
 rw[h,h2];simp
theorem zul{F:RdX}{m c:Nat}{x:Ex}{t:Tk}{l:List Tk}(h:tIs 5 [43] (t :: l)=true):tAdd F m (c+1) x (t :: l)=(zbj F m l).bind fun y l=>tAdd F m c (tEx2 4 x y) l:=if_pos h
theorem zr3{F:RdX}{m c:Nat}{x:Ex}{t:Tk}{l:List Tk}(h:tIs 5 [43] (t :: l)=false)(h2:tIs 5 [45] (t :: l)=true):tAdd F m (c+1) x (t :: l)=(zbj F m l).bind fun y l=>tAdd F m c (tEx2 5 x y) l :=
 (if_neg (by rw[h];simp)).trans (if_pos h2)
theorem z1m{rb n0 N:Nat}{ts:List Tk}(F:RdX)(hF:∀(W:World) (r:Rd Unit),QSt rb ts W r→(∀x l,r=.ok x l→l.length≤n0∧l.length≤N)→Calls Tryz.prog 121 #[.pointer (some ⟨rb,0,none⟩)] W (QP (VEx W.heap.size) QEx rb ts W (r.bind fun _ l=>zbj F N l)))
 (cT:∀l,(zbj F N l).Cons l) (w:World) (r:Rd Unit) (h:QSt rb ts w r) (hl:∀x l,r=.ok x l→l.length≤n0∧l.length≤N) :
 Calls Tryz.prog 67 #[.pointer (some ⟨rb,0,none⟩)] w (QP (VEx w.heap.size) QEx rb ts w (r.bind fun _ l=>tSum F N l)):=by
 have hg:=GAt.start h;have Z7:=h.lt;obtain⟨B,hB⟩:∃B,B=w.heap.size:=⟨_,rfl⟩
 have a8:=Z9 hF;have aJ:=Z9 (hF (w.alloc zC) r hg.rd hl);have aq:=Z9 cT
 obtain⟨P,hP⟩:∃P,P=r.bind fun _ l=>zbj F N l:=⟨_,rfl⟩
 rw[←hP]at aJ
 obtain⟨GR,ZK⟩:∃GR,GR=r.bind fun _ l=>tSum F N l:=⟨_,rfl⟩
 have a2:Hid (GR=P.bind fun x l=>tAdd F N N x l):=Z9 (by rw[ZK,hP];cases r<;>rfl)
 have ay:Hid (∀x l,P=.ok x l→l.length<N∧l.length≤n0):=Z9 (fun x l e=>by
  rw[hP]at e
  cases hr:r with
  |no l=>rw[hr]at e;cases e
  |ok y l0 =>
   rw[hr]at e;have:=(cT l0).lt (show zbj F N l0=.ok x l from e);have h2:=hl y l0 hr
   exact⟨by omega,by omega⟩)
 rw[←ZK];have HG:=Z9 hg;clear h hl hF cT hg hP ZK;go_enter Tryz.func67,Tryz.ntmps67;go_wp2_with fail;refine aJ.out.mono ?_;rintro e u ⟨vv,rfl,⟨yk,ya,yb,yd,pa,pl,pc,rfl⟩,hx,hr,hg⟩;have ab:=Z9 (PrQ.start (HG.out.call hg hr) (fun x l e=>by have:=hx x l e;rw[World.size_alloc]at this;exact this));clear hx hr hg;go_wp2_with fail;have aU:Hid (∃c,(∀x l,P=.ok x l→l.length<c)∧GR=P.bind fun x l=>tAdd F N c x l):=Z9 ⟨N,fun x l e=>(ay.out x l e).1,a2.out⟩;have aV:Hid (∀x l,P=.ok x l→l.length≤n0∧l.length≤N):=Z9 (fun x l e=>⟨(ay.out x l e).2,Nat.le_of_lt (ay.out x l e).1⟩);rw[←hB]at ab ⊢;obtain⟨bx,ZZ⟩:∃bx,bx=u.heap.size:=⟨_,rfl⟩
 rw[←ZZ]at ab ⊢;obtain⟨W0,Z3⟩:∃W0,W0=u.alloc (.cells #[.int .u8 yk,.string ya,.string yb,.int .i64 yd,.slice pa pl pc] 25):=⟨_,rfl⟩
 rw[←Z3]at ab ⊢;have aL:=Z9 hB;clear ZZ Z3 HG aJ a2 ay hB;go_loopg [7] P.rest.length (fun k _ wr=>∃(q:Rd Ex)(yk yd:Int)(ya yb:ByteArray)(pa:Option Addr)(pl pc:Nat),Hid (PrQ rb ts B bx w q yk yd ya yb pa pl pc wr)∧q.rest.length=k∧Hid (∀x l,q=.ok x l→l.length≤n0∧l.length≤N)∧Hid (∃c,(∀x l,q=.ok x l→l.length<c)∧GR=q.bind fun x l=>tAdd F N c x l))
 case atStart=>exact⟨P,yk,yd,ya,yb,pa,pl,pc,ab,rfl,aV,aU⟩
 case round =>
  obtain⟨w1,rfl⟩:∃w1:World,w1=wr:=⟨_,rfl⟩
  obtain⟨q,xk,xd,xa,xb,qa,ql,qc,YA,hk,HN,HQ⟩:=hrel;have aG:=Z9 (fun W (hW:QSt rb ts W q)=>zd6 rb ts 5 ⟨#[43]⟩ W q hW);have a7:=Z9 (fun W (hW:QSt rb ts W q)=>zd6 rb ts 5 ⟨#[45]⟩ W q hW);have Zi:=YA.out.at_.lt;have XP:=YA.out.lo;clear ab aU aV
  cases hs:qIs 5 [43] q
  ·rw[show qIs 5 (ByteArray.mk #[43]).data.toList q=false from hs]at aG
   cases YP:qIs 5 [45] q
   ·rw[show qIs 5 (ByteArray.mk #[45]).data.toList q=false from YP]at a7
    have hE:GR=q:=by
     obtain⟨c,hc,e⟩:=HQ.out;rw[e]
     cases q with
     |no l=>rfl
     |ok x l =>
      have Zs:=hc x l rfl;obtain⟨c',rfl⟩:∃c',c=c'+1:=⟨c-1,by omega⟩
      exact z2k hs YP
    have HE:=Z9 hE;clear hs YP hE;go_wp2_with fail;refine(aG.out w1 YA.out.at_.rd).mono ?_;rintro e u2 ⟨rfl,hb⟩;have ah:=Z9 (YA.out.call (q':=q) (zan (zah hb)) (YA.out.at_.rd.below hb) (fun x l e=>⟨l,e⟩));clear hb;go_wp2_with fail;refine(a7.out u2 ah.out.at_.rd).mono ?_;rintro e u3 ⟨rfl,hb⟩;have h2:=ah.out.call (q':=q) (zan (zah hb)) (ah.out.at_.rd.below hb) (fun x l e=>⟨l,e⟩);have ac:=Z9 (h2.fin aL.out HE.out);have fz:∀i,u3.frozen? ⟨B,i,none⟩=false:=Lib.frozen_of_heap h2.at_.box
    have zb:B<u3.heap.size:=h2.at_.blt;obtain⟨z0,z1,z2,z3,z4⟩:=zae h2.at_.box;obtain⟨b0,b1,b2,b3,b4⟩:=zae h2.box;clear hb h2;go_wp2_with fail;obtain⟨W',ae,Zs,Yn⟩:=ac.out;rw[←ae];obtain⟨d0,d1,d2,d3,d4⟩:=zae Zs;exact bodyPost_ret (v:=.agg #[.int .u8 xk,.string xa,.string xb,.int .i64 xd,.slice qa ql qc]) (by simp[results,Tryz.results67,go_sem,d0,d1,d2,d3,d4]) rfl Yn
   ·rw[show qIs 5 (ByteArray.mk #[45]).data.toList q=true from YP]at a7
    obtain⟨x,t,l,Ye⟩:∃x t l,q=.ok x (t :: l):=by
     cases q with
     |no l=>cases YP
     |ok x l =>
      obtain⟨t,l,rfl⟩:=zb2 YP;exact⟨x,t,l,rfl⟩
    have XL:l.length<gk:=by rw[Ye]at hk;have hk:(t :: l).length=gk:=hk;rw[List.length_cons]at hk;omega
    have ak:l.length≤n0∧l.length≤N:=by have:=HN.out x (t :: l) Ye;rw[List.length_cons]at this;omega
    have Y4:∃c',(∀y l2,(zbj F N l).bind (fun y l2=>.ok (tEx2 5 x y) l2)=.ok y l2→l2.length<c')∧GR=((zbj F N l).bind fun y l2=>.ok (tEx2 5 x y) l2).bind fun x l=>tAdd F N c' x l:=by
     obtain⟨c,hc,e⟩:=HQ.out;have Zs:=hc x (t :: l) Ye;obtain⟨c',rfl⟩:∃c',c=c'+1:=⟨c-1,by omega⟩
     refine⟨c',fun y l2 e2 => ?_,?_⟩
     ·cases hf:zbj F N l with
      |no l3=>rw[hf]at e2;cases e2
      |ok z l3 =>
       rw[hf]at e2
       injection e2 with e3 e4
       rw[←e4];have:=(aq.out l).lt hf;rw[List.length_cons]at Zs;omega
     ·rw[e,Ye]
      show tAdd F N (c'+1) x (t :: l)=_
      rw[zr3 (by rw[Ye]at hs;exact hs) (by rw[Ye]at YP;exact YP)]
      cases zbj F N l<;>rfl
    have aS:=Z9 Y4
    have aA:Hid ((zbj F N l).rest.length≤l.length∧∀z l3,zbj F N l=.ok z l3→l3.length≤n0∧l3.length≤N):=Z9 (by
     have:=aq.out l;refine⟨?_,fun z l3 hf=>by have:=(aq.out l).lt hf;omega⟩
     cases hf:zbj F N l with
     |no l3=>rw[hf]at this;exact List.IsSuffix.length_le this
     |ok z l3=>rw[hf]at this;exact Nat.le_of_lt this.2)
    have aT:=Z9 Ye;clear hs YP Ye Y4 HQ;go_wp2_with fail;refine(aG.out w1 YA.out.at_.rd).mono ?_;rintro e u2a ⟨rfl,hb⟩;have aH:=Z9 (YA.out.call (q':=q) (zan (zah hb)) (YA.out.at_.rd.below hb) (fun x l e=>⟨l,e⟩));clear hb;go_wp2_with fail;refine(a7.out u2a aH.out.at_.rd).mono ?_;rintro e u2 ⟨rfl,hb⟩;have ah:=Z9 (aH.out.call (q':=q) (zan (zah hb)) (aH.out.at_.rd.below hb) (fun x l e=>⟨l,e⟩));clear hb;go_wp2_with fail;refine(aG.out u2 ah.out.at_.rd).mono ?_;rintro e u3 ⟨rfl,hb⟩;have az:=Z9 (ah.out.call (q':=q) (zan (zah hb)) (ah.out.at_.rd.below hb) (fun x l e=>⟨l,e⟩));clear hb;obtain⟨a,cap,nx,WK,Wu,U5⟩:=az.out.eat aT.out
    obtain⟨c0,c1,c2⟩:=q3 WK;have bg:∀i,u3.frozen? ⟨rb,i,none⟩=false:=Lib.frozen_of_heap WK
    have aB:=(Z8 WK);have ai:=Z9 U5;clear WK U5;go_wp2_with fail;change Code.wp _ _ _ _ (u3.setCell ⟨rb,1,none⟩ (.int .i64 ((nx:Int)+1)));obtain⟨u4,Uj⟩:∃u4,u4=u3.setCell ⟨rb,1,none⟩ (.int .i64 ((nx:Int)+1)):=⟨_,rfl⟩
    rw[←Uj]at ai ⊢;have af:=Z9 (a8.out u4.drew (.ok () l) (QSt.below (ai.out.at_.rd.as rfl) (Below.refl _ u4).drew) (fun y l2 e=>by injection e with e1 e2;rw[←e2];exact ak));rw[show((.ok () l:Rd Unit).bind fun _ l=>zbj F N l)=zbj F N l from rfl]at af;obtain⟨q0,q1,q2,q3,q4⟩:=zae ai.out.box;have aQ:=(Z8 ai.out.box);clear c0 c1 c2 bg aB Uj Wu;go_wp2_with fail
    go_region_law (first
     |(go_simp;refine af.out.mono ?_;rintro e u5 ⟨vv,rfl,⟨yk,ya,yb,yd,pa,pl,pc,rfl⟩,hy,XQ,Y8⟩;have ZA:=Z9 (ai.out.step 5 (Nat.le_of_eq aL.out.symm) rfl Y8 XQ hy);have aa:=zao ai.out.box (u:=u5) ⟨Y8.os,Y8.tape,Y8.output,Y8.size,Y8.block⟩ (Nat.ne_of_lt (Nat.lt_trans Zi XP));obtain⟨p0,p1,p2,p3,p4⟩:=zae aa;have fp:∀i,u5.frozen? ⟨bx,i,none⟩=false:=Lib.frozen_of_heap aa;have ax:=(Z8 aa);clear hy XQ Y8 aa))
    all_goals
     go_wp2_with fail;obtain⟨W',ae,YD⟩:=ZA.out;rw[←ae];have am:=Z9 YD;clear YD;go_roundg (zbj F N l).rest.length
     case measure=>have:=aA.out.1;omega
     case rel =>
      refine⟨_,_,_,_,_,_,_,_,am,by cases zbj F N l<;>rfl,Z9 (fun y l2 e => ?_),aS⟩
      cases hf:zbj F N l with
      |no l3=>rw[hf]at e;cases e
      |ok z l3 =>
       rw[hf]at e
       injection e with e1 e2
       rw[←e2];exact aA.out.2 z l3 hf
  ·rw[show qIs 5 (ByteArray.mk #[43]).data.toList q=true from hs]at aG
   obtain⟨x,t,l,Ye⟩:∃x t l,q=.ok x (t :: l):=by
    cases q with
    |no l=>cases hs
    |ok x l =>
     obtain⟨t,l,rfl⟩:=zb2 hs;exact⟨x,t,l,rfl⟩
   have XL:l.length<gk:=by rw[Ye]at hk;have hk:(t :: l).length=gk:=hk;rw[List.length_cons]at hk;omega
   have ak:l.length≤n0∧l.length≤N:=by have:=HN.out x (t :: l) Ye;rw[List.length_cons]at this;omega
   have Y4:∃c',(∀y l2,(zbj F N l).bind (fun y l2=>.ok (tEx2 4 x y) l2)=.ok y l2→l2.length<c')∧GR=((zbj F N l).bind fun y l2=>.ok (tEx2 4 x y) l2).bind fun x l=>tAdd F N c' x l:=by
    obtain⟨c,hc,e⟩:=HQ.out;have Zs:=hc x (t :: l) Ye;obtain⟨c',rfl⟩:∃c',c=c'+1:=⟨c-1,by omega⟩
    refine⟨c',fun y l2 e2 => ?_,?_⟩
    ·cases hf:zbj F N l with
     |no l3=>rw[hf]at e2;cases e2
     |ok z l3 =>
      rw[hf]at e2
      injection e2 with e3 e4
      rw[←e4];have:=(aq.out l).lt hf;rw[List.length_cons]at Zs;omega
    ·rw[e,Ye]
     show tAdd F N (c'+1) x (t :: l)=_
     rw[zul (by rw[Ye]at hs;exact hs)]
     cases zbj F N l<;>rfl
   have aS:=Z9 Y4
   have aA:Hid ((zbj F N l).rest.length≤l.length∧∀z l3,zbj F N l=.ok z l3→l3.length≤n0∧l3.length≤N):=Z9 (by
    have:=aq.out l;refine⟨?_,fun z l3 hf=>by have:=(aq.out l).lt hf;omega⟩
    cases hf:zbj F N l with
    |no l3=>rw[hf]at this;exact List.IsSuffix.length_le this
    |ok z l3=>rw[hf]at this;exact Nat.le_of_lt this.2)
   have aT:=Z9 Ye;clear hs Ye Y4 HQ;go_wp2_with fail;refine(aG.out w1 YA.out.at_.rd).mono ?_;rintro e u2 ⟨rfl,hb⟩;have ah:=Z9 (YA.out.call (q':=q) (zan (zah hb)) (YA.out.at_.rd.below hb) (fun x l e=>⟨l,e⟩));clear hb;go_wp2_with fail;refine(aG.out u2 ah.out.at_.rd).mono ?_;rintro e u3 ⟨rfl,hb⟩;have az:=Z9 (ah.out.call (q':=q) (zan (zah hb)) (ah.out.at_.rd.below hb) (fun x l e=>⟨l,e⟩));clear hb;obtain⟨a,cap,nx,WK,Wu,U5⟩:=az.out.eat aT.out;obtain⟨c0,c1,c2⟩:=q3 WK;have bg:∀i,u3.frozen? ⟨rb,i,none⟩=false:=Lib.frozen_of_heap WK
   have aB:=(Z8 WK);have ai:=Z9 U5;clear WK U5;go_wp2_with fail;change Code.wp _ _ _ _ (u3.setCell ⟨rb,1,none⟩ (.int .i64 ((nx:Int)+1)));obtain⟨u4,Uj⟩:∃u4,u4=u3.setCell ⟨rb,1,none⟩ (.int .i64 ((nx:Int)+1)):=⟨_,rfl⟩
   rw[←Uj]at ai ⊢;have af:=Z9 (a8.out u4.drew (.ok () l) (QSt.below (ai.out.at_.rd.as rfl) (Below.refl _ u4).drew) (fun y l2 e=>by injection e with e1 e2;rw[←e2];exact ak));rw[show((.ok () l:Rd Unit).bind fun _ l=>zbj F N l)=zbj F N l from rfl]at af;obtain⟨q0,q1,q2,q3,q4⟩:=zae ai.out.box;have aQ:=(Z8 ai.out.box);clear c0 c1 c2 bg aB Uj Wu;go_wp2_with fail
   go_region_law (first
    |(go_simp;refine af.out.mono ?_;rintro e u5 ⟨vv,rfl,⟨yk,ya,yb,yd,pa,pl,pc,rfl⟩,hy,XQ,Y8⟩;have ZA:=Z9 (ai.out.step 4 (Nat.le_of_eq aL.out.symm) rfl Y8 XQ hy);have aa:=zao ai.out.box (u:=u5) ⟨Y8.os,Y8.tape,Y8.output,Y8.size,Y8.block⟩ (Nat.ne_of_lt (Nat.lt_trans Zi XP));obtain⟨p0,p1,p2,p3,p4⟩:=zae aa;have fp:∀i,u5.frozen? ⟨bx,i,none⟩=false:=Lib.frozen_of_heap aa;have ax:=(Z8 aa);clear hy XQ Y8 aa))
   all_goals
    go_wp2_with fail;obtain⟨W',ae,YD⟩:=ZA.out;rw[←ae];have am:=Z9 YD;clear YD;go_roundg (zbj F N l).rest.length
    case measure=>have:=aA.out.1;omega
    case rel =>
     refine⟨_,_,_,_,_,_,_,_,am,by cases zbj F N l<;>rfl,Z9 (fun y l2 e => ?_),aS⟩
     cases hf:zbj F N l with
     |no l3=>rw[hf]at e;cases e
     |ok z l3 =>
      rw[hf]at e
      injection e with e1 e2
      rw[←e2];exact aA.out.2 z l3 hf
def zmk:Obj:=.cells #[.string ⟨#[108,101,115,115]⟩,.string ⟨#[101,113,117,97,108]⟩,.string ⟨#[97,110,100]⟩,.string ⟨#[111,114]⟩,.string ⟨#[110,111,116]⟩] 9
theorem zqj(w:World):∀i (hi:i<([⟨#[108,101,115,115]⟩,⟨#[101,113,117,97,108]⟩,⟨#[97,110,100]⟩,⟨#[111,114]⟩,⟨#[110,111,116]⟩]:List ByteArray).length),(w.alloc zmk).cell? ⟨w.heap.size,i,none⟩=some (.string (([⟨#[108,101,115,115]⟩,⟨#[101,113,117,97,108]⟩,⟨#[97,110,100]⟩,⟨#[111,114]⟩,⟨#[110,111,116]⟩]:List ByteArray)[i]'hi)):=by
 intro i hi;have ha:=heap_alloc_new w zmk;simp only[List.length_cons,List.length_nil]at hi;unfold World.cell?
 show(match (w.alloc _).heap[w.heap.size]? with |some (.cells c _ _)=>c[i]? |_=>none)=_
 rw[ha]
 match i,hi with
 |0,_=>rfl
 |1,_=>rfl
 |2,_=>rfl
 |3,_=>rfl
 |4,_=>rfl
theorem zxr{α:Type}(x:α)(l:List Tk):chW [⟨#[108,101,115,115]⟩,⟨#[101,113,117,97,108]⟩,⟨#[97,110,100]⟩,⟨#[111,114]⟩,⟨#[110,111,116]⟩] (Rd.ok x l) =
 if zar l=[108,101,115,115]then some (⟨#[108,101,115,115]⟩,l.tail)else if zar l=[101,113,117,97,108]then some (⟨#[101,113,117,97,108]⟩,l.tail)else if zar l=[97,110,100]then some (⟨#[97,110,100]⟩,l.tail)else if zar l=[111,114]then some (⟨#[111,114]⟩,l.tail)else if zar l=[110,111,116]then some (⟨#[110,111,116]⟩,l.tail)else none:=by
 have e0:qIs 1 (ByteArray.mk #[108,101,115,115]).data.toList (Rd.ok x l)=decide (zar l=[108,101,115,115]):=zd5 x l (by decide);have e1:qIs 1 (ByteArray.mk #[101,113,117,97,108]).data.toList (Rd.ok x l)=decide (zar l=[101,113,117,97,108]):=zd5 x l (by decide);have e2:qIs 1 (ByteArray.mk #[97,110,100]).data.toList (Rd.ok x l)=decide (zar l=[97,110,100]):=zd5 x l (by decide);have e3:qIs 1 (ByteArray.mk #[111,114]).data.toList (Rd.ok x l)=decide (zar l=[111,114]):=zd5 x l (by decide);have e4:qIs 1 (ByteArray.mk #[110,111,116]).data.toList (Rd.ok x l)=decide (zar l=[110,111,116]):=zd5 x l (by decide)
 by_cases h0:zar l=[108,101,115,115]
 ·rw[if_pos h0,zej (by rw[e0,h0];rfl)];rfl
 rw[if_neg h0,zgh (by rw[e0];exact decide_eq_false h0)]
 by_cases h1:zar l=[101,113,117,97,108]
 ·rw[if_pos h1,zej (by rw[e1,h1];rfl)];rfl
 rw[if_neg h1,zgh (by rw[e1];exact decide_eq_false h1)]
 by_cases h2:zar l=[97,110,100]
 ·rw[if_pos h2,zej (by rw[e2,h2];rfl)];rfl
 rw[if_neg h2,zgh (by rw[e2];exact decide_eq_false h2)]
 by_cases h3:zar l=[111,114]
 ·rw[if_pos h3,zej (by rw[e3,h3];rfl)];rfl
 rw[if_neg h3,zgh (by rw[e3];exact decide_eq_false h3)]
 by_cases h4:zar l=[110,111,116]
 ·rw[if_pos h4,zej (by rw[e4,h4];rfl)];rfl
 rw[if_neg h4,zgh (by rw[e4];exact decide_eq_false h4)];rfl
theorem zi1{rb:Nat}{ts:List Tk}(w:World)(l:List Tk)(h:QSt rb ts w (.no l:Rd Unit)) :
 Calls Tryz.prog 66 #[.pointer (some ⟨rb,0,none⟩)] w (QP (VEx w.heap.size) QEx rb ts w (.no l)):=by
 have hg:=GAt.start h;obtain⟨a,cap,nx,cb,_⟩:=h;obtain⟨c0,c1,c2⟩:=q3 cb;have Z7:=hg.lt;have HG:=Z9 hg;clear cb hg;go_enter Tryz.func66,Tryz.ntmps66;go_wp2_with fail;have hg:=HG.out;obtain⟨d0,d1,d2,d3,d4⟩:=zae hg.box;exact bodyPost_ret (v:=.agg #[.int .u8 0,.string ⟨#[]⟩,.string ⟨#[]⟩,.int .i64 0,.slice none 0 0]) (by simp[results,Tryz.results66,go_sem]) rfl ⟨_,rfl,⟨_,_,_,_,_,_,_,rfl⟩,(by intro x l e;cases e),hg.rd.as rfl,hg.grown⟩
theorem zk8{rb n0:Nat}{ts:List Tk}(S T:RdX)(hp:zl7 rb n0 ts S T)(cS:∀l,(S l).Cons l)(cT:∀l,(T l).Cons l)(w:World)(l:List Tk)(h:QSt rb ts w (.ok () l:Rd Unit))(hl:l.length≤n0)(hT:zar l=[108,101,115,115]∨zar l=[101,113,117,97,108]∨zar l=[97,110,100]∨zar l=[111,114]∨zar l=[110,111,116]) :
 Calls Tryz.prog 66 #[.pointer (some ⟨rb,0,none⟩)] w (QP (VEx w.heap.size) QEx rb ts w (zd2 S T l)):=by
 have hg:=GAt.start h;have aD:=hg.alloc zmk;have Z7:=hg.lt;have ad:=zdn rb ts ((w.alloc zC).alloc zmk) (.ok () l:Rd Unit) aD.rd [⟨#[108,101,115,115]⟩,⟨#[101,113,117,97,108]⟩,⟨#[97,110,100]⟩,⟨#[111,114]⟩,⟨#[110,111,116]⟩] (w.alloc zC).heap.size 5 (by simp) (by simp;omega) (by simp) (by simp) (zqj _);rw[zxr]at ad;rw[World.size_alloc]at ad;have a3:=Z9 aD
 obtain⟨c0,c1,c2⟩:(∃v,w.cell? ⟨rb,0,none⟩=some v)∧(∃v,w.cell? ⟨rb,1,none⟩=some v)∧w.cell? ⟨rb,2,none⟩=some (.bool false):=by
  obtain⟨a,cap,nx,cb,_⟩:=h;obtain⟨c0,c1,c2⟩:=q3 cb;exact⟨⟨_,c0⟩,⟨_,c1⟩,c2⟩
 have ZX:l.tail.length≤n0:=Nat.le_trans (by simp) hl
 have aj:Hid (∀(kd:Int)(nt ns:Nat),nt≤3→ns≤3→∀W,QSt rb ts W (.ok () l.tail:Rd Unit)→Calls Tryz.prog 119 #[.pointer (some ⟨rb,0,none⟩),.int .u8 kd,.int .i64 (nt:Int),.int .i64 (ns:Int)] W (QP (VEx W.heap.size) QEx rb ts W (zbf kd (List.replicate nt T ++ List.replicate ns S) l.tail))) :=
  Z9 (fun kd nt ns h1 h2 W hW=>zle (n0:=n0) S T hp cS cT kd nt ns (by omega) (by omega) W (.ok () l.tail) hW (fun x l2 e=>by injection e with e1 e2;rw[←e2];exact ZX))
 obtain⟨GR,ZK⟩:∃GR,GR=zd2 S T l:=⟨_,rfl⟩
 rw[←ZK];unfold zd2 at ZK;have HH:=Z9 h;clear hg aD h hp cS cT hl ZX c0 c1
 rcases hT with h0 |h0 |h0 |h0 |h0
 case' inl =>
  rw[h0]at ad ZK;rw[if_pos rfl]at ad;have a5:Hid (∀W,QSt rb ts W (.ok () l.tail:Rd Unit)→Calls Tryz.prog 119 #[.pointer (some ⟨rb,0,none⟩),.int .u8 11,.int .i64 0,.int .i64 2] W (QP (VEx W.heap.size) QEx rb ts W GR)):=Z9 (by rw[ZK];exact aj.out 11 0 2 (by omega) (by omega));have ap:=Z9 (zc2 ⟨#[108,101,115,115]⟩);rw[show kdOf (ByteArray.mk #[108,101,115,115]).data.toList=11 by decide]at ap
 case' inr.inl =>
  rw[h0]at ad ZK;rw[if_neg (by decide),if_pos rfl]at ad;have a5:Hid (∀W,QSt rb ts W (.ok () l.tail:Rd Unit)→Calls Tryz.prog 119 #[.pointer (some ⟨rb,0,none⟩),.int .u8 12,.int .i64 0,.int .i64 2] W (QP (VEx W.heap.size) QEx rb ts W GR)):=Z9 (by rw[ZK];exact aj.out 12 0 2 (by omega) (by omega));have ap:=Z9 (zc2 ⟨#[101,113,117,97,108]⟩);rw[show kdOf (ByteArray.mk #[101,113,117,97,108]).data.toList=12 by decide]at ap
 case' inr.inr.inl =>
  rw[h0]at ad ZK;rw[if_neg (by decide),if_neg (by decide),if_pos rfl]at ad;have a5:Hid (∀W,QSt rb ts W (.ok () l.tail:Rd Unit)→Calls Tryz.prog 119 #[.pointer (some ⟨rb,0,none⟩),.int .u8 13,.int .i64 2,.int .i64 0] W (QP (VEx W.heap.size) QEx rb ts W GR)):=Z9 (by rw[ZK];exact aj.out 13 2 0 (by omega) (by omega));have ap:=Z9 (zc2 ⟨#[97,110,100]⟩);rw[show kdOf (ByteArray.mk #[97,110,100]).data.toList=13 by decide]at ap
 case' inr.inr.inr.inl =>
  rw[h0]at ad ZK;rw[if_neg (by decide),if_neg (by decide),if_neg (by decide),if_pos rfl]at ad;have a5:Hid (∀W,QSt rb ts W (.ok () l.tail:Rd Unit)→Calls Tryz.prog 119 #[.pointer (some ⟨rb,0,none⟩),.int .u8 14,.int .i64 2,.int .i64 0] W (QP (VEx W.heap.size) QEx rb ts W GR)):=Z9 (by rw[ZK];exact aj.out 14 2 0 (by omega) (by omega));have ap:=Z9 (zc2 ⟨#[111,114]⟩);rw[show kdOf (ByteArray.mk #[111,114]).data.toList=14 by decide]at ap
 case' inr.inr.inr.inr =>
  rw[h0]at ad ZK;rw[if_neg (by decide),if_neg (by decide),if_neg (by decide),if_neg (by decide),if_pos rfl]at ad;have a5:Hid (∀W,QSt rb ts W (.ok () l.tail:Rd Unit)→Calls Tryz.prog 119 #[.pointer (some ⟨rb,0,none⟩),.int .u8 15,.int .i64 1,.int .i64 0] W (QP (VEx W.heap.size) QEx rb ts W GR)):=Z9 (by rw[ZK];exact aj.out 15 1 0 (by omega) (by omega));have ap:=Z9 (zc2 ⟨#[110,111,116]⟩);rw[show kdOf (ByteArray.mk #[110,111,116]).data.toList=15 by decide]at ap
 all_goals
  have a4:=Z9 ad;clear ad ZK h0 aj;go_enter Tryz.func66,Tryz.ntmps66;go_wp2_with fail;refine a4.out.mono ?_;rintro e u ⟨rfl,hq,hg⟩;have av:=Z9 (a3.out.call (r':=(.ok () l.tail:Rd Unit)) hg hq);clear hq hg;simp only[Option.map_some,Option.getD_some];go_wp2_with fail
  try (refine(ap.out u).mono ?_;rintro e u' ⟨rfl,rfl⟩;go_wp2_with fail)
  refine(a5.out _ av.out.rd).mono ?_;rintro e u3 ⟨vv,rfl,⟨yk,ya,yb,yd,pa,pl,pc,rfl⟩,hx,hr,hg⟩;have ZY:=av.out.call hg hr;have ar:=ZY.box;have ac:=Z9 (ZY.fin (R:=GR) (Nat.le.refl) rfl yk yd ya yb pa pl pc (fun x l e=>zmd (hx x l e) av.out.blt));have fz:∀i,u3.frozen? ⟨w.heap.size,i,none⟩=false:=Lib.frozen_of_heap ar
  have zb:w.heap.size<u3.heap.size:=(Z8 ar);obtain⟨z0,z1,z2,z3,z4⟩:=zae ar;clear hx hr hg ZY ar;go_wp2_with fail;obtain⟨W',ae,Zs,Yn⟩:=ac.out;rw[←ae];obtain⟨d0,d1,d2,d3,d4⟩:=zae Zs;exact bodyPost_ret (v:=.agg #[.int .u8 yk,.string ya,.string yb,.int .i64 yd,.slice pa pl pc]) (by simp[results,Tryz.results66,go_sem,d0,d1,d2,d3,d4]) rfl Yn
theorem zk9{rb:Nat}{ts:List Tk}(w:World)(l:List Tk)(h:QSt rb ts w (.ok () l:Rd Unit))(h0:zar l≠[108,101,115,115])(h1:zar l≠[101,113,117,97,108])(h2:zar l≠[97,110,100])(h3:zar l≠[111,114])(h4:zar l≠[110,111,116]) :
 Calls Tryz.prog 66 #[.pointer (some ⟨rb,0,none⟩)] w (QP (VEx w.heap.size) QEx rb ts w (.no l)):=by
 have hg:=GAt.start h;have aD:=hg.alloc zmk;have Z7:=hg.lt;have ad:=zdn rb ts ((w.alloc zC).alloc zmk) (.ok () l:Rd Unit) aD.rd [⟨#[108,101,115,115]⟩,⟨#[101,113,117,97,108]⟩,⟨#[97,110,100]⟩,⟨#[111,114]⟩,⟨#[110,111,116]⟩] (w.alloc zC).heap.size 5 (by simp) (by simp;omega) (by simp) (by simp) (zqj _);rw[zxr,if_neg h0,if_neg h1,if_neg h2,if_neg h3,if_neg h4]at ad;rw[World.size_alloc]at ad;have a4:Hid (Calls Tryz.prog 117 #[.pointer (some ⟨rb,0,none⟩),.slice (some ⟨w.heap.size+1,0,none⟩) 5 5] ((w.alloc zC).alloc zmk) (ChP rb ts ((w.alloc zC).alloc zmk) (.ok () l:Rd Unit) (none))):=Z9 ad;have a3:=Z9 aD
 obtain⟨c0,c1,c2⟩:(∃v,w.cell? ⟨rb,0,none⟩=some v)∧(∃v,w.cell? ⟨rb,1,none⟩=some v)∧w.cell? ⟨rb,2,none⟩=some (.bool false):=by
  obtain⟨a,cap,nx,cb,_⟩:=h;obtain⟨c0,c1,c2⟩:=q3 cb;exact⟨⟨_,c0⟩,⟨_,c1⟩,c2⟩
 have bC:Hid (∀W,QSt rb ts W (.ok () l:Rd Unit)→Calls Tryz.prog 118 #[.pointer (some ⟨rb,0,none⟩)] W (fun e w'=>e=.returned (.tuple #[])∧QSt rb ts w' (.no l:Rd Ex)∧W.grownBy w' (some rb))):=Z9 (fun W hW=>zii rb ts W _ hW);clear hg aD ad h h0 h1 h2 h3 h4 c0 c1;go_enter Tryz.func66,Tryz.ntmps66;go_wp2_with fail;refine a4.out.mono ?_;rintro e u ⟨rfl,hq,hg⟩;have av:=Z9 (a3.out.call (r':=(.ok () l:Rd Unit)) hg hq);clear hq hg;simp only[Option.map_none,Option.getD_none,tE0];go_wp2_with fail;refine(bC.out _ av.out.rd).mono ?_;rintro e u3 ⟨rfl,hr,hg⟩;have ZY:=av.out.call hg hr;have ar:=ZY.box
 have ac:=Z9 (ZY.fin (R:=(.no l:Rd Ex)) (Nat.le.refl) rfl 0 0 ⟨#[]⟩ ⟨#[]⟩ none 0 0 (fun x l e=>by cases e));have fz:∀i,u3.frozen? ⟨w.heap.size,i,none⟩=false:=Lib.frozen_of_heap ar
 have zb:w.heap.size<u3.heap.size:=(Z8 ar);obtain⟨z0,z1,z2,z3,z4⟩:=zae ar;clear hr hg ZY ar;go_wp2_with fail;obtain⟨W',ae,Zs,Yn⟩:=ac.out;rw[←ae];obtain⟨d0,d1,d2,d3,d4⟩:=zae Zs;exact bodyPost_ret (v:=.agg #[.int .u8 0,.string ⟨#[]⟩,.string ⟨#[]⟩,.int .i64 0,.slice none 0 0]) (by simp[results,Tryz.results66,go_sem,d0,d1,d2,d3,d4]) rfl Yn
theorem zys{rb n0:Nat}{ts:List Tk}(S T:RdX)(hp:zl7 rb n0 ts S T)(cS:∀l,(S l).Cons l)(cT:∀l,(T l).Cons l)(w:World)(r:Rd Unit)(h:QSt rb ts w r)(hl:∀x l,r=.ok x l→l.length≤n0) :
 Calls Tryz.prog 66 #[.pointer (some ⟨rb,0,none⟩)] w (QP (VEx w.heap.size) QEx rb ts w (r.bind fun _ l=>zd2 S T l)):=by
 cases r with
 |no l=>exact zi1 w l h
 |ok x l =>
  have ak:=hl x l rfl
  show Calls _ _ _ _ (QP _ _ _ _ _ (zd2 S T l))
  by_cases hT:zar l=[108,101,115,115]∨zar l=[101,113,117,97,108]∨zar l=[97,110,100]∨zar l=[111,114]∨zar l=[110,111,116]
  ·exact zk8 S T hp cS cT w l h ak hT
  ·have e:zd2 S T l=.no l:=by unfold zd2;simp only[not_or]at hT;rw[if_neg hT.1,if_neg hT.2.1,if_neg hT.2.2.1,if_neg hT.2.2.2.1,if_neg hT.2.2.2.2]
   rw[e];simp only[not_or]at hT;exact zk9 w l h hT.1 hT.2.1 hT.2.2.1 hT.2.2.2.1 hT.2.2.2.2
theorem zsr(rb:Nat)(ts:List Tk)(S T:RdX):zl7 rb 0 ts S T:=by
 intro b W r h hl
 obtain⟨l,rfl⟩:∃l,r=.no l:=by
  cases r with
  |no l=>exact⟨l,rfl⟩
  |ok x l=>exact absurd (hl x l rfl) (Nat.not_lt_zero _)
 have hq:QSt rb ts W (.no l:Rd Unit):=h.as rfl
 cases b with
 |false=>exact zi1 W l hq
 |true =>
  obtain⟨F,hF⟩:∃F:RdX,F=fun l=>.no l:=⟨_,rfl⟩
  have bi:∀l,F l=.no l:=fun l=>by rw[hF]
  have cF:∀l,(F l).Cons l:=fun l=>by rw[bi];exact List.suffix_refl _
  have bf:∀(W:World)(r:Rd Unit),QSt rb ts W r→(∀x l,r=.ok x l→l.length≤0)→Calls Tryz.prog 170 #[.pointer (some ⟨rb,0,none⟩)] W (QP (VEx W.heap.size) QEx rb ts W (r.bind fun _ l=>F l)):=by
   intro W r hr hl
   cases r with
   |no l=>exact zhs W l hr
   |ok x l =>
    have h0:=List.eq_nil_of_length_eq_zero (Nat.le_zero.1 (hl x l rfl));subst h0;rw[Rd.bind_ok,bi];exact zgu W [] hr (by decide) (by decide) (by decide) rfl rfl
  have:=z1m (n0:=0) (N:=0) F (fun W r hr hl=>zkc F bf cF 0 W r hr hl) (fun l=>by show Rd.Cons ((F l).bind _) l;rw[bi];exact List.suffix_refl _) W (.no l) hq (fun x l e=>by cases e);exact this
theorem zmz(rb:Nat)(ts:List Tk):∀n,zl7 rb n ts (rdE n true) (rdE n false)
 |0=>zsr rb ts _ _
 |n+1=>fun b W r h hl=>by
  have ih:=zmz rb ts n;have hu:QSt rb ts W r.unit:=QSt.unit.1 h
  have be:∀x l,r.unit=.ok x l→l.length≤n:=fun x l e=>by
   cases r with
   |no l=>cases e
   |ok y l2 =>
    injection e with e1 e2
    rw[←e2];exact Nat.le_of_lt_succ (hl y l2 rfl)
  have cF:=zd3 (rdE n true) (rdE n false) (zbh n true) (zbh n false)
  cases b with
  |true =>
   have:=z1m (n0:=n) (N:=n+1) (zbv (rdE n true) (rdE n false)) (fun W r hr hl=>zkc _ (fun W r hr hl=>zu2 _ _ ih (zbh n true) (zbh n false) W r hr hl) cF (n+1) W r hr hl) (zdi _ cF _) W r.unit hu (fun x l e=>⟨be x l e,Nat.le_succ_of_le (be x l e)⟩)
   cases r<;>exact this
  |false =>
   have:=zys (n0:=n) (rdE n true) (rdE n false) ih (zbh n true) (zbh n false) W r.unit hu be
   cases r<;>exact this
open Go.Shelf
theorem zg4(c:UInt8)(w:World):Calls Tryz.prog 165 #[.int .u8 (c.toNat:Int)] w (RetB w (dgQ c)):=by
 by_cases h1:c.toNat<48
 ·have hv:dgQ c=false:=by unfold dgQ;simp;omega
  rw[hv];go_enter Tryz.func165,Tryz.ntmps165;go_wp2;go_ret;exact⟨rfl,rfl⟩
 ·by_cases h2:57<c.toNat
  ·have hv:dgQ c=false:=by unfold dgQ;simp;omega
   rw[hv];have d1:decide ((c.toNat:Int)≤57)=false:=by simp;omega
   go_enter Tryz.func165,Tryz.ntmps165;go_wp2;go_ret;exact⟨rfl,rfl⟩
  ·have hv:dgQ c=true:=by unfold dgQ;simp;omega
   rw[hv];have d1:decide ((c.toNat:Int)≤57)=true:=by simp;omega
   go_enter Tryz.func165,Tryz.ntmps165;go_wp2;go_ret;exact⟨rfl,rfl⟩
theorem znf(c:UInt8)(w:World):Calls Tryz.prog 160 #[.int .u8 (c.toNat:Int)] w (RetB w (letB c)):=by
 rcases(show c.toNat<65∨(65≤c.toNat∧c.toNat≤90)∨(90<c.toNat∧c.toNat<97)∨(97≤c.toNat∧c.toNat≤122)∨122<c.toNat by omega)with h |⟨h,h2⟩ |⟨h,h2⟩ |⟨h,h2⟩ |h
 ·have hv:letB c=false:=by unfold letB;simp;omega
  rw[hv];have d1:decide ((97:Int)≤(c.toNat:Int))=false:=by simp;omega
  have d2:decide ((c.toNat:Int)≤122)=true:=by simp;omega
  have d3:decide ((65:Int)≤(c.toNat:Int))=false:=by simp;omega
  have d4:decide ((c.toNat:Int)≤90)=true:=by simp;omega
  go_enter Tryz.func160,Tryz.ntmps160;go_wp2;go_ret;exact⟨rfl,rfl⟩
 ·have hv:letB c=true:=by unfold letB;simp;omega
  rw[hv];have d1:decide ((97:Int)≤(c.toNat:Int))=false:=by simp;omega
  have d2:decide ((c.toNat:Int)≤122)=true:=by simp;omega
  have d3:decide ((65:Int)≤(c.toNat:Int))=true:=by simp;omega
  have d4:decide ((c.toNat:Int)≤90)=true:=by simp;omega
  go_enter Tryz.func160,Tryz.ntmps160;go_wp2;go_ret;exact⟨rfl,rfl⟩
 ·have hv:letB c=false:=by unfold letB;simp;omega
  rw[hv];have d1:decide ((97:Int)≤(c.toNat:Int))=false:=by simp;omega
  have d2:decide ((c.toNat:Int)≤122)=true:=by simp;omega
  have d3:decide ((65:Int)≤(c.toNat:Int))=true:=by simp;omega
  have d4:decide ((c.toNat:Int)≤90)=false:=by simp;omega
  go_enter Tryz.func160,Tryz.ntmps160;go_wp2;go_ret;exact⟨rfl,rfl⟩
 ·have hv:letB c=true:=by unfold letB;simp;omega
  rw[hv];have d1:decide ((97:Int)≤(c.toNat:Int))=true:=by simp;omega
  have d2:decide ((c.toNat:Int)≤122)=true:=by simp;omega
  have d3:decide ((65:Int)≤(c.toNat:Int))=true:=by simp;omega
  have d4:decide ((c.toNat:Int)≤90)=false:=by simp;omega
  go_enter Tryz.func160,Tryz.ntmps160;go_wp2;go_ret;exact⟨rfl,rfl⟩
 ·have hv:letB c=false:=by unfold letB;simp;omega
  rw[hv];have d1:decide ((97:Int)≤(c.toNat:Int))=true:=by simp;omega
  have d2:decide ((c.toNat:Int)≤122)=false:=by simp;omega
  have d3:decide ((65:Int)≤(c.toNat:Int))=true:=by simp;omega
  have d4:decide ((c.toNat:Int)≤90)=false:=by simp;omega
  go_enter Tryz.func160,Tryz.ntmps160;go_wp2;go_ret;exact⟨rfl,rfl⟩
theorem zlr(c:UInt8)(w:World):Calls Tryz.prog 161 #[.int .u8 (c.toNat:Int)] w (RetB w (wdQ c)):=by
 have HL:=Z9 (fun W=>znf c W);have HD:=Z9 (fun W=>zg4 c W)
 cases h1:letB c with
 |true =>
  rw[h1]at HL;have hv:wdQ c=true:=by unfold wdQ;rw[h1];rfl
  rw[hv];clear h1 hv;go_enter Tryz.func161,Tryz.ntmps161;go_wp2_with fail;refine(HL.out _).mono ?_;rintro e w' ⟨rfl,rfl⟩;go_wp2_with fail;go_ret;exact⟨rfl,rfl⟩
 |false =>
  rw[h1]at HL
  cases h2:dgQ c with
  |true =>
   rw[h2]at HD
   have hv:wdQ c=true:=by
    unfold dgQ at h2;unfold wdQ othB;simp at h2 ⊢;omega
   rw[hv];clear h1 h2 hv;go_enter Tryz.func161,Tryz.ntmps161;go_wp2_with fail;refine(HL.out _).mono ?_;rintro e w' ⟨rfl,rfl⟩;go_wp2_with fail;refine(HD.out _).mono ?_;rintro e w' ⟨rfl,rfl⟩;go_wp2_with fail;go_ret;exact⟨rfl,rfl⟩
  |false =>
   rw[h2]at HD
   by_cases Uo:c.toNat=95
   ·have hv:wdQ c=true:=by unfold wdQ othB;simp;omega
    rw[hv];have t1:((c.toNat:Int) == 95)=true:=by simp;omega
    clear h1 h2 hv Uo;go_enter Tryz.func161,Tryz.ntmps161;go_wp2_with fail;refine(HL.out _).mono ?_;rintro e w' ⟨rfl,rfl⟩;go_wp2_with fail;refine(HD.out _).mono ?_;rintro e w' ⟨rfl,rfl⟩;go_wp2_with fail;go_ret;exact⟨rfl,rfl⟩
   ·have t1:((c.toNat:Int) == 95)=false:=by simp;omega
    by_cases YN:c.toNat=45
    ·have hv:wdQ c=true:=by unfold wdQ othB;simp;omega
     rw[hv];have t2:((c.toNat:Int) == 45)=true:=by simp;omega
     clear h1 h2 hv Uo YN;go_enter Tryz.func161,Tryz.ntmps161;go_wp2_with fail;refine(HL.out _).mono ?_;rintro e w' ⟨rfl,rfl⟩;go_wp2_with fail;refine(HD.out _).mono ?_;rintro e w' ⟨rfl,rfl⟩;go_wp2_with fail;go_ret;exact⟨rfl,rfl⟩
    ·have hv:wdQ c=false:=by
      unfold wdQ;rw[h1];unfold dgQ at h2;unfold othB;simp at h2 ⊢;omega
     rw[hv];have t2:((c.toNat:Int) == 45)=false:=by simp;omega
     clear h1 h2 hv Uo YN;go_enter Tryz.func161,Tryz.ntmps161;go_wp2_with fail;refine(HL.out _).mono ?_;rintro e w' ⟨rfl,rfl⟩;go_wp2_with fail;refine(HD.out _).mono ?_;rintro e w' ⟨rfl,rfl⟩;go_wp2_with fail;go_ret;exact⟨rfl,rfl⟩
theorem zfe(s:ByteArray)(k:Nat)(h:k<s.size):s.data.toList.drop k=s[k] :: s.data.toList.drop (k+1):=by
 rw[List.drop_eq_getElem_cons (by rw[zab];exact h)];rfl
theorem zly(s:ByteArray):s.data.toList.drop s.size=[]:=by rw[←zab,List.drop_length]
theorem zc3(s:ByteArray)(k:Nat)(w:World)(hk:k≤s.size):Calls Tryz.prog 166 #[.string s,.int .i64 (k:Int)] w (RetB w (dgH (s.data.toList.drop k))):=by
 by_cases Z7:k<s.size
 ·have e:dgH (s.data.toList.drop k)=dgQ s[k]:=by rw[zfe s k Z7];rfl
  rw[e];have HD:=Z9 (fun W=>zg4 s[k] W);clear e;go_enter Tryz.func166,Tryz.ntmps166;go_wp2_with fail;refine(HD.out _).mono ?_;rintro e w' ⟨rfl,rfl⟩;go_wp2_with fail;go_ret;exact⟨rfl,rfl⟩
 ·obtain rfl:k=s.size:=by omega
  have e:dgH (s.data.toList.drop s.size)=false:=by rw[zly];rfl
  rw[e];clear e;go_enter Tryz.func166,Tryz.ntmps166;go_wp2_with fail;go_ret;exact⟨rfl,rfl⟩
def RnR(s:ByteArray)(F:Nat)(v:Value):Prop:=∃k:Nat,k≤s.size∧v=.int .i64 (k:Int)∧k+spn dgQ (s.data.toList.drop k)=F
theorem zqs(s:ByteArray)(i:Nat)(w:World)(hs:s.size≤100000)(hi:i≤s.size):Calls Tryz.prog 191 #[.string s,.int .i64 (i:Int)] w (RetI w ((i+spn dgQ (s.data.toList.drop i):Nat):Int)):=by
 obtain⟨F,hF⟩:∃F,F=i+spn dgQ (s.data.toList.drop i):=⟨_,rfl⟩
 rw[←hF];have HF:=Z9 hF.symm;clear hF;go_enter Tryz.func191,Tryz.ntmps191;go_wp2_with fail;go_loop [1] (fun v=>RnR s F v) (fun v=>s.size-(intOf v).toNat)
 case atStart=>exact⟨i,hi,rfl,HF.out⟩
 case round =>
  obtain⟨k,hk,rfl,hf⟩:=hrel
  by_cases Z7:k<s.size
  ·rw[zfe s k Z7]at hf
   have HD:=Z9 (fun W=>zg4 s[k] W)
   cases hd:dgQ s[k]with
   |true =>
    rw[hd]at HD
    have hX:k+1+spn dgQ (s.data.toList.drop (k+1))=F:=by
     unfold spn at hf;rw[if_pos hd]at hf;omega
    have HX:=Z9 hX;clear hf hd hX;go_wp2_with fail;refine(HD.out _).mono ?_;rintro e w' ⟨rfl,rfl⟩;go_wp2_with fail;go_round
    case rel=>exact⟨k+1,by omega,by go_num,HX.out⟩
    case measure=>simp[intOf]<;>omega
   |false =>
    rw[hd]at HD
    have hX:k=F:=by
     unfold spn at hf;rw[if_neg (by rw[hd];decide)]at hf;omega
    subst hX;clear hf hd;go_wp2_with fail;refine(HD.out _).mono ?_;rintro e w' ⟨rfl,rfl⟩;go_wp2_with fail;go_ret;exact⟨rfl,rfl⟩
  ·obtain rfl:k=s.size:=by omega
   have hX:s.size=F:=by rw[zly]at hf;exact hf
   clear hf;subst hX;go_wp2_with fail;go_ret;exact⟨rfl,rfl⟩
theorem ze3(s:ByteArray)(k:Nat)(w:World)(hk:k≤s.size):Calls Tryz.prog 163 #[.string s,.int .i64 (k:Int)] w (RetB w (endQ (s.data.toList.drop k))):=by
 by_cases Z7:k<s.size
 ·have e:endQ (s.data.toList.drop k)=(!wdQ s[k] && decide (s[k].toNat≠34∧s[k].toNat≠46∧s[k].toNat≠47)):=by rw[zfe s k Z7];rfl
  rw[e];have HD:=Z9 (fun W=>zlr s[k] W);clear e;have ek:decide (s.size≤k)=false:=by simp;omega
  cases hd:wdQ s[k]with
  |true =>
   rw[hd]at HD;clear hd;go_enter Tryz.func163,Tryz.ntmps163;go_wp2_with fail;refine(HD.out _).mono ?_;rintro e w' ⟨rfl,rfl⟩;go_wp2_with fail;go_ret;exact⟨rfl,rfl⟩
  |false =>
   rw[hd]at HD;clear hd
   by_cases h:s[k].toNat≠34∧s[k].toNat≠46∧s[k].toNat≠47
   ·rw[decide_eq_true h]
    have e34:((s[k].toNat:Int) != 34)=true:=by simp;omega
    have e46:((s[k].toNat:Int) != 46)=true:=by simp;omega
    have e47:((s[k].toNat:Int) != 47)=true:=by simp;omega
    clear h;go_enter Tryz.func163,Tryz.ntmps163;go_wp2_with fail;refine(HD.out _).mono ?_;rintro e w' ⟨rfl,rfl⟩;go_wp2_with fail;go_ret;exact⟨rfl,rfl⟩
   ·rw[decide_eq_false h]
    rcases(show s[k].toNat=34∨s[k].toNat=46∨s[k].toNat=47 by omega)with h |h |h
    ·have e34:((s[k].toNat:Int) != 34)=false:=by simp;omega
     have e46:((s[k].toNat:Int) != 46)=true:=by simp;omega
     have e47:((s[k].toNat:Int) != 47)=true:=by simp;omega
     clear h;go_enter Tryz.func163,Tryz.ntmps163;go_wp2_with fail;refine(HD.out _).mono ?_;rintro e w' ⟨rfl,rfl⟩;go_wp2_with fail;go_ret;exact⟨rfl,rfl⟩
    ·have e34:((s[k].toNat:Int) != 34)=true:=by simp;omega
     have e46:((s[k].toNat:Int) != 46)=false:=by simp;omega
     have e47:((s[k].toNat:Int) != 47)=true:=by simp;omega
     clear h;go_enter Tryz.func163,Tryz.ntmps163;go_wp2_with fail;refine(HD.out _).mono ?_;rintro e w' ⟨rfl,rfl⟩;go_wp2_with fail;go_ret;exact⟨rfl,rfl⟩
    ·have e34:((s[k].toNat:Int) != 34)=true:=by simp;omega
     have e46:((s[k].toNat:Int) != 46)=true:=by simp;omega
     have e47:((s[k].toNat:Int) != 47)=false:=by simp;omega
     clear h;go_enter Tryz.func163,Tryz.ntmps163;go_wp2_with fail;refine(HD.out _).mono ?_;rintro e w' ⟨rfl,rfl⟩;go_wp2_with fail;go_ret;exact⟨rfl,rfl⟩
 ·obtain rfl:k=s.size:=by omega
  have e:endQ (s.data.toList.drop s.size)=true:=by rw[zly];rfl
  rw[e];clear e;go_enter Tryz.func163,Tryz.ntmps163;go_wp2_with fail;go_ret;exact⟨rfl,rfl⟩
def dyK(i:Nat)(c:UInt8):Bool:=if i=4∨i=7 then decide (c.toNat=45)else dgQ c
theorem zn1{l:List UInt8}(h:10≤l.length):dayQ l=true↔∀i,i<10→dyK i (l[i]?.getD 0)=true:=by
 obtain⟨c0,c1,c2,c3,c4,c5,c6,c7,c8,c9,t,rfl⟩:=ten h;unfold dayQ;simp only[Bool.and_eq_true,decide_eq_true_eq]
 constructor
 ·rintro⟨⟨⟨⟨⟨⟨⟨⟨⟨h0,h1⟩,h2⟩,h3⟩,h4⟩,h5⟩,h6⟩,h7⟩,h8⟩,h9⟩ i hi
  match i,hi with
  |0,_=>exact h0
  |1,_=>exact h1
  |2,_=>exact h2
  |3,_=>exact h3
  |4,_=>exact decide_eq_true h4
  |5,_=>exact h5
  |6,_=>exact h6
  |7,_=>exact decide_eq_true h7
  |8,_=>exact h8
  |9,_=>exact h9
 ·intro h
  exact⟨⟨⟨⟨⟨⟨⟨⟨⟨h 0 (by omega),h 1 (by omega)⟩,h 2 (by omega)⟩,h 3 (by omega)⟩,of_decide_eq_true (h 4 (by omega))⟩,h 5 (by omega)⟩,h 6 (by omega)⟩,of_decide_eq_true (h 7 (by omega))⟩,h 8 (by omega)⟩,h 9 (by omega)⟩
def DyR(s:ByteArray)(k:Nat)(v:Value):Prop:=∃j:Nat,j≤10∧v=.int .i64 (j:Int)∧Hid (∀i,i<j→dyK i ((s.data.toList.drop k)[i]?.getD 0)=true)
theorem z42(s:ByteArray)(k j:Nat)(h:k+j<s.size):(s.data.toList.drop k)[j]?.getD 0=s[k+j]:=by
 rw[List.getElem?_drop,List.getElem?_eq_getElem (by rw[zab];exact h)];rfl
theorem z0f(s:ByteArray)(k:Nat)(w:World)(hs:s.size≤100000)(hk:k≤s.size):Calls Tryz.prog 162 #[.string s,.int .i64 (k:Int)] w (RetB w (dayQ (s.data.toList.drop k))):=by
 by_cases Z5:k+10≤s.size
 ·have aC:10≤(s.data.toList.drop k).length:=by rw[List.length_drop,zab];omega
  obtain⟨R,hR⟩:∃R,R=dayQ (s.data.toList.drop k):=⟨_,rfl⟩
  rw[←hR]
  have HT:Hid ((∀i,i<10→dyK i ((s.data.toList.drop k)[i]?.getD 0)=true)→R=true):=fun h=>by rw[hR];exact(zn1 aC).2 h
  have HF:Hid (∀i,i<10→dyK i ((s.data.toList.drop k)[i]?.getD 0)=false→R=false):=fun i hi h=>by
   rw[hR]
   cases hd:dayQ (s.data.toList.drop k)with
   |false=>rfl
   |true=>rw[(zn1 aC).1 hd i hi]at h;cases h
  clear hR aC;go_enter Tryz.func162,Tryz.ntmps162;go_wp2_with fail;go_loop [5] (fun v=>DyR s k v) (fun v=>10-(intOf v).toNat)
  case atStart=>exact⟨0,Nat.zero_le _,rfl,Z9 (fun i hi=>absurd hi (Nat.not_lt_zero _))⟩
  case round =>
   obtain⟨j,hj,rfl,HJ⟩:=hrel
   by_cases Z7:j<10
   ·have bz:k+j<s.size:=by omega
    have ZI:=Z9 (z42 s k j bz)
    have an:Hid (dyK j s[k+j]=true→∀i,i<j+1→dyK i ((s.data.toList.drop k)[i]?.getD 0)=true):=fun h i hi=>by
     by_cases e:i=j
     ·subst e;rw[ZI.out];exact h
     ·exact HJ.out i (by omega)
    have ao:Hid (dyK j s[k+j]=false→R=false):=fun h=>HF.out j Z7 (by rw[ZI.out];exact h)
    have HD:=Z9 (fun W=>zg4 s[k+j] W)
    by_cases YF:j=4∨j=7
    ·have aE:dyK j s[k+j]=decide (s[k+j].toNat=45):=by unfold dyK;rw[if_pos YF]
     rw[aE]at an ao
     by_cases YN:s[k+j].toNat=45
     ·rw[decide_eq_true YN]at an
      have t1:((s[k+j].toNat:Int) != 45)=false:=by simp;omega
      have HX:=Z9 (an.out rfl);clear YN aE an ao HD HJ
      rcases YF with rfl |rfl
      all_goals
       go_wp2_with fail;go_round
       case rel=>exact⟨_,by omega,by go_num,HX⟩
       case measure=>simp[intOf]<;>omega
     ·rw[decide_eq_false YN]at ao
      have t1:((s[k+j].toNat:Int) != 45)=true:=by simp;omega
      have bh:=ao.out rfl;subst bh;clear YN aE an ao HD HJ
      rcases YF with rfl |rfl
      all_goals
       go_wp2_with fail;go_ret;exact⟨rfl,rfl⟩
    ·have aE:dyK j s[k+j]=dgQ s[k+j]:=by unfold dyK;rw[if_neg YF]
     rw[aE]at an ao;have t4:((j:Int) == 4)=false:=by simp;omega
     have t7:((j:Int) == 7)=false:=by simp;omega
     have u4:((j:Int) != 4)=true:=by simp;omega
     have u7:((j:Int) != 7)=true:=by simp;omega
     cases hd:dgQ s[k+j]with
     |true =>
      rw[hd]at HD an;have HX:=Z9 (an.out rfl);clear hd aE an ao HJ YF;go_wp2_with fail;refine(HD.out _).mono ?_;rintro e w' ⟨rfl,rfl⟩;go_wp2_with fail;go_round
      case rel=>exact⟨j+1,by omega,by go_num,HX⟩
      case measure=>simp[intOf]<;>omega
     |false =>
      rw[hd]at HD ao;have bh:=ao.out rfl;subst bh;clear hd aE an ao HJ YF;go_wp2_with fail;refine(HD.out _).mono ?_;rintro e w' ⟨rfl,rfl⟩;go_wp2_with fail;go_ret;exact⟨rfl,rfl⟩
   ·obtain rfl:j=10:=by omega
    have bA:=HT.out HJ.out;subst bA;clear HJ;go_wp2_with fail;go_ret;exact⟨rfl,rfl⟩
 ·have e:dayQ (s.data.toList.drop k)=false:=by
   cases hd:dayQ (s.data.toList.drop k)with
   |false=>rfl
   |true=>have:=zgc hd;rw[List.length_drop,zab]at this;omega
  rw[e];clear e;go_enter Tryz.func162,Tryz.ntmps162;go_wp2_with fail;go_ret;exact⟨rfl,rfl⟩
def trL:List UInt8→List UInt8
 |c :: d :: l=>if c=48 then trL (d :: l)else c :: d :: l
 |l=>l
theorem z5c{l:List UInt8}(hl:l≠[])(hd:∀c ∈ l,dgQ c=true):trL l=txtN (numV l):=by
 have dg:∀m:List UInt8,(∀c ∈ m,dgQ c=true)→∀c ∈ m,48≤c.toNat∧c.toNat≤57:=fun m h c hc=>by
  have:=h c hc;unfold dgQ at this;simpa using this
 induction l with
 |nil=>exact absurd rfl hl
 |cons c l ih =>
  cases l with
  |nil =>
   have hc:CanN [c]:=⟨by simp,dg _ hd,fun _=>rfl⟩;rw[zcs,zbt _ hc];rfl
  |cons d l =>
   by_cases h:c=48
   ·subst h
    rw[zm7]
    show(if (48:UInt8)=48 then trL (d :: l)else _)=_
    rw[if_pos rfl];exact ih (by simp) (fun x hx=>hd x (List.mem_cons_of_mem _ hx))
   ·have hc:CanN (c :: d :: l):=⟨by simp,dg _ hd,fun e=>by simp at e;exact absurd e h⟩
    rw[zcs,zbt _ hc]
    show(if c=48 then trL (d :: l)else c :: d :: l)=_
    rw[if_neg h]
def z5f(v:Value):Nat:=match v with | .string t=>t.size |_=>0
def TrR(F:List UInt8)(v:Value):Prop:=∃t:ByteArray,t.size≤100000∧v=.string t∧Hid (trL t.data.toList=F)
def z7s(w:World)(l:List UInt8)(e:Ending)(w':World):Prop:=e=.returned (.string ⟨l.toArray⟩)∧w=w'
theorem zl2{t:ByteArray}{l:List UInt8}(h:t.data.toList=l):t=⟨l.toArray⟩:=Go.WideShapes.bytes_inj h
theorem z2g(s:ByteArray)(w:World)(hs:s.size≤100000):Calls Tryz.prog 220 #[.string s] w (z7s w (trL s.data.toList)):=by
 obtain⟨F,hF⟩:∃F,F=trL s.data.toList:=⟨_,rfl⟩
 rw[←hF];have HF:=Z9 hF.symm;clear hF;go_enter Tryz.func220,Tryz.ntmps220;go_wp2_with fail;go_loop [0] (fun v=>TrR F v) (fun v=>z5f v)
 case atStart=>exact⟨s,hs,rfl,HF⟩
 case round =>
  obtain⟨t,ht,rfl,HT⟩:=hrel
  by_cases h1:1<t.size
  ·obtain⟨c,d,l,hl⟩:∃c d l,t.data.toList=c :: d :: l:=by
    have:=zab t
    rcases e:t.data.toList with _ |⟨c,_ |⟨d,l⟩⟩
    ·rw[e]at this;simp at this;omega
    ·rw[e]at this;simp at this;omega
    ·exact⟨c,d,l,rfl⟩
   have hc:t[0]=c:=by
    have:=zfe t 0 (by omega);rw[List.drop_zero,hl]at this
    injection this with a _;exact a.symm
   by_cases WH:t[0].toNat=48
   ·have t1:((t[0].toNat:Int) == 48)=true:=by simp;omega
    have HX:Hid (trL (t.extract 1 t.size).data.toList=F):=by
     rw[zcb,hl,List.take_of_length_le (by simp;have:=zab t;rw[hl]at this;simp at this;omega)];have e:=HT.out;rw[hl]at e;have c48:c=48:=by rw[←hc,←UInt8.toNat_inj];exact WH
     show trL (d :: l)=F
     rw[←e]
     show _=if c=48 then trL (d :: l)else _
     rw[if_pos c48]
    have Zo:(t.extract 1 t.size).size=t.size-1:=by simp
    have bs:=Z9 Zo;clear hl hc WH Zo HT;go_wp2_with fail;go_round
    case rel=>exact⟨_,by have:=bs.out;omega,rfl,HX⟩
    case measure=>show(t.extract 1 t.size).size<t.size;have:=bs.out;omega
   ·have t1:((t[0].toNat:Int) == 48)=false:=by simp;omega
    have HX:Hid (t=⟨F.toArray⟩):=zl2 (by
     have e:=HT.out;rw[hl]at e ⊢;rw[←e]
     show _=if c=48 then trL (d :: l)else _
     rw[if_neg (fun h=>WH (by rw[hc,h];rfl))])
    clear hl hc WH HT;go_wp2_with fail;go_ret;exact⟨by rw[←HX.out];rfl,rfl⟩
  ·have HX:Hid (t=⟨F.toArray⟩):=zl2 (by
    have e:=HT.out;have hl:=zab t
    rcases e2:t.data.toList with _ |⟨c,_ |⟨d,l⟩⟩
    ·rw[e2]at e;exact e
    ·rw[e2]at e;exact e
    ·rw[e2]at hl;simp at hl;omega)
   clear HT;go_wp2_with fail;go_ret;exact⟨by rw[←HX.out];rfl,rfl⟩
def PluR(w:World)(la lb:List Nat)(n:Nat)(o b i:Value)(wr:World):Prop :=
 ∃(k br:Nat)(out:List Nat),k≤n∧i=.int .i64 k∧b=.int .i64 br∧wr.ownsRow w.heap.size 3 1 o k (nums .i64 out)∧zhr la lb out k br∧Below w.heap.size w wr
theorem z4n(a b:Option Addr)(n m c d:Nat)(la lb:List Nat)(w:World)(Zt:la.length=n)(ZC:lb.length=m)(hn:n≤900000)(hm:m≤900000)
 (da:∀x ∈ la,x<10) (db:∀x ∈ lb,x<10) (ha:Nums .i64 w a la) (hb:Nums .i64 w b lb) (XA:n<m) :
 Calls Tryz.prog 255 #[.slice a n c,.slice b m d] w (zj0 .i64 3 w fun l=>l.length=m+1∧(∀x ∈ l,x<10)∧dval l=dval la+dval lb):=by
 obtain⟨i0,hi,ZN,ZO,ZD⟩:=info_parts zgl;have aX:=Z9 Zt;have HA:=Z9 ha;have HB:=Z9 hb;have DA:=Z9 da;have DB:=Z9 db;have aW:=Z9 ZC;clear Zt ZC ha hb da db;go_enter Tryz.func255,Tryz.ntmps255;go_wp2_with fail;go_loopw [5,6,7] (PluR w la lb (m+1)) (fun _ _ i _=>m+1-(intOf i).toNat)
 case atStart=>exact⟨0,0,[],Nat.zero_le _,rfl,rfl,World.ownsRow_nil _ _ _ _,zjl _ _,Below.refl _ _⟩
 case round =>
  obtain⟨k,br,out,hk,rfl,rfl,ho,ZB,Zu⟩:=hrel;have HO:=Z9 ho;have HT:=Z9 ZB;have ag:=Z9 Zu;clear ho ZB Zu
  by_cases Z7:k≤m
  ·obtain⟨x,hx⟩:∃x,x=la.getD k 0:=⟨_,rfl⟩
   obtain⟨y,hy⟩:∃y,y=lb.getD k 0:=⟨_,rfl⟩
   have cA:=zg9 a n c k la wr aX.out (by omega) (HA.out.below ag.out);have cB:=zg9 b m d k lb wr aW.out (by omega) (HB.out.below ag.out);rw[←hx]at cA;rw[←hy]at cB;have bc:x<10:=by rw[hx];exact zcl la k DA.out
   have bb:y<10:=by rw[hy];exact zcl lb k DB.out
   have XK:br≤1:=HT.out.2.2.1;have st:=zkn la lb out k br DA.out DB.out HT.out;rw[←hx,←hy]at st;obtain⟨z,hz⟩:∃z,z=(x+y+br) % 10:=⟨_,rfl⟩
   obtain⟨z',aM⟩:∃z',z'=(x+y+br) / 10:=⟨_,rfl⟩
   rw[←hz,←aM]at st;have CA:=Z9 cA;have CB:=Z9 cB;have ST:=Z9 st;clear hx hy cA cB st;have w1:IntKind.i64.wrap ((x:Int)+(y:Int))=(x:Int)+(y:Int):=by rw[IntKind.wrap_i64];omega
   have w2:IntKind.i64.wrap ((x:Int)+(y:Int)+(br:Int))=(x:Int)+(y:Int)+(br:Int):=by rw[IntKind.wrap_i64];omega
   have w3:((x:Int)+(y:Int)+(br:Int)).tmod 10=(z:Int):=by rw[Int.tmod_eq_emod_of_nonneg (by omega)];omega
   have w4:((x:Int)+(y:Int)+(br:Int)).tdiv 10=(z':Int):=by rw[Int.tdiv_eq_ediv_of_nonneg (by omega)];omega
   have ba:z<10:=by omega
   have a9:z'<10:=by omega
   clear hz aM;have bl:=HO.out;have bj:=HT.out;go_wp2_with fail;refine CA.out.mono ?_;rintro e w' ⟨rfl,rfl⟩;go_wp2_with fail;refine CB.out.mono ?_;rintro e w' ⟨rfl,rfl⟩;clear bl bj;go_wp2_with (at_builtin;refine zas _ rfl (.tmp 27) (.tmp 30) 37 rfl w.heap.size 3 i0 (.int .i64 0) 8 Tryz.underlying37 hi ZN ZO ZD rfl _ _ _ rfl (HO.out.alloc _) ⟨wr.heap.size,0,none⟩ 1 (.int .i64 z) rfl ?c1 rfl ?c3 ?c4 ?c5 ?_)
   case c1=>simp
   case c3=>unfold maxLen;omega
   case c4=>omega
   case c5=>have:=ag.out.size;simp;omega
   intro v1 w1 Zg Ze YT YL;have n1:Below w.heap.size w w1:=(ag.out.alloc ag.out.size _).grown Ze (by have:=ag.out.size;simp;omega) (fun k hk=>(HO.out.lt k hk).1);rw[zbo]at Zg;have bk:=Z9 Zg;have N1:=Z9 n1;clear Zg n1 Ze YT YL;go_wp2_with fail;go_roundw
   case rel=>exact⟨k+1,z',out ++ [z],by omega,by go_num,rfl,bk.out,ST.out,N1.out⟩
   case measure=>simp[intOf]<;>omega
  ·obtain rfl:k=m+1:=by omega
   have hv:=zns la lb out (m+1) br DA.out DB.out (by rw[aX.out];omega) (by rw[aW.out];omega) HT.out;have HV:=Z9 hv;clear hv;go_wp2_with fail;go_ret;have ho:=HO.out;rw[←HT.out.1]at ho;exact⟨_,out,rfl,ho,⟨HT.out.1,HT.out.2.1,HV.out⟩,ag.out⟩
theorem z4o(a b:Option Addr)(n m c d:Nat)(la lb:List Nat)(w:World)(Zt:la.length=n)(ZC:lb.length=m)(hn:n≤900000)(hm:m≤900000)
 (da:∀x ∈ la,x<10) (db:∀x ∈ lb,x<10) (ha:Nums .i64 w a la) (hb:Nums .i64 w b lb) (XA:m≤n) :
 Calls Tryz.prog 255 #[.slice a n c,.slice b m d] w (zj0 .i64 3 w fun l=>l.length=n+1∧(∀x ∈ l,x<10)∧dval l=dval la+dval lb):=by
 obtain⟨i0,hi,ZN,ZO,ZD⟩:=info_parts zgl;have aX:=Z9 Zt;have HA:=Z9 ha;have HB:=Z9 hb;have DA:=Z9 da;have DB:=Z9 db;have aW:=Z9 ZC;clear Zt ZC ha hb da db;go_enter Tryz.func255,Tryz.ntmps255;go_wp2_with fail;go_loopw [5,6,7] (PluR w la lb (n+1)) (fun _ _ i _=>n+1-(intOf i).toNat)
 case atStart=>exact⟨0,0,[],Nat.zero_le _,rfl,rfl,World.ownsRow_nil _ _ _ _,zjl _ _,Below.refl _ _⟩
 case round =>
  obtain⟨k,br,out,hk,rfl,rfl,ho,ZB,Zu⟩:=hrel;have HO:=Z9 ho;have HT:=Z9 ZB;have ag:=Z9 Zu;clear ho ZB Zu
  by_cases Z7:k≤n
  ·obtain⟨x,hx⟩:∃x,x=la.getD k 0:=⟨_,rfl⟩
   obtain⟨y,hy⟩:∃y,y=lb.getD k 0:=⟨_,rfl⟩
   have cA:=zg9 a n c k la wr aX.out (by omega) (HA.out.below ag.out);have cB:=zg9 b m d k lb wr aW.out (by omega) (HB.out.below ag.out);rw[←hx]at cA;rw[←hy]at cB;have bc:x<10:=by rw[hx];exact zcl la k DA.out
   have bb:y<10:=by rw[hy];exact zcl lb k DB.out
   have XK:br≤1:=HT.out.2.2.1;have st:=zkn la lb out k br DA.out DB.out HT.out;rw[←hx,←hy]at st;obtain⟨z,hz⟩:∃z,z=(x+y+br) % 10:=⟨_,rfl⟩
   obtain⟨z',aM⟩:∃z',z'=(x+y+br) / 10:=⟨_,rfl⟩
   rw[←hz,←aM]at st;have CA:=Z9 cA;have CB:=Z9 cB;have ST:=Z9 st;clear hx hy cA cB st;have w1:IntKind.i64.wrap ((x:Int)+(y:Int))=(x:Int)+(y:Int):=by rw[IntKind.wrap_i64];omega
   have w2:IntKind.i64.wrap ((x:Int)+(y:Int)+(br:Int))=(x:Int)+(y:Int)+(br:Int):=by rw[IntKind.wrap_i64];omega
   have w3:((x:Int)+(y:Int)+(br:Int)).tmod 10=(z:Int):=by rw[Int.tmod_eq_emod_of_nonneg (by omega)];omega
   have w4:((x:Int)+(y:Int)+(br:Int)).tdiv 10=(z':Int):=by rw[Int.tdiv_eq_ediv_of_nonneg (by omega)];omega
   have ba:z<10:=by omega
   have a9:z'<10:=by omega
   clear hz aM;have bl:=HO.out;have bj:=HT.out;go_wp2_with fail;refine CA.out.mono ?_;rintro e w' ⟨rfl,rfl⟩;go_wp2_with fail;refine CB.out.mono ?_;rintro e w' ⟨rfl,rfl⟩;clear bl bj;go_wp2_with (at_builtin;refine zas _ rfl (.tmp 27) (.tmp 30) 37 rfl w.heap.size 3 i0 (.int .i64 0) 8 Tryz.underlying37 hi ZN ZO ZD rfl _ _ _ rfl (HO.out.alloc _) ⟨wr.heap.size,0,none⟩ 1 (.int .i64 z) rfl ?c1 rfl ?c3 ?c4 ?c5 ?_)
   case c1=>simp
   case c3=>unfold maxLen;omega
   case c4=>omega
   case c5=>have:=ag.out.size;simp;omega
   intro v1 w1 Zg Ze YT YL;have n1:Below w.heap.size w w1:=(ag.out.alloc ag.out.size _).grown Ze (by have:=ag.out.size;simp;omega) (fun k hk=>(HO.out.lt k hk).1);rw[zbo]at Zg;have bk:=Z9 Zg;have N1:=Z9 n1;clear Zg n1 Ze YT YL;go_wp2_with fail;go_roundw
   case rel=>exact⟨k+1,z',out ++ [z],by omega,by go_num,rfl,bk.out,ST.out,N1.out⟩
   case measure=>simp[intOf]<;>omega
  ·obtain rfl:k=n+1:=by omega
   have hv:=zns la lb out (n+1) br DA.out DB.out (by rw[aX.out];omega) (by rw[aW.out];omega) HT.out;have HV:=Z9 hv;clear hv;go_wp2_with fail;go_ret;have ho:=HO.out;rw[←HT.out.1]at ho;exact⟨_,out,rfl,ho,⟨HT.out.1,HT.out.2.1,HV.out⟩,ag.out⟩
theorem zw4(a b:Option Addr)(n m c d:Nat)(la lb:List Nat)(w:World)(Zt:la.length=n)(ZC:lb.length=m)(hn:n≤900000)(hm:m≤900000)
 (da:∀x ∈ la,x<10) (db:∀x ∈ lb,x<10) (ha:Nums .i64 w a la) (hb:Nums .i64 w b lb) :
 Calls Tryz.prog 255 #[.slice a n c,.slice b m d] w (zj0 .i64 3 w fun l=>l.length=max n m+1∧(∀x ∈ l,x<10)∧dval l=dval la+dval lb):=by
 rcases Nat.lt_or_ge n m with h |h
 ·rw[show max n m=m by omega];exact z4n a b n m c d la lb w Zt ZC hn hm da db ha hb h
 ·rw[show max n m=n by omega];exact z4o a b n m c d la lb w Zt ZC hn hm da db ha hb h
def z1d(w:World)(z:Int)(e:Ending)(w':World):Prop :=
 ∃a n c,e=.returned (.tuple #[.slice a n c,.bool (decide (z<0)),.bool true])∧(decN z.natAbs).length=n∧n≤c∧Nums .i64 w' a (decN z.natAbs)∧Below w.heap.size w w'
theorem zeq(s:ByteArray)(z:Int)(w:World)(hs:s.size≤1000000)(h:s.data.toList=txtZ z):Calls Tryz.prog 175 #[.string s] w (z1d w z) :=
 (zdm s w hs).mono fun e w' hp=>by
  rcases hp with⟨y,a,n,c,e1,e2,e3,e4,e5,e6⟩ |⟨e1,_⟩
  ·rw[h,zcy]at e1;injection e1 with e1;subst e1
   exact⟨a,n,c,e2,e3,e4,e5,e6⟩
  ·rw[h,zcy]at e1;cases e1
theorem zin{x y:Int}(bx:bigZ x=false)(byy:bigZ y=false):zp7 (txtZ x) (txtZ y)=0:=by
 unfold zp7;rw[zbx,zbx,bx,byy];rfl
end Go.Proofs.YtkobkpepgdddeaaGreatDoor
