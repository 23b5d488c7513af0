/-
  The reader's sum walked. No condition.
-/
import Derived.Test.YtkobkpepgdddeaaGreatDoorZak
import Derived.Maps.Own
import Derived.Test.YtkobkpepgdddeaaGreatDoorZah
namespace Go.Proofs.YtkobkpepgdddeaaGreatDoor
open Go.RowKit
set_option maxHeartbeats 16000000
set_option maxRecDepth 100000
structure SumR(rb n0 N:Nat)(F:RdX)(GR:Rd Ex)(B:Nat)(w:World)(k:Nat)(s:Int)(t0 t1 t2 t3 t4:Value)(l:List Tk)(wr:World):Prop where
 at_:FAt rb B w wr l
 tot:wr.heap[B+1]?=some (.cells #[t0,t1,t2,t3,t4] 25)
 sign:s=0∨s=4∨s=5
 len:l.length=k
 le:k≤n0
 leN:k≤N
 rest:∃(a m:Nat)(tx:Ex),k≤a∧(s=0∨ExOn (Rg B (B+1) wr) m wr [t0,t1,t2,t3,t4] tx)∧GR=(zbj F N l).bind fun y l=>tAdd F N a (comb s tx y) l
structure TermR(rb n0 KO N:Nat)(F:RdX)(R:Rd Ex)(B bx:Nat)(w:World)(k:Nat)(t0 t1 t2 t3 t4:Value)(s:Int)(tx:Ex)(x:Ex)(xa:Option Addr)(xl xc:Nat)(l:List Tk)(wr:World):Prop where
 at_:FAt rb B w wr l
 tot:wr.heap[B+1]?=some (.cells #[t0,t1,t2,t3,t4] 25)
 tex:s=0∨∃m,ExOn (Rg B bx wr) m wr [t0,t1,t2,t3,t4] tx
 box:wr.heap[bx]?=some (.cells #[.int .u8 x.kind,.string x.rat,.string x.name,.int .i64 x.date,.slice xa xl xc] 25)
 ex:∃m,ExOn (Rg B bx wr) m wr [.int .u8 x.kind,.string x.rat,.string x.name,.int .i64 x.date,.slice xa xl xc] x
 bxl:B+2≤bx
 len:l.length=k
 le:k≤n0
 lt:k<KO
 rest:∃c,k<c∧R=zgr F c x l
theorem z5e{rb n0:Nat}(S T:RdX)(hp:zhq rb n0 S T)(cS:∀l,(S l).Cons l)(cT:∀l,(T l).Cons l)(N:Nat)(w:World)(l:List Tk)(h:RAt rb w l)(hl:l.length≤n0)(hN:l.length≤N) :
 Calls Tryz.prog 64 #[.pointer (some ⟨rb,0,none⟩)] w (zbk (VEx w.heap.size) rb w (tSum (zbv S T) N l)):=by
 obtain⟨F,hF⟩:∃F,F=zbv S T:=⟨_,rfl⟩
 have HFC:Hid (∀W l,RAt rb W l→l.length≤n0→Calls Tryz.prog 113 #[.pointer (some ⟨rb,0,none⟩)] W (zbk (VEx W.heap.size) rb W (F l))):=Z9 (fun W l hW hl=>by rw[hF];exact ztm S T hp cS cT W l hW hl);have HCF:Hid (∀l,(F l).Cons l):=Z9 (fun l=>by rw[hF];exact zd3 S T cS cT l);rw[←hF];have HIS:=Z9 (fun s W l (hW:RAt rb W l)=>zjf rb 5 s W l hW);have HR:=Z9 h;have ZH:=h.lt;have HLE:=Z9 (And.intro hl hN);obtain⟨GR,ZK⟩:∃GR,GR=tSum F N l:=⟨_,rfl⟩
 rw[←ZK];have HGR:Hid (GR=(zbj F N l).bind fun y l=>tAdd F N N (comb 0 default y) l):=Z9 ZK;clear h hl hN hp cS cT hF ZK;go_enter Tryz.func64,Tryz.ntmps64;go_wp2_with fail;go_step3;go_wp2_with fail;go_step3;go_wp2_with fail;obtain⟨B,Yf⟩:∃B,B=w.heap.size:=⟨_,rfl⟩
 obtain⟨W0,Z3⟩:∃W0,W0=(w.alloc zC).alloc zC:=⟨_,rfl⟩
 have ZO:W0.heap[B+1]?=some zC:=by
  have:=heap_alloc_new (w.alloc zC) zC;rw[World.size_alloc,←Yf,←Z3]at this;exact this
 have YO:FAt rb B w W0 l:=by rw[Z3,Yf];exact(FAt.start HR.out).alloc _
 have HS0:Hid (SumR rb n0 N F GR B w l.length 0 (.int .u8 0) (.string ⟨#[]⟩) (.string ⟨#[]⟩) (.int .i64 0) (.slice none 0 0) l W0):=Z9 ⟨YO,ZO,.inl rfl,rfl,HLE.out.1,HLE.out.2,N,0,default,HLE.out.2,.inl rfl,HGR.out⟩;change Code.wp _ _ _ _ ((w.alloc zC).alloc zC);rw[←Z3];rw[←Yf]at ZH ⊢;have HBB:=Z9 Yf;clear ZO YO Z3 Yf HGR HLE HR;go_loopg [4] l.length (fun k sv wr=>∃(s:Int)(t0 t1 t2 t3 t4:Value)(l':List Tk),sv=.int .u8 s∧Hid (SumR rb n0 N F GR B w k s t0 t1 t2 t3 t4 l' wr))
 case atStart=>exact⟨0,_,_,_,_,_,l,rfl,HS0⟩
 case round =>
  obtain⟨w1,rfl⟩:∃w1:World,w1=wr:=⟨_,rfl⟩
  obtain⟨s,t0,t1,t2,t3,t4,l',rfl,WX⟩:=hrel;clear HS0;obtain⟨K,hK⟩:∃K,K=gk:=⟨_,rfl⟩
  go_wp2_with fail;refine(HFC.out _ l' WX.out.at_.rd (by rw[WX.out.len];exact WX.out.le)).mono ?_
  cases hq:F l' with
  |no lq =>
   obtain⟨a,m,tx,_,_,ZK⟩:=WX.out.rest;have E:GR=.no lq:=by rw[ZK];unfold zbj;rw[hq];rfl
   rintro e u ⟨rfl,hr,hg⟩;exact⟨rfl,zbm E ⟨rfl,hr,(WX.out.at_.call hg hr).grown⟩⟩
  |ok x l1 =>
   rintro e u ⟨vv,rfl,⟨mm,xa,xl,xc,rfl,hx⟩,hr,hg⟩;obtain⟨a,m,tx,SF,Zz,ZK⟩:=WX.out.rest;obtain⟨R,hR⟩:∃R,R=zbj F N l':=⟨_,rfl⟩
   have hRp:R=zgr F N x l1:=by rw[hR];unfold zbj;rw[hq];rfl
   have Z7:=(HCF.out l').lt hq;rw[WX.out.len]at Z7;rw[←hR]at ZK;obtain⟨bx,ZZ⟩:∃bx,bx=u.heap.size:=⟨_,rfl⟩
   have hB2:B+2≤w1.heap.size:=by have:=(Z8 WX.out.tot);omega
   have Uu:Hid (TermR rb n0 K N F R B bx w l1.length t0 t1 t2 t3 t4 s tx x xa xl xc l1 (u.alloc (.cells #[.int .u8 x.kind,.string x.rat,.string x.name,.int .i64 x.date,.slice xa xl xc] 25))):=by
    have T3:=World.grownBy_alloc u (.cells #[.int .u8 x.kind,.string x.rat,.string x.name,.int .i64 x.date,.slice xa xl xc] 25) (some rb);refine Z9 ⟨(WX.out.at_.call hg hr).alloc _,zao (zao WX.out.tot hg (by omega)) T3 (by omega),?_,by rw[ZZ];exact heap_alloc_new u _,⟨mm,?_⟩,by have:=hg.size;omega,rfl,by have:=WX.out.le;omega,by omega,N,by have:=WX.out.leN;omega,hRp⟩
    ·rcases Zz with h0 |h1
     ·exact .inl h0
     ·right
      refine⟨m,zbg (zbg ?_ hg ZH) T3 ZH⟩
      exact h1.mono fun g ⟨g1,g2,_⟩=>⟨g1,g2,by have:=hg.size;omega⟩
    ·exact(zbg (z5i hx hB2 (by omega)) T3 ZH)
   have HG:=Z9 (And.intro ZK (And.intro SF Z7));rw[ZZ]at Uu;clear hx hr hg ZK SF Zz hRp hq hR Z7 hB2 ZZ;go_wp2_with fail;go_loopg [9] l1.length (fun k _ wr=>∃(x:Ex)(xa:Option Addr)(xl xc:Nat)(l2:List Tk),Hid (TermR rb n0 K N F R B u.heap.size w k t0 t1 t2 t3 t4 s tx x xa xl xc l2 wr))
   case atStart=>exact⟨x,xa,xl,xc,l1,Uu⟩
   case round =>
    obtain⟨w2,rfl⟩:∃w2:World,w2=wr:=⟨_,rfl⟩
    obtain⟨x,xa,xl,xc,l2,Zp⟩:=hrel;clear Uu;go_wp2_with fail;refine(HIS.out ⟨#[42]⟩ _ l2 Zp.out.at_.rd).mono ?_;change ∀e u',BelB w2 (tIs 5 [42] l2) e u'→_
    cases hs:tIs 5 [42] l2 with
    |true =>
     obtain⟨t,r,rfl⟩:=zb2 hs;rintro e u3 ⟨rfl,hb⟩;have HT3:=Z9 (Zp.out.at_.below hb);have Z0:=hb;go_wp2_with fail;refine(zbl rb _ t r HT3.out.rd).mono ?_;rintro e u4 ⟨v4,rfl,rfl,hr,hg⟩;have hg24:=Lib.grownBy_trans (zan (rb:=rb) (zah Z0)) hg;have HT4:=Z9 (HT3.out.call hg hr);have htot4:=zao Zp.out.tot hg24 (by omega);have hbox4:=zao Zp.out.box hg24 (by have:=Zp.out.bxl;omega);have HTOT:=Z9 htot4;have HBOX:=Z9 hbox4;obtain⟨m4,hm4⟩:=Zp.out.ex;have HEX:=Z9 (zbg hm4 hg24 ZH);have HTEX:Hid (s=0∨∃m,ExOn (Rg B u.heap.size u4) m u4 [t0,t1,t2,t3,t4] tx):=Z9 (Zp.out.tex.imp id fun⟨m,hm⟩=>⟨m,zbg hm hg24 ZH⟩);obtain⟨q0,q1,q2,q3,q4⟩:=zae hbox4
     have hrbx:rb<u.heap.size:=Nat.lt_trans ZH (by have:=Zp.out.bxl;omega);have hbxl:=(Z8 hbox4);have hru4:rb<u4.heap.size:=hr.lt;have hlr:r.length<gk:=by have:=Zp.out.len;rw[List.length_cons]at this;omega
     have hlr0:r.length≤n0:=by have:=Zp.out.le;omega
     have HRr:=Z9 hr;obtain⟨c,T5,Us⟩:=Zp.out.rest;have hRc2:∃c',c=c'+1:=⟨c-1,by omega⟩
     obtain⟨c',rfl⟩:=hRc2
     have hRr:R=(F r).bind fun y l=>zgr F c' (tEx2 6 x y) l:=by
      rw[Us]
      show(if tIs 5 [42] (t :: r)=true then _ else _)=_
      rw[hs,if_pos rfl];rfl
     have hHC:=HFC.out u4.drew r (hr.below (Below.refl _ _).drew) hlr0;have HHC:=Z9 hHC;have HRR:=Z9 hRr;have HKC:=Z9 (And.intro T5 hlr);clear hb Z0 hr hg hg24 htot4 hbox4 hm4 hHC hRr Us T5 hs
     cases Zb:F r with
     |no lq =>
      have E:GR=.no lq:=by rw[HG.out.1,HRR.out,Zb];rfl
      have HE:=Z9 E;rw[Zb]at HHC;clear E Zb;go_wp2_with fail;refine wp_region_any (by kernel_rfl) ?_;change wpAny _ _ _ _ _ _ _ (World.drew _);refine wpAny_take (i:=1) (v := ?_) rfl (by kernel_rfl) (by kernel_rfl) (by kernel_rfl) (fun _ _ _ h=>h) (Or.inl ⟨by rfl,?hyP⟩) ?restP
      case hyP=>(intro w;go_simp<;>with_reducible rfl)
      refine wpAny_ready (rs:=[0,2]) (by kernel_rfl) (by simp) ?_;refine AllReady.cons rfl (fun K hK => ?_) ?_
      ·go_simp
       refine hK _ _ ?_;clear hK K;refine wpAny_ready (rs:=[2]) (by kernel_rfl) (by simp) ?_;refine AllReady.cons rfl (fun K hK => ?_) AllReady.nil;go_simp;refine HHC.out.mono ?_;rintro e u5 ⟨rfl,hr,hg⟩;exact⟨rfl,zbm HE.out ⟨rfl,hr,(HT4.out.call (u':=u5) ⟨hg.os,hg.tape,hg.output,hg.size,hg.block⟩ hr).grown⟩⟩
      ·refine AllReady.cons rfl (fun K hK => ?_) AllReady.nil
       go_simp;refine HHC.out.mono ?_;rintro e u5 ⟨rfl,hr,hg⟩;exact⟨rfl,zbm HE.out ⟨rfl,hr,(HT4.out.call (u':=u5) ⟨hg.os,hg.tape,hg.output,hg.size,hg.block⟩ hr).grown⟩⟩
     |ok y l3 =>
      have HRY:Hid (R=zgr F c' (tEx2 6 x y) l3):=Z9 (by rw[HRR.out,Zb];rfl);have HL3:=Z9 ((HCF.out r).lt Zb);rw[Zb]at HHC;clear Zb;go_wp2_with fail
      go_region_law (first
       |(go_simp;refine HHC.out.mono ?_;rintro e u5 ⟨vv,rfl,⟨mm,ya,yl,yc,rfl,hy⟩,XQ,Y8⟩;have HY:=Z9 hy;have HU5:=Z9 (HT4.out.call (u':=u5) ⟨Y8.os,Y8.tape,Y8.output,Y8.size,Y8.block⟩ XQ);have hbox5:=zao HBOX.out (u:=u5) ⟨Y8.os,Y8.tape,Y8.output,Y8.size,Y8.block⟩ (Nat.ne_of_lt hrbx);have htot5:=zao HTOT.out (u:=u5) ⟨Y8.os,Y8.tape,Y8.output,Y8.size,Y8.block⟩ (by omega);obtain⟨p0,p1,p2,p3,p4⟩:=zae hbox5;have fp:∀i,u5.frozen? ⟨u.heap.size,i,none⟩=false:=Lib.frozen_of_heap hbox5;have hbxl5:=(Z8 hbox5);have HBOX5:=Z9 hbox5;have HTOT5:=Z9 htot5;have HG5:Hid (u4.grownBy u5 (some rb)):=Z9 ⟨Y8.os,Y8.tape,Y8.output,Y8.size,Y8.block⟩;clear hy XQ Y8 hbox5 htot5))
      all_goals
       have HNEW:=Z9 (zuh Zp.out.bxl HU5.out HBB.out HBOX5.out HTOT5.out HTEX.out ⟨_,HEX.out⟩ HG5.out ⟨_,HY.out⟩ hbxl);clear HY HU5 HBOX5 HTOT5 HG5;go_wp2_with fail;obtain⟨W',hW',ha,hb,hc,hd,he⟩:=HNEW.out;rw[←hW'];go_roundg l3.length
       case measure=>have:=HL3.out;have:=HKC.out.2;omega
       case rel=>exact⟨tEx2 6 x y,_,_,_,l3,Z9 ⟨ha,hb,hc,hd,he,Zp.out.bxl,rfl,by have:=HL3.out;omega,by have:=HL3.out;have:=Zp.out.lt;have:=HKC.out;omega,c',by have:=HL3.out;have:=HKC.out;omega,HRY.out⟩⟩
    |false =>
     rintro e u3 ⟨rfl,hb⟩;have HT3:=Z9 (Zp.out.at_.below hb);have Ya:=zan (rb:=rb) (zah hb);have hbxr:rb≠u.heap.size:=by have:=Zp.out.bxl;omega
     have htot3:=zao Zp.out.tot Ya (by omega:rb≠B+1);have hbox3:=zao Zp.out.box Ya hbxr;obtain⟨m3,Tb⟩:=Zp.out.ex;have hex3:=zbg Tb Ya ZH
     have htex3:s=0∨∃m,ExOn (Rg B u.heap.size u3) m u3 [t0,t1,t2,t3,t4] tx:=Zp.out.tex.imp id fun⟨m,hm⟩=>⟨m,zbg hm Ya ZH⟩
     obtain⟨c,T5,Us⟩:=Zp.out.rest
     have hR2:R=.ok x l2:=by
      obtain⟨c',rfl⟩:∃c',c=c'+1:=⟨c-1,by omega⟩
      rw[Us]
      show(if tIs 5 [42] l2=true then _ else _)=_
      rw[hs,if_neg (by decide)]
     have hkl:=Zp.out.lt;have SF:=HG.out.2.1;have UC:=WX.out.le;have hkN:=WX.out.leN;obtain⟨a',rfl⟩:∃a',a=a'+1:=⟨a-1,by omega⟩
     have hGA:GR=tAdd F N (a'+1) (comb s tx x) l2:=by rw[HG.out.1,hR2];rfl
     have hHT1:B+1<u3.heap.size:=(Z8 htot3);have hHT2:u.heap.size<u3.heap.size:=(Z8 hbox3);obtain⟨q0,q1,q2,q3,q4⟩:=zae hbox3;obtain⟨p0,p1,p2,p3,p4⟩:=zae htot3;have fp:∀i,u3.frozen? ⟨B+1,i,none⟩=false:=Lib.frozen_of_heap htot3
     rcases Classical.em (s=0)with Yr |Yr
     ·subst Yr
      have HB1:=Z9 (box1 HT3.out (Nat.le_of_eq HBB.out.symm) (Nat.lt_succ_self B) htot3 (zo4 hex3 (Nat.lt_succ_self (B+1))));have HGA:Hid (GR=tAdd F N (a'+1) x l2):=Z9 (by rw[hGA];rfl);clear hb Ya hbxr htot3 hbox3 Tb hex3 htex3 T5 Us hR2 hs hGA;go_wp2_with fail;obtain⟨WT,TJ,hA,TH,hE,_⟩:=HB1.out;rw[←TJ];have HA:=Z9 hA;have HTB:=Z9 TH;have HEX2:Hid (∃m,ExOn (Rg B (B+1) WT) m WT [.int .u8 x.kind,.string x.rat,.string x.name,.int .i64 x.date,.slice xa xl xc] x):=Z9 ⟨_,hE⟩;clear TJ hA TH hE HB1 p0 p1 p2 p3 p4 q0 q1 q2 q3 q4 fp;refine(HIS.out ⟨#[43]⟩ WT l2 HA.out.rd).mono ?_;change ∀e u',BelB WT (tIs 5 [43] l2) e u'→_
      cases Y9:tIs 5 [43] l2 with
      |true =>
       obtain⟨t,r,rfl⟩:=zb2 Y9;rintro e u6 ⟨rfl,hb⟩;have HA6:=Z9 (HA.out.below hb);have hTB6:=zao HTB.out (zan (rb:=rb) (zah hb)) (by omega);have HEX6:Hid (∃m,ExOn (Rg B (B+1) u6) m u6 [.int .u8 x.kind,.string x.rat,.string x.name,.int .i64 x.date,.slice xa xl xc] x):=Z9 (HEX2.out.imp fun m hm=>zbg hm (zan (rb:=rb) (zah hb)) ZH);have HTB6:=Z9 hTB6;have UD:r.length<K:=by have:=Zp.out.lt;have:=Zp.out.len;rw[List.length_cons]at this;omega
       have HG6:Hid (GR=(zbj F N r).bind fun y l=>tAdd F N a' (comb 4 x y) l):=Z9 (by
        rw[HGA.out]
        show(if tIs 5 [43] (t :: r)=true then _ else _)=_
        rw[Y9,if_pos rfl];rfl)
       clear hb hTB6 Y9;go_wp2_with fail;refine(zbl rb u6 t r HA6.out.rd).mono ?_;rintro e u7 ⟨v7,rfl,rfl,hr,hg⟩
       have HS7:Hid (SumR rb n0 N F GR B w r.length 4 (.int .u8 x.kind) (.string x.rat) (.string x.name) (.int .i64 x.date) (.slice xa xl xc) r u7):=Z9 ⟨HA6.out.call hg hr,zao HTB6.out hg (by omega),.inr (.inl rfl),rfl,by omega,by omega,a',by
        obtain⟨m,hm⟩:=HEX6.out
        exact⟨m,_,by omega,.inr (zbg hm hg ZH),HG6.out⟩⟩
       clear hr hg;go_wp2_with fail;go_roundg r.length
       case measure=>omega
       case rel=>exact⟨4,_,_,_,_,_,r,rfl,HS7⟩
      |false =>
       rintro e u6 ⟨rfl,hb⟩;have HA6:=Z9 (HA.out.below hb);have HTB6:=Z9 (zao HTB.out (zan (rb:=rb) (zah hb)) (by omega));have HEX6:Hid (∃m,ExOn (Rg B (B+1) u6) m u6 [.int .u8 x.kind,.string x.rat,.string x.name,.int .i64 x.date,.slice xa xl xc] x):=Z9 (HEX2.out.imp fun m hm=>zbg hm (zan (rb:=rb) (zah hb)) ZH)
       have HG6:Hid (GR=if tIs 5 [45] l2=true then(zbj F N l2.tail).bind fun y l=>tAdd F N a' (tEx2 5 x y) l else .ok x l2):=Z9 (by
        rw[HGA.out]
        show(if tIs 5 [43] l2=true then _ else _)=_
        rw[Y9,if_neg (by decide)])
       clear hb Y9;go_wp2_with fail;refine(HIS.out ⟨#[45]⟩ u6 l2 HA6.out.rd).mono ?_;change ∀e u',BelB u6 (tIs 5 [45] l2) e u'→_
       cases YP:tIs 5 [45] l2 with
       |true =>
        obtain⟨t,r,rfl⟩:=zb2 YP;rintro e u8 ⟨rfl,hb⟩;have HA8:=Z9 (HA6.out.below hb);have HTB8:=Z9 (zao HTB6.out (zan (rb:=rb) (zah hb)) (by omega));have HEX8:Hid (∃m,ExOn (Rg B (B+1) u8) m u8 [.int .u8 x.kind,.string x.rat,.string x.name,.int .i64 x.date,.slice xa xl xc] x):=Z9 (HEX6.out.imp fun m hm=>zbg hm (zan (rb:=rb) (zah hb)) ZH);have UD:r.length<K:=by have:=Zp.out.lt;have:=Zp.out.len;rw[List.length_cons]at this;omega
        have HG8:Hid (GR=(zbj F N r).bind fun y l=>tAdd F N a' (comb 5 x y) l):=Z9 (by rw[HG6.out,YP,if_pos rfl];rfl);clear hb YP;go_wp2_with fail;refine(zbl rb u8 t r HA8.out.rd).mono ?_;rintro e u7 ⟨v7,rfl,rfl,hr,hg⟩
        have HS7:Hid (SumR rb n0 N F GR B w r.length 5 (.int .u8 x.kind) (.string x.rat) (.string x.name) (.int .i64 x.date) (.slice xa xl xc) r u7):=Z9 ⟨HA8.out.call hg hr,zao HTB8.out hg (by omega),.inr (.inr rfl),rfl,by omega,by omega,a',by
         obtain⟨m,hm⟩:=HEX8.out
         exact⟨m,_,by omega,.inr (zbg hm hg ZH),HG8.out⟩⟩
        clear hr hg;go_wp2_with fail;go_roundg r.length
        case measure=>omega
        case rel=>exact⟨5,_,_,_,_,_,r,rfl,HS7⟩
       |false =>
        rintro e u8 ⟨rfl,hb⟩;have HA8:=Z9 (HA6.out.below hb);have hTB8:=zao HTB6.out (zan (rb:=rb) (zah hb)) (by omega:rb≠B+1);obtain⟨m8,T8⟩:=HEX6.out;have hm9:=zbg T8 (zan (rb:=rb) (zah hb)) ZH;have HG8:Hid (GR=.ok x l2):=Z9 (by rw[HG6.out,YP,if_neg (by decide)]);have HFIN:=Z9 (HA8.out.fin (Nat.le_of_eq HBB.out.symm) (Nat.lt_succ_self B) (hm9.mono (S':=fun g=>B+1≤g∧g<u8.heap.size) fun g ⟨g1,g2,_⟩=>⟨by omega,g2⟩));obtain⟨y0,y1,y2,y3,y4⟩:=zae hTB8;obtain⟨z0,z1,z2,z3,z4⟩:=zae (show u8.heap[B]?=some (.cells #[.int .u8 0,.string ⟨#[]⟩,.string ⟨#[]⟩,.int .i64 0,.slice none 0 0] 25)from HA8.out.box)
        have fz:∀i,u8.frozen? ⟨B,i,none⟩=false:=Lib.frozen_of_heap (show u8.heap[B]?=some (.cells #[.int .u8 0,.string ⟨#[]⟩,.string ⟨#[]⟩,.int .i64 0,.slice none 0 0] 25)from HA8.out.box)
        have zb:=HA8.out.blt;have hyl:=(Z8 hTB8);clear hb hTB8 YP T8 hm9;go_wp2_with fail;obtain⟨W',hW',hx,Zs,hr,hg⟩:=HFIN.out;rw[←hW'];obtain⟨c0,c1,c2,c3,c4⟩:=zae Zs;rw[Exit.noGoto_ret];obtain⟨sa,sl,sc,Xn⟩:=hx.shape;exact bodyPost_ret (v:=.agg #[.int .u8 x.kind,.string x.rat,.string x.name,.int .i64 x.date,.slice xa xl xc]) (by simp[results,Tryz.results64,go_sem,c0,c1,c2,c3,c4]) rfl (zcz HG8.out (zq0 Xn hx hr hg))
     ·obtain⟨mt,hmt⟩:∃m,ExOn (Rg B u.heap.size u3) m u3 [t0,t1,t2,t3,t4] tx:=htex3.resolve_left Yr
      have HB2:=Z9 (box2 s HT3.out (Nat.le_of_eq HBB.out.symm) (Nat.lt_succ_self B) htot3 (zo4 hmt (Nat.lt_succ_self (B+1))) (zo4 hex3 (Nat.lt_succ_self (B+1))));have HGA:Hid (GR=tAdd F N (a'+1) (tEx2 s tx x) l2):=Z9 (by rw[hGA];unfold comb;rw[if_neg Yr]);have YY:(s == 0)=false:=by simp[Yr]
      clear hb Ya hbxr htot3 hbox3 Tb hex3 htex3 T5 Us hR2 hs hGA hmt;go_wp2_with fail;obtain⟨WT,TJ,hA,TH,hE,_⟩:=HB2.out;rw[←TJ];have HA:=Z9 hA;have HTB:=Z9 TH;have HEX2:Hid (∃m,ExOn (Rg B (B+1) WT) m WT [.int .u8 s,.string ⟨#[]⟩,.string ⟨#[]⟩,.int .i64 0,.slice (some ⟨u3.heap.size,0,none⟩) 2 2] (tEx2 s tx x)):=Z9 ⟨_,hE⟩;clear TJ hA TH hE HB2 p0 p1 p2 p3 p4 q0 q1 q2 q3 q4 fp;refine(HIS.out ⟨#[43]⟩ WT l2 HA.out.rd).mono ?_;change ∀e u',BelB WT (tIs 5 [43] l2) e u'→_
      cases Y9:tIs 5 [43] l2 with
      |true =>
       obtain⟨t,r,rfl⟩:=zb2 Y9;rintro e u6 ⟨rfl,hb⟩;have HA6:=Z9 (HA.out.below hb);have hTB6:=zao HTB.out (zan (rb:=rb) (zah hb)) (by omega);have HEX6:Hid (∃m,ExOn (Rg B (B+1) u6) m u6 [.int .u8 s,.string ⟨#[]⟩,.string ⟨#[]⟩,.int .i64 0,.slice (some ⟨u3.heap.size,0,none⟩) 2 2] (tEx2 s tx x)):=Z9 (HEX2.out.imp fun m hm=>zbg hm (zan (rb:=rb) (zah hb)) ZH);have HTB6:=Z9 hTB6;have UD:r.length<K:=by have:=Zp.out.lt;have:=Zp.out.len;rw[List.length_cons]at this;omega
       have HG6:Hid (GR=(zbj F N r).bind fun y l=>tAdd F N a' (comb 4 (tEx2 s tx x) y) l):=Z9 (by
        rw[HGA.out]
        show(if tIs 5 [43] (t :: r)=true then _ else _)=_
        rw[Y9,if_pos rfl];rfl)
       clear hb hTB6 Y9;go_wp2_with fail;refine(zbl rb u6 t r HA6.out.rd).mono ?_;rintro e u7 ⟨v7,rfl,rfl,hr,hg⟩
       have HS7:Hid (SumR rb n0 N F GR B w r.length 4 (.int .u8 s) (.string ⟨#[]⟩) (.string ⟨#[]⟩) (.int .i64 0) (.slice (some ⟨u3.heap.size,0,none⟩) 2 2) r u7):=Z9 ⟨HA6.out.call hg hr,zao HTB6.out hg (by omega),.inr (.inl rfl),rfl,by omega,by omega,a',by
        obtain⟨m,hm⟩:=HEX6.out
        exact⟨m,_,by omega,.inr (zbg hm hg ZH),HG6.out⟩⟩
       clear hr hg;go_wp2_with fail;go_roundg r.length
       case measure=>omega
       case rel=>exact⟨4,_,_,_,_,_,r,rfl,HS7⟩
      |false =>
       rintro e u6 ⟨rfl,hb⟩;have HA6:=Z9 (HA.out.below hb);have HTB6:=Z9 (zao HTB.out (zan (rb:=rb) (zah hb)) (by omega));have HEX6:Hid (∃m,ExOn (Rg B (B+1) u6) m u6 [.int .u8 s,.string ⟨#[]⟩,.string ⟨#[]⟩,.int .i64 0,.slice (some ⟨u3.heap.size,0,none⟩) 2 2] (tEx2 s tx x)):=Z9 (HEX2.out.imp fun m hm=>zbg hm (zan (rb:=rb) (zah hb)) ZH)
       have HG6:Hid (GR=if tIs 5 [45] l2=true then(zbj F N l2.tail).bind fun y l=>tAdd F N a' (tEx2 5 (tEx2 s tx x) y) l else .ok (tEx2 s tx x) l2):=Z9 (by
        rw[HGA.out]
        show(if tIs 5 [43] l2=true then _ else _)=_
        rw[Y9,if_neg (by decide)])
       clear hb Y9;go_wp2_with fail;refine(HIS.out ⟨#[45]⟩ u6 l2 HA6.out.rd).mono ?_;change ∀e u',BelB u6 (tIs 5 [45] l2) e u'→_
       cases YP:tIs 5 [45] l2 with
       |true =>
        obtain⟨t,r,rfl⟩:=zb2 YP;rintro e u8 ⟨rfl,hb⟩;have HA8:=Z9 (HA6.out.below hb);have HTB8:=Z9 (zao HTB6.out (zan (rb:=rb) (zah hb)) (by omega));have HEX8:Hid (∃m,ExOn (Rg B (B+1) u8) m u8 [.int .u8 s,.string ⟨#[]⟩,.string ⟨#[]⟩,.int .i64 0,.slice (some ⟨u3.heap.size,0,none⟩) 2 2] (tEx2 s tx x)):=Z9 (HEX6.out.imp fun m hm=>zbg hm (zan (rb:=rb) (zah hb)) ZH);have UD:r.length<K:=by have:=Zp.out.lt;have:=Zp.out.len;rw[List.length_cons]at this;omega
        have HG8:Hid (GR=(zbj F N r).bind fun y l=>tAdd F N a' (comb 5 (tEx2 s tx x) y) l):=Z9 (by rw[HG6.out,YP,if_pos rfl];rfl);clear hb YP;go_wp2_with fail;refine(zbl rb u8 t r HA8.out.rd).mono ?_;rintro e u7 ⟨v7,rfl,rfl,hr,hg⟩
        have HS7:Hid (SumR rb n0 N F GR B w r.length 5 (.int .u8 s) (.string ⟨#[]⟩) (.string ⟨#[]⟩) (.int .i64 0) (.slice (some ⟨u3.heap.size,0,none⟩) 2 2) r u7):=Z9 ⟨HA8.out.call hg hr,zao HTB8.out hg (by omega),.inr (.inr rfl),rfl,by omega,by omega,a',by
         obtain⟨m,hm⟩:=HEX8.out
         exact⟨m,_,by omega,.inr (zbg hm hg ZH),HG8.out⟩⟩
        clear hr hg;go_wp2_with fail;go_roundg r.length
        case measure=>omega
        case rel=>exact⟨5,_,_,_,_,_,r,rfl,HS7⟩
       |false =>
        rintro e u8 ⟨rfl,hb⟩;have HA8:=Z9 (HA6.out.below hb);have hTB8:=zao HTB6.out (zan (rb:=rb) (zah hb)) (by omega:rb≠B+1);obtain⟨m8,T8⟩:=HEX6.out;have hm9:=zbg T8 (zan (rb:=rb) (zah hb)) ZH;have HG8:Hid (GR=.ok (tEx2 s tx x) l2):=Z9 (by rw[HG6.out,YP,if_neg (by decide)]);have HFIN:=Z9 (HA8.out.fin (Nat.le_of_eq HBB.out.symm) (Nat.lt_succ_self B) (hm9.mono (S':=fun g=>B+1≤g∧g<u8.heap.size) fun g ⟨g1,g2,_⟩=>⟨by omega,g2⟩));obtain⟨y0,y1,y2,y3,y4⟩:=zae hTB8;obtain⟨z0,z1,z2,z3,z4⟩:=zae (show u8.heap[B]?=some (.cells #[.int .u8 0,.string ⟨#[]⟩,.string ⟨#[]⟩,.int .i64 0,.slice none 0 0] 25)from HA8.out.box)
        have fz:∀i,u8.frozen? ⟨B,i,none⟩=false:=Lib.frozen_of_heap (show u8.heap[B]?=some (.cells #[.int .u8 0,.string ⟨#[]⟩,.string ⟨#[]⟩,.int .i64 0,.slice none 0 0] 25)from HA8.out.box)
        have zb:=HA8.out.blt;have hyl:=(Z8 hTB8);clear hb hTB8 YP T8 hm9;go_wp2_with fail;obtain⟨W',hW',hx,Zs,hr,hg⟩:=HFIN.out;rw[←hW'];obtain⟨c0,c1,c2,c3,c4⟩:=zae Zs;rw[Exit.noGoto_ret];obtain⟨sa,sl,sc,Xn⟩:=hx.shape;exact bodyPost_ret (v:=.agg #[.int .u8 s,.string ⟨#[]⟩,.string ⟨#[]⟩,.int .i64 0,.slice (some ⟨u3.heap.size,0,none⟩) 2 2]) (by simp[results,Tryz.results64,go_sem,c0,c1,c2,c3,c4]) rfl (zcz HG8.out (zq0 Xn hx hr hg))
theorem zda(w:World)(es:Array MapEntry)(c:Nat)(k:ByteArray)(val:Value)(hf:Instr.findNow .string (.string k) es.toList 0=some none) :
 (Instr.mapUpdate 138 (.map (some w.heap.size)) (.string k) val).run Tryz.prog (w.alloc (.map es c))=.ok () (w.alloc (.map (es.push ⟨.string k,val,c⟩) (c+1))):=by
 have hb:(w.alloc (.map es c)).heap[w.heap.size]?=some (.map es c):=heap_alloc_new _ _;have hc:(Instr.checkKey false 10000 9 (.string k)).run Tryz.prog (w.alloc (.map es c))=.ok () (w.alloc (.map es c)):=MapKept.run_checkKey Tryz.underlying9 (by simp[MapKept.IsKey]) false 9999
 have e:(w.heap.push (Obj.map es c)).setIfInBounds w.heap.size (Obj.map (es.push ⟨.string k,val,c⟩) (c+1))=w.heap.push (Obj.map (es.push ⟨.string k,val,c⟩) (c+1)):=by
  apply Array.ext';simp[Array.toList_setIfInBounds]
 have hs:(setObj w.heap.size (.map (es.push ⟨.string k,val,c⟩) (c+1))).run Tryz.prog (w.alloc (.map es c))=.ok () (w.alloc (.map (es.push ⟨.string k,val,c⟩) (c+1))):=by
  rw[MapKept.run_setObj_map _ hb]
  show Result.ok () { (w.alloc (.map es c))with heap:=(w.heap.push (Obj.map es c)).setIfInBounds w.heap.size _ }=_
  rw[e];rfl
 simp[Instr.mapUpdate,run_underlying Tryz.underlying138,MapKept.run_getObj_map hb,hc,MapKept.run_findKey Tryz.underlying9 hf,hs,Result.andThen]
theorem za0{W:World}{bm:Nat}{es:Array MapEntry}{c:Nat}(hb:W.heap[bm]?=some (.map es c)){k:ByteArray}{v:Value}{i:Nat}(hf:Instr.findNow .string (.string k) es.toList 0=some (some (i,v))) :
 (Instr.lookup 138 (.map (some bm)) (.string k) false).run Tryz.prog W=.ok v W:=by
 have hc:∀q,(Instr.checkKey q 10000 9 (.string k)).run Tryz.prog W=.ok () W:=fun q=>MapKept.run_checkKey Tryz.underlying9 (by simp[MapKept.IsKey]) q 9999
 simp[Instr.lookup,run_underlying Tryz.underlying138,MapKept.run_getObj_map hb,hc,MapKept.run_findKey Tryz.underlying9 hf,Result.andThen]
theorem zj2{W:World}{bm:Nat}{es:Array MapEntry}{c:Nat}(hb:W.heap[bm]?=some (.map es c)){k:ByteArray}(hf:Instr.findNow .string (.string k) es.toList 0=some none) :
 (Instr.lookup 138 (.map (some bm)) (.string k) false).run Tryz.prog W=.ok (.int .u8 0) W:=by
 have hc:∀q,(Instr.checkKey q 10000 9 (.string k)).run Tryz.prog W=.ok () W:=fun q=>MapKept.run_checkKey Tryz.underlying9 (by simp[MapKept.IsKey]) q 9999
 simp[Instr.lookup,run_underlying Tryz.underlying138,MapKept.run_getObj_map hb,hc,MapKept.run_findKey Tryz.underlying9 hf,Result.andThen]
theorem zyi(a b:ByteArray):Instr.sameNow .string (.string a) (.string b)=some (a == b):=by
 simp[Instr.sameNow]
def tkEs:Array MapEntry:=#[⟨.string ⟨#[108,101,115,115]⟩,.int .u8 11,0⟩,⟨.string ⟨#[101,113,117,97,108]⟩,.int .u8 12,1⟩,⟨.string ⟨#[97,110,100]⟩,.int .u8 13,2⟩,⟨.string ⟨#[111,114]⟩,.int .u8 14,3⟩,⟨.string ⟨#[110,111,116]⟩,.int .u8 15,4⟩]
theorem z2h{S:ByteArray}(h:∀b ∈ [[108,101,115,115],[101,113,117,97,108],[97,110,100],[111,114],[110,111,116]],¬S.data.toList=b):Instr.findNow .string (.string S) tkEs.toList 0=some none:=by
 have e:∀b ∈ [[108,101,115,115],[101,113,117,97,108],[97,110,100],[111,114],[110,111,116]],(S == (⟨List.toArray b⟩:ByteArray))=false:=fun b hb=>by
  cases hq:S == (⟨List.toArray b⟩:ByteArray)with
  |false=>rfl
  |true =>
   change (S.data == List.toArray b)=true at hq;exact absurd (congrArg Array.toList (eq_of_beq hq)) (h b hb)
 have e0:(S == (⟨#[108,101,115,115]⟩:ByteArray))=false:=e [108,101,115,115] (by simp);have e1:(S == (⟨#[101,113,117,97,108]⟩:ByteArray))=false:=e [101,113,117,97,108] (by simp);have e2:(S == (⟨#[97,110,100]⟩:ByteArray))=false:=e [97,110,100] (by simp);have e3:(S == (⟨#[111,114]⟩:ByteArray))=false:=e [111,114] (by simp);have e4:(S == (⟨#[110,111,116]⟩:ByteArray))=false:=e [110,111,116] (by simp)
 show Instr.findNow .string (.string S) [⟨.string ⟨#[108,101,115,115]⟩,.int .u8 11,0⟩,⟨.string ⟨#[101,113,117,97,108]⟩,.int .u8 12,1⟩,⟨.string ⟨#[97,110,100]⟩,.int .u8 13,2⟩,⟨.string ⟨#[111,114]⟩,.int .u8 14,3⟩,⟨.string ⟨#[110,111,116]⟩,.int .u8 15,4⟩] 0=some none
 simp only[Instr.findNow,zyi,e0,e1,e2,e3,e4]
theorem zhe(W:World):(Instr.mapUpdate 138 (.map (some W.heap.size)) (.string ⟨#[108,101,115,115]⟩) (.int .u8 11)).run Tryz.prog (W.alloc (.map #[] 0))=.ok () (W.alloc (.map #[⟨.string ⟨#[108,101,115,115]⟩,.int .u8 11,0⟩] 1)) ∧
 (Instr.mapUpdate 138 (.map (some W.heap.size)) (.string ⟨#[101,113,117,97,108]⟩) (.int .u8 12)).run Tryz.prog (W.alloc (.map #[⟨.string ⟨#[108,101,115,115]⟩,.int .u8 11,0⟩] 1))=.ok () (W.alloc (.map #[⟨.string ⟨#[108,101,115,115]⟩,.int .u8 11,0⟩,⟨.string ⟨#[101,113,117,97,108]⟩,.int .u8 12,1⟩] 2)) ∧
 (Instr.mapUpdate 138 (.map (some W.heap.size)) (.string ⟨#[97,110,100]⟩) (.int .u8 13)).run Tryz.prog (W.alloc (.map #[⟨.string ⟨#[108,101,115,115]⟩,.int .u8 11,0⟩,⟨.string ⟨#[101,113,117,97,108]⟩,.int .u8 12,1⟩] 2))=.ok () (W.alloc (.map #[⟨.string ⟨#[108,101,115,115]⟩,.int .u8 11,0⟩,⟨.string ⟨#[101,113,117,97,108]⟩,.int .u8 12,1⟩,⟨.string ⟨#[97,110,100]⟩,.int .u8 13,2⟩] 3)) ∧
 (Instr.mapUpdate 138 (.map (some W.heap.size)) (.string ⟨#[111,114]⟩) (.int .u8 14)).run Tryz.prog (W.alloc (.map #[⟨.string ⟨#[108,101,115,115]⟩,.int .u8 11,0⟩,⟨.string ⟨#[101,113,117,97,108]⟩,.int .u8 12,1⟩,⟨.string ⟨#[97,110,100]⟩,.int .u8 13,2⟩] 3))=.ok () (W.alloc (.map #[⟨.string ⟨#[108,101,115,115]⟩,.int .u8 11,0⟩,⟨.string ⟨#[101,113,117,97,108]⟩,.int .u8 12,1⟩,⟨.string ⟨#[97,110,100]⟩,.int .u8 13,2⟩,⟨.string ⟨#[111,114]⟩,.int .u8 14,3⟩] 4)) ∧
 (Instr.mapUpdate 138 (.map (some W.heap.size)) (.string ⟨#[110,111,116]⟩) (.int .u8 15)).run Tryz.prog (W.alloc (.map #[⟨.string ⟨#[108,101,115,115]⟩,.int .u8 11,0⟩,⟨.string ⟨#[101,113,117,97,108]⟩,.int .u8 12,1⟩,⟨.string ⟨#[97,110,100]⟩,.int .u8 13,2⟩,⟨.string ⟨#[111,114]⟩,.int .u8 14,3⟩] 4))=.ok () (W.alloc (.map tkEs 5)) :=
 ⟨zda W _ _ _ _ rfl,zda W _ _ _ _ rfl,zda W _ _ _ _ rfl,zda W _ _ _ _ rfl,zda W _ _ _ _ rfl⟩
theorem zr0{rb:Nat}(w:World)(l:List Tk)(h:RAt rb w l)(hn:∀b ∈ [[108,101,115,115],[101,113,117,97,108],[97,110,100],[111,114],[110,111,116]],¬zar l=b) :
 Calls Tryz.prog 63 #[.pointer (some ⟨rb,0,none⟩)] w (zbk (VEx w.heap.size) rb w (.no l)):=by
 have HHD:=Z9 (fun W (hW:RAt rb W l)=>zbs rb W l hW);have UU:Instr.findNow .string (.string (zfi l)) tkEs.toList 0=some none:=z2h (fun b hb=>by rw[zgi];exact hn b hb);obtain⟨S,hS⟩:∃S,S=zfi l:=⟨_,rfl⟩
 rw[←hS]at HHD UU;have HSTOP:=Z9 (fun W=>zgs rb W);have HR:=Z9 h;have HFN:=Z9 UU;clear h hn hS UU;have hmm:=@run_makeMap Tryz.prog;go_enter Tryz.func63,Tryz.ntmps63;go_wp2_with fail;have HF0:=Z9 (FAt.start HR.out);refine(HHD.out _ HF0.out.rd).mono ?_;rintro e u ⟨rfl,hb⟩;have HU:=Z9 (HF0.out.below hb);clear hb;obtain⟨u0,u1,u2,u3,u4⟩:=zhe u;have L0:(Instr.lookup 138 (.map (some u.heap.size)) (.string S) false).run Tryz.prog (u.alloc (.map tkEs 5))=.ok (.int .u8 0) (u.alloc (.map tkEs 5)):=zj2 (heap_alloc_new _ _) HFN.out;have HU1:=Z9 (HU.out.alloc (.map tkEs 5));go_wp2_with fail;refine(HSTOP.out _).mono ?_
 rintro e u2 ⟨rfl,rfl⟩;exact⟨rfl,rfl,HU1.out.rd,HU1.out.grown⟩
theorem zr1{rb n0:Nat}(S T:RdX)(hp:zhq rb n0 S T)(cS:∀l,(S l).Cons l)(cT:∀l,(T l).Cons l)(w:World)(l:List Tk)(h:RAt rb w l)(hl:l.length≤n0)(hh:zar l=[108,101,115,115]) :
 Calls Tryz.prog 63 #[.pointer (some ⟨rb,0,none⟩)] w (zbk (VEx w.heap.size) rb w (zbf 11 (([true,true]:List Bool).map (za9 S T)) l.tail)):=by
 have hmf:∀(fn:Fn)(first cap:Array Value)(w:World),(Instr.makeFunc fn first cap).run Tryz.prog w=.ok (.func fn first cap) w:=fun _ _ _ _=>rfl
 obtain⟨t,r,rfl⟩:=zbp (l:=l) (by rw[hh];simp);have HHD:=Z9 (fun W (hW:RAt rb W (t :: r))=>zbs rb W (t :: r) hW);rw[zbu hh]at HHD;have HTK:=Z9 (fun W (hW:RAt rb W (t :: r))=>zbl rb W t r hW);have HLI:=Z9 (fun W gp (hW:RAt rb W r) (hl:r.length≤n0) (h1:gp<W.heap.size) (h2:gp≠rb) (h3:∀i (hi:i<([true,true]:List Bool).length),W.cell? ⟨gp,i,none⟩=some (fnV rb (fnF (([true,true]:List Bool)[i]'hi))))=>zd9 S T hp cS cT 11 ([true,true]:List Bool) 2 gp rfl (by decide) W r hW hl h1 h2 h3);have HR:=Z9 h;have HL:Hid (r.length≤n0):=Z9 (by rw[List.length_cons]at hl;omega);obtain⟨GR,ZK⟩:∃GR,GR=zbf 11 (([true,true]:List Bool).map (za9 S T)) (t :: r).tail:=⟨_,rfl⟩
 rw[←ZK];have HGR:=Z9 ZK;clear h hl hh hp cS cT ZK;have hmm:=@run_makeMap Tryz.prog;go_enter Tryz.func63,Tryz.ntmps63;go_wp2_with fail;have HF0:=Z9 (FAt.start HR.out);refine(HHD.out _ HF0.out.rd).mono ?_;rintro e u ⟨rfl,hb⟩;have HU:=Z9 (HF0.out.below hb);clear hb;obtain⟨u0,u1,u2,u3,u4⟩:=zhe u;have L0:(Instr.lookup 138 (.map (some u.heap.size)) (.string ⟨#[108,101,115,115]⟩) false).run Tryz.prog (u.alloc (.map tkEs 5))=.ok (.int .u8 11) (u.alloc (.map tkEs 5)):=za0 (i:=0) (heap_alloc_new _ _) rfl;have HU1:=Z9 (HU.out.alloc (.map tkEs 5));have HMB:=Z9 (heap_alloc_new u (.map tkEs 5));go_wp2_with fail
 refine(HTK.out _ HU1.out.rd).mono ?_;rintro e w2 ⟨v,rfl,rfl,hr,hg⟩;have Y2:=Z9 (HU1.out.call hg hr);have hmb:=zao HMB.out hg (Nat.ne_of_lt HU.out.rd.lt);have L1:(Instr.lookup 138 (.map (some u.heap.size)) (.string ⟨#[108,101,115,115]⟩) false).run Tryz.prog w2=.ok (.int .u8 11) w2:=za0 (i:=0) hmb rfl;have L2:(Instr.lookup 138 (.map (some u.heap.size)) (.string ⟨#[108,101,115,115]⟩) false).run Tryz.prog (w2.alloc (.cells #[.func (.func 64) #[.pointer (some ⟨rb,0,none⟩)] #[],.func (.func 64) #[.pointer (some ⟨rb,0,none⟩)] #[]] 93))=.ok (.int .u8 11) (w2.alloc (.cells #[.func (.func 64) #[.pointer (some ⟨rb,0,none⟩)] #[],.func (.func 64) #[.pointer (some ⟨rb,0,none⟩)] #[]] 93)):=za0 (i:=0) (zao (rb:=rb) hmb (World.grownBy_alloc w2 _ _) (Nat.ne_of_lt HU.out.rd.lt)) rfl
 have HU3:=Z9 (Y2.out.alloc (.cells #[.func (.func 64) #[.pointer (some ⟨rb,0,none⟩)] #[],.func (.func 64) #[.pointer (some ⟨rb,0,none⟩)] #[]] 93));clear hr hg hmb u0 u1 u2 u3 u4 L0;go_wp2_with fail
 have ZM:∀i (hi:i<([true,true]:List Bool).length),(w2.alloc (.cells #[.func (.func 64) #[.pointer (some ⟨rb,0,none⟩)] #[],.func (.func 64) #[.pointer (some ⟨rb,0,none⟩)] #[]] 93)).cell? ⟨w2.heap.size,i,none⟩=some (fnV rb (fnF (([true,true]:List Bool)[i]'hi))):=by
  intro i hi;have ha:=heap_alloc_new w2 (.cells #[.func (.func 64) #[.pointer (some ⟨rb,0,none⟩)] #[],.func (.func 64) #[.pointer (some ⟨rb,0,none⟩)] #[]] 93);simp only[List.length_cons,List.length_nil]at hi;unfold World.cell?
  show(match (w2.alloc _).heap[w2.heap.size]? with |some (.cells c _ _)=>c[i]? |_=>none)=_
  rw[ha]
  match i,hi with
  |0,_=>rfl
  |1,_=>rfl
 have WD:=Y2.out.rd.lt;have HM:=Z9 (HLI.out _ w2.heap.size HU3.out.rd HL.out (by simp) (by omega) ZM);clear ZM;have e2:zbf 11 (([true,true]:List Bool).map (za9 S T)) r=GR:=HGR.out.symm;rw[e2]at HM;refine HM.out.mono ?_;clear e2
 cases hq:GR with
 |no lq =>
  rintro e w3 ⟨rfl,hr,hg⟩;exact⟨rfl,zbm rfl ⟨rfl,hr,(HU3.out.call hg hr).grown⟩⟩
 |ok y ly =>
  rintro e w3 ⟨vv,rfl,⟨mm,pa,pl,pc,rfl,hx⟩,hr,hg⟩;have HU4:=Z9 (HU3.out.call hg hr);have HFIN:=Z9 (HU4.out.fin (Nat.le_refl _) HU3.out.blt hx);obtain⟨z0,z1,z2,z3,z4⟩:=zae (show w3.heap[w.heap.size]?=some (.cells #[.int .u8 0,.string ⟨#[]⟩,.string ⟨#[]⟩,.int .i64 0,.slice none 0 0] 25)from HU4.out.box)
  have fz:∀i,w3.frozen? ⟨w.heap.size,i,none⟩=false:=Lib.frozen_of_heap (show w3.heap[w.heap.size]?=some (.cells #[.int .u8 0,.string ⟨#[]⟩,.string ⟨#[]⟩,.int .i64 0,.slice none 0 0] 25)from HU4.out.box)
  have zb:=HU4.out.blt;clear hx hr hg;go_wp2_with fail;obtain⟨W',hW',hx,Zs,hr,hg⟩:=HFIN.out;rw[←hW'];obtain⟨c0,c1,c2,c3,c4⟩:=zae Zs;exact bodyPost_ret (v:=.agg #[.int .u8 y.kind,.string y.rat,.string y.name,.int .i64 y.date,.slice pa pl pc]) (by simp[results,Tryz.results63,go_sem,c0,c1,c2,c3,c4]) rfl (zcz hq ⟨_,rfl,⟨_,pa,pl,pc,rfl,hx⟩,hr,hg⟩)
theorem zol{rb n0:Nat}(S T:RdX)(hp:zhq rb n0 S T)(cS:∀l,(S l).Cons l)(cT:∀l,(T l).Cons l)(w:World)(l:List Tk)(h:RAt rb w l)(hl:l.length≤n0)(hh:zar l=[101,113,117,97,108]) :
 Calls Tryz.prog 63 #[.pointer (some ⟨rb,0,none⟩)] w (zbk (VEx w.heap.size) rb w (zbf 12 (([true,true]:List Bool).map (za9 S T)) l.tail)):=by
 have hmf:∀(fn:Fn)(first cap:Array Value)(w:World),(Instr.makeFunc fn first cap).run Tryz.prog w=.ok (.func fn first cap) w:=fun _ _ _ _=>rfl
 obtain⟨t,r,rfl⟩:=zbp (l:=l) (by rw[hh];simp);have HHD:=Z9 (fun W (hW:RAt rb W (t :: r))=>zbs rb W (t :: r) hW);rw[zbu hh]at HHD;have HTK:=Z9 (fun W (hW:RAt rb W (t :: r))=>zbl rb W t r hW);have HLI:=Z9 (fun W gp (hW:RAt rb W r) (hl:r.length≤n0) (h1:gp<W.heap.size) (h2:gp≠rb) (h3:∀i (hi:i<([true,true]:List Bool).length),W.cell? ⟨gp,i,none⟩=some (fnV rb (fnF (([true,true]:List Bool)[i]'hi))))=>zd9 S T hp cS cT 12 ([true,true]:List Bool) 2 gp rfl (by decide) W r hW hl h1 h2 h3);have HR:=Z9 h;have HL:Hid (r.length≤n0):=Z9 (by rw[List.length_cons]at hl;omega);obtain⟨GR,ZK⟩:∃GR,GR=zbf 12 (([true,true]:List Bool).map (za9 S T)) (t :: r).tail:=⟨_,rfl⟩
 rw[←ZK];have HGR:=Z9 ZK;clear h hl hh hp cS cT ZK;have hmm:=@run_makeMap Tryz.prog;go_enter Tryz.func63,Tryz.ntmps63;go_wp2_with fail;have HF0:=Z9 (FAt.start HR.out);refine(HHD.out _ HF0.out.rd).mono ?_;rintro e u ⟨rfl,hb⟩;have HU:=Z9 (HF0.out.below hb);clear hb;obtain⟨u0,u1,u2,u3,u4⟩:=zhe u;have L0:(Instr.lookup 138 (.map (some u.heap.size)) (.string ⟨#[101,113,117,97,108]⟩) false).run Tryz.prog (u.alloc (.map tkEs 5))=.ok (.int .u8 12) (u.alloc (.map tkEs 5)):=za0 (i:=1) (heap_alloc_new _ _) rfl;have HU1:=Z9 (HU.out.alloc (.map tkEs 5));have HMB:=Z9 (heap_alloc_new u (.map tkEs 5));go_wp2_with fail
 refine(HTK.out _ HU1.out.rd).mono ?_;rintro e w2 ⟨v,rfl,rfl,hr,hg⟩;have Y2:=Z9 (HU1.out.call hg hr);have hmb:=zao HMB.out hg (Nat.ne_of_lt HU.out.rd.lt);have L1:(Instr.lookup 138 (.map (some u.heap.size)) (.string ⟨#[101,113,117,97,108]⟩) false).run Tryz.prog w2=.ok (.int .u8 12) w2:=za0 (i:=1) hmb rfl;have L2:(Instr.lookup 138 (.map (some u.heap.size)) (.string ⟨#[101,113,117,97,108]⟩) false).run Tryz.prog (w2.alloc (.cells #[.func (.func 64) #[.pointer (some ⟨rb,0,none⟩)] #[],.func (.func 64) #[.pointer (some ⟨rb,0,none⟩)] #[]] 93))=.ok (.int .u8 12) (w2.alloc (.cells #[.func (.func 64) #[.pointer (some ⟨rb,0,none⟩)] #[],.func (.func 64) #[.pointer (some ⟨rb,0,none⟩)] #[]] 93)):=za0 (i:=1) (zao (rb:=rb) hmb (World.grownBy_alloc w2 _ _) (Nat.ne_of_lt HU.out.rd.lt)) rfl
 have HU3:=Z9 (Y2.out.alloc (.cells #[.func (.func 64) #[.pointer (some ⟨rb,0,none⟩)] #[],.func (.func 64) #[.pointer (some ⟨rb,0,none⟩)] #[]] 93));clear hr hg hmb u0 u1 u2 u3 u4 L0;go_wp2_with fail
 have ZM:∀i (hi:i<([true,true]:List Bool).length),(w2.alloc (.cells #[.func (.func 64) #[.pointer (some ⟨rb,0,none⟩)] #[],.func (.func 64) #[.pointer (some ⟨rb,0,none⟩)] #[]] 93)).cell? ⟨w2.heap.size,i,none⟩=some (fnV rb (fnF (([true,true]:List Bool)[i]'hi))):=by
  intro i hi;have ha:=heap_alloc_new w2 (.cells #[.func (.func 64) #[.pointer (some ⟨rb,0,none⟩)] #[],.func (.func 64) #[.pointer (some ⟨rb,0,none⟩)] #[]] 93);simp only[List.length_cons,List.length_nil]at hi;unfold World.cell?
  show(match (w2.alloc _).heap[w2.heap.size]? with |some (.cells c _ _)=>c[i]? |_=>none)=_
  rw[ha]
  match i,hi with
  |0,_=>rfl
  |1,_=>rfl
 have WD:=Y2.out.rd.lt;have HM:=Z9 (HLI.out _ w2.heap.size HU3.out.rd HL.out (by simp) (by omega) ZM);clear ZM;have e2:zbf 12 (([true,true]:List Bool).map (za9 S T)) r=GR:=HGR.out.symm;rw[e2]at HM;refine HM.out.mono ?_;clear e2
 cases hq:GR with
 |no lq =>
  rintro e w3 ⟨rfl,hr,hg⟩;exact⟨rfl,zbm rfl ⟨rfl,hr,(HU3.out.call hg hr).grown⟩⟩
 |ok y ly =>
  rintro e w3 ⟨vv,rfl,⟨mm,pa,pl,pc,rfl,hx⟩,hr,hg⟩;have HU4:=Z9 (HU3.out.call hg hr);have HFIN:=Z9 (HU4.out.fin (Nat.le_refl _) HU3.out.blt hx);obtain⟨z0,z1,z2,z3,z4⟩:=zae (show w3.heap[w.heap.size]?=some (.cells #[.int .u8 0,.string ⟨#[]⟩,.string ⟨#[]⟩,.int .i64 0,.slice none 0 0] 25)from HU4.out.box)
  have fz:∀i,w3.frozen? ⟨w.heap.size,i,none⟩=false:=Lib.frozen_of_heap (show w3.heap[w.heap.size]?=some (.cells #[.int .u8 0,.string ⟨#[]⟩,.string ⟨#[]⟩,.int .i64 0,.slice none 0 0] 25)from HU4.out.box)
  have zb:=HU4.out.blt;clear hx hr hg;go_wp2_with fail;obtain⟨W',hW',hx,Zs,hr,hg⟩:=HFIN.out;rw[←hW'];obtain⟨c0,c1,c2,c3,c4⟩:=zae Zs;exact bodyPost_ret (v:=.agg #[.int .u8 y.kind,.string y.rat,.string y.name,.int .i64 y.date,.slice pa pl pc]) (by simp[results,Tryz.results63,go_sem,c0,c1,c2,c3,c4]) rfl (zcz hq ⟨_,rfl,⟨_,pa,pl,pc,rfl,hx⟩,hr,hg⟩)
theorem zuc{rb n0:Nat}(S T:RdX)(hp:zhq rb n0 S T)(cS:∀l,(S l).Cons l)(cT:∀l,(T l).Cons l)(w:World)(l:List Tk)(h:RAt rb w l)(hl:l.length≤n0)(hh:zar l=[97,110,100]) :
 Calls Tryz.prog 63 #[.pointer (some ⟨rb,0,none⟩)] w (zbk (VEx w.heap.size) rb w (zbf 13 (([false,false]:List Bool).map (za9 S T)) l.tail)):=by
 have hmf:∀(fn:Fn)(first cap:Array Value)(w:World),(Instr.makeFunc fn first cap).run Tryz.prog w=.ok (.func fn first cap) w:=fun _ _ _ _=>rfl
 obtain⟨t,r,rfl⟩:=zbp (l:=l) (by rw[hh];simp);have HHD:=Z9 (fun W (hW:RAt rb W (t :: r))=>zbs rb W (t :: r) hW);rw[zbu hh]at HHD;have HTK:=Z9 (fun W (hW:RAt rb W (t :: r))=>zbl rb W t r hW);have HLI:=Z9 (fun W gp (hW:RAt rb W r) (hl:r.length≤n0) (h1:gp<W.heap.size) (h2:gp≠rb) (h3:∀i (hi:i<([false,false]:List Bool).length),W.cell? ⟨gp,i,none⟩=some (fnV rb (fnF (([false,false]:List Bool)[i]'hi))))=>zd9 S T hp cS cT 13 ([false,false]:List Bool) 2 gp rfl (by decide) W r hW hl h1 h2 h3);have HR:=Z9 h;have HL:Hid (r.length≤n0):=Z9 (by rw[List.length_cons]at hl;omega);obtain⟨GR,ZK⟩:∃GR,GR=zbf 13 (([false,false]:List Bool).map (za9 S T)) (t :: r).tail:=⟨_,rfl⟩
 rw[←ZK];have HGR:=Z9 ZK;clear h hl hh hp cS cT ZK;have hmm:=@run_makeMap Tryz.prog;go_enter Tryz.func63,Tryz.ntmps63;go_wp2_with fail;have HF0:=Z9 (FAt.start HR.out);refine(HHD.out _ HF0.out.rd).mono ?_;rintro e u ⟨rfl,hb⟩;have HU:=Z9 (HF0.out.below hb);clear hb;obtain⟨u0,u1,u2,u3,u4⟩:=zhe u;have L0:(Instr.lookup 138 (.map (some u.heap.size)) (.string ⟨#[97,110,100]⟩) false).run Tryz.prog (u.alloc (.map tkEs 5))=.ok (.int .u8 13) (u.alloc (.map tkEs 5)):=za0 (i:=2) (heap_alloc_new _ _) rfl;have HU1:=Z9 (HU.out.alloc (.map tkEs 5));have HMB:=Z9 (heap_alloc_new u (.map tkEs 5));go_wp2_with fail;refine(HTK.out _ HU1.out.rd).mono ?_
 rintro e w2 ⟨v,rfl,rfl,hr,hg⟩;have Y2:=Z9 (HU1.out.call hg hr);have hmb:=zao HMB.out hg (Nat.ne_of_lt HU.out.rd.lt);have L1:(Instr.lookup 138 (.map (some u.heap.size)) (.string ⟨#[97,110,100]⟩) false).run Tryz.prog w2=.ok (.int .u8 13) w2:=za0 (i:=2) hmb rfl;have L2:(Instr.lookup 138 (.map (some u.heap.size)) (.string ⟨#[97,110,100]⟩) false).run Tryz.prog (w2.alloc (.cells #[.func (.func 63) #[.pointer (some ⟨rb,0,none⟩)] #[],.func (.func 63) #[.pointer (some ⟨rb,0,none⟩)] #[]] 93))=.ok (.int .u8 13) (w2.alloc (.cells #[.func (.func 63) #[.pointer (some ⟨rb,0,none⟩)] #[],.func (.func 63) #[.pointer (some ⟨rb,0,none⟩)] #[]] 93)):=za0 (i:=2) (zao (rb:=rb) hmb (World.grownBy_alloc w2 _ _) (Nat.ne_of_lt HU.out.rd.lt)) rfl
 have HU3:=Z9 (Y2.out.alloc (.cells #[.func (.func 63) #[.pointer (some ⟨rb,0,none⟩)] #[],.func (.func 63) #[.pointer (some ⟨rb,0,none⟩)] #[]] 93));clear hr hg hmb u0 u1 u2 u3 u4 L0;go_wp2_with fail
 have ZM:∀i (hi:i<([false,false]:List Bool).length),(w2.alloc (.cells #[.func (.func 63) #[.pointer (some ⟨rb,0,none⟩)] #[],.func (.func 63) #[.pointer (some ⟨rb,0,none⟩)] #[]] 93)).cell? ⟨w2.heap.size,i,none⟩=some (fnV rb (fnF (([false,false]:List Bool)[i]'hi))):=by
  intro i hi;have ha:=heap_alloc_new w2 (.cells #[.func (.func 63) #[.pointer (some ⟨rb,0,none⟩)] #[],.func (.func 63) #[.pointer (some ⟨rb,0,none⟩)] #[]] 93);simp only[List.length_cons,List.length_nil]at hi;unfold World.cell?
  show(match (w2.alloc _).heap[w2.heap.size]? with |some (.cells c _ _)=>c[i]? |_=>none)=_
  rw[ha]
  match i,hi with
  |0,_=>rfl
  |1,_=>rfl
 have WD:=Y2.out.rd.lt;have HM:=Z9 (HLI.out _ w2.heap.size HU3.out.rd HL.out (by simp) (by omega) ZM);clear ZM;have e2:zbf 13 (([false,false]:List Bool).map (za9 S T)) r=GR:=HGR.out.symm;rw[e2]at HM;refine HM.out.mono ?_;clear e2
 cases hq:GR with
 |no lq =>
  rintro e w3 ⟨rfl,hr,hg⟩;exact⟨rfl,zbm rfl ⟨rfl,hr,(HU3.out.call hg hr).grown⟩⟩
 |ok y ly =>
  rintro e w3 ⟨vv,rfl,⟨mm,pa,pl,pc,rfl,hx⟩,hr,hg⟩;have HU4:=Z9 (HU3.out.call hg hr);have HFIN:=Z9 (HU4.out.fin (Nat.le_refl _) HU3.out.blt hx);obtain⟨z0,z1,z2,z3,z4⟩:=zae (show w3.heap[w.heap.size]?=some (.cells #[.int .u8 0,.string ⟨#[]⟩,.string ⟨#[]⟩,.int .i64 0,.slice none 0 0] 25)from HU4.out.box)
  have fz:∀i,w3.frozen? ⟨w.heap.size,i,none⟩=false:=Lib.frozen_of_heap (show w3.heap[w.heap.size]?=some (.cells #[.int .u8 0,.string ⟨#[]⟩,.string ⟨#[]⟩,.int .i64 0,.slice none 0 0] 25)from HU4.out.box)
  have zb:=HU4.out.blt;clear hx hr hg;go_wp2_with fail;obtain⟨W',hW',hx,Zs,hr,hg⟩:=HFIN.out;rw[←hW'];obtain⟨c0,c1,c2,c3,c4⟩:=zae Zs;exact bodyPost_ret (v:=.agg #[.int .u8 y.kind,.string y.rat,.string y.name,.int .i64 y.date,.slice pa pl pc]) (by simp[results,Tryz.results63,go_sem,c0,c1,c2,c3,c4]) rfl (zcz hq ⟨_,rfl,⟨_,pa,pl,pc,rfl,hx⟩,hr,hg⟩)
theorem zx7{rb n0:Nat}(S T:RdX)(hp:zhq rb n0 S T)(cS:∀l,(S l).Cons l)(cT:∀l,(T l).Cons l)(w:World)(l:List Tk)(h:RAt rb w l)(hl:l.length≤n0)(hh:zar l=[111,114]) :
 Calls Tryz.prog 63 #[.pointer (some ⟨rb,0,none⟩)] w (zbk (VEx w.heap.size) rb w (zbf 14 (([false,false]:List Bool).map (za9 S T)) l.tail)):=by
 have hmf:∀(fn:Fn)(first cap:Array Value)(w:World),(Instr.makeFunc fn first cap).run Tryz.prog w=.ok (.func fn first cap) w:=fun _ _ _ _=>rfl
 obtain⟨t,r,rfl⟩:=zbp (l:=l) (by rw[hh];simp);have HHD:=Z9 (fun W (hW:RAt rb W (t :: r))=>zbs rb W (t :: r) hW);rw[zbu hh]at HHD;have HTK:=Z9 (fun W (hW:RAt rb W (t :: r))=>zbl rb W t r hW);have HLI:=Z9 (fun W gp (hW:RAt rb W r) (hl:r.length≤n0) (h1:gp<W.heap.size) (h2:gp≠rb) (h3:∀i (hi:i<([false,false]:List Bool).length),W.cell? ⟨gp,i,none⟩=some (fnV rb (fnF (([false,false]:List Bool)[i]'hi))))=>zd9 S T hp cS cT 14 ([false,false]:List Bool) 2 gp rfl (by decide) W r hW hl h1 h2 h3);have HR:=Z9 h;have HL:Hid (r.length≤n0):=Z9 (by rw[List.length_cons]at hl;omega);obtain⟨GR,ZK⟩:∃GR,GR=zbf 14 (([false,false]:List Bool).map (za9 S T)) (t :: r).tail:=⟨_,rfl⟩
 rw[←ZK];have HGR:=Z9 ZK;clear h hl hh hp cS cT ZK;have hmm:=@run_makeMap Tryz.prog;go_enter Tryz.func63,Tryz.ntmps63;go_wp2_with fail;have HF0:=Z9 (FAt.start HR.out);refine(HHD.out _ HF0.out.rd).mono ?_;rintro e u ⟨rfl,hb⟩;have HU:=Z9 (HF0.out.below hb);clear hb;obtain⟨u0,u1,u2,u3,u4⟩:=zhe u;have L0:(Instr.lookup 138 (.map (some u.heap.size)) (.string ⟨#[111,114]⟩) false).run Tryz.prog (u.alloc (.map tkEs 5))=.ok (.int .u8 14) (u.alloc (.map tkEs 5)):=za0 (i:=3) (heap_alloc_new _ _) rfl;have HU1:=Z9 (HU.out.alloc (.map tkEs 5));have HMB:=Z9 (heap_alloc_new u (.map tkEs 5));go_wp2_with fail;refine(HTK.out _ HU1.out.rd).mono ?_
 rintro e w2 ⟨v,rfl,rfl,hr,hg⟩;have Y2:=Z9 (HU1.out.call hg hr);have hmb:=zao HMB.out hg (Nat.ne_of_lt HU.out.rd.lt);have L1:(Instr.lookup 138 (.map (some u.heap.size)) (.string ⟨#[111,114]⟩) false).run Tryz.prog w2=.ok (.int .u8 14) w2:=za0 (i:=3) hmb rfl;have L2:(Instr.lookup 138 (.map (some u.heap.size)) (.string ⟨#[111,114]⟩) false).run Tryz.prog (w2.alloc (.cells #[.func (.func 63) #[.pointer (some ⟨rb,0,none⟩)] #[],.func (.func 63) #[.pointer (some ⟨rb,0,none⟩)] #[]] 93))=.ok (.int .u8 14) (w2.alloc (.cells #[.func (.func 63) #[.pointer (some ⟨rb,0,none⟩)] #[],.func (.func 63) #[.pointer (some ⟨rb,0,none⟩)] #[]] 93)):=za0 (i:=3) (zao (rb:=rb) hmb (World.grownBy_alloc w2 _ _) (Nat.ne_of_lt HU.out.rd.lt)) rfl
 have HU3:=Z9 (Y2.out.alloc (.cells #[.func (.func 63) #[.pointer (some ⟨rb,0,none⟩)] #[],.func (.func 63) #[.pointer (some ⟨rb,0,none⟩)] #[]] 93));clear hr hg hmb u0 u1 u2 u3 u4 L0;go_wp2_with fail
 have ZM:∀i (hi:i<([false,false]:List Bool).length),(w2.alloc (.cells #[.func (.func 63) #[.pointer (some ⟨rb,0,none⟩)] #[],.func (.func 63) #[.pointer (some ⟨rb,0,none⟩)] #[]] 93)).cell? ⟨w2.heap.size,i,none⟩=some (fnV rb (fnF (([false,false]:List Bool)[i]'hi))):=by
  intro i hi;have ha:=heap_alloc_new w2 (.cells #[.func (.func 63) #[.pointer (some ⟨rb,0,none⟩)] #[],.func (.func 63) #[.pointer (some ⟨rb,0,none⟩)] #[]] 93);simp only[List.length_cons,List.length_nil]at hi;unfold World.cell?
  show(match (w2.alloc _).heap[w2.heap.size]? with |some (.cells c _ _)=>c[i]? |_=>none)=_
  rw[ha]
  match i,hi with
  |0,_=>rfl
  |1,_=>rfl
 have WD:=Y2.out.rd.lt;have HM:=Z9 (HLI.out _ w2.heap.size HU3.out.rd HL.out (by simp) (by omega) ZM);clear ZM;have e2:zbf 14 (([false,false]:List Bool).map (za9 S T)) r=GR:=HGR.out.symm;rw[e2]at HM;refine HM.out.mono ?_;clear e2
 cases hq:GR with
 |no lq =>
  rintro e w3 ⟨rfl,hr,hg⟩;exact⟨rfl,zbm rfl ⟨rfl,hr,(HU3.out.call hg hr).grown⟩⟩
 |ok y ly =>
  rintro e w3 ⟨vv,rfl,⟨mm,pa,pl,pc,rfl,hx⟩,hr,hg⟩;have HU4:=Z9 (HU3.out.call hg hr);have HFIN:=Z9 (HU4.out.fin (Nat.le_refl _) HU3.out.blt hx);obtain⟨z0,z1,z2,z3,z4⟩:=zae (show w3.heap[w.heap.size]?=some (.cells #[.int .u8 0,.string ⟨#[]⟩,.string ⟨#[]⟩,.int .i64 0,.slice none 0 0] 25)from HU4.out.box)
  have fz:∀i,w3.frozen? ⟨w.heap.size,i,none⟩=false:=Lib.frozen_of_heap (show w3.heap[w.heap.size]?=some (.cells #[.int .u8 0,.string ⟨#[]⟩,.string ⟨#[]⟩,.int .i64 0,.slice none 0 0] 25)from HU4.out.box)
  have zb:=HU4.out.blt;clear hx hr hg;go_wp2_with fail;obtain⟨W',hW',hx,Zs,hr,hg⟩:=HFIN.out;rw[←hW'];obtain⟨c0,c1,c2,c3,c4⟩:=zae Zs;exact bodyPost_ret (v:=.agg #[.int .u8 y.kind,.string y.rat,.string y.name,.int .i64 y.date,.slice pa pl pc]) (by simp[results,Tryz.results63,go_sem,c0,c1,c2,c3,c4]) rfl (zcz hq ⟨_,rfl,⟨_,pa,pl,pc,rfl,hx⟩,hr,hg⟩)
theorem zub{rb n0:Nat}(S T:RdX)(hp:zhq rb n0 S T)(cS:∀l,(S l).Cons l)(cT:∀l,(T l).Cons l)(w:World)(l:List Tk)(h:RAt rb w l)(hl:l.length≤n0)(hh:zar l=[110,111,116]) :
 Calls Tryz.prog 63 #[.pointer (some ⟨rb,0,none⟩)] w (zbk (VEx w.heap.size) rb w (zbf 15 (([false]:List Bool).map (za9 S T)) l.tail)):=by
 have hmf:∀(fn:Fn)(first cap:Array Value)(w:World),(Instr.makeFunc fn first cap).run Tryz.prog w=.ok (.func fn first cap) w:=fun _ _ _ _=>rfl
 obtain⟨t,r,rfl⟩:=zbp (l:=l) (by rw[hh];simp);have HHD:=Z9 (fun W (hW:RAt rb W (t :: r))=>zbs rb W (t :: r) hW);rw[zbu hh]at HHD;have HTK:=Z9 (fun W (hW:RAt rb W (t :: r))=>zbl rb W t r hW);have HLI:=Z9 (fun W gp (hW:RAt rb W r) (hl:r.length≤n0) (h1:gp<W.heap.size) (h2:gp≠rb) (h3:∀i (hi:i<([false]:List Bool).length),W.cell? ⟨gp,i,none⟩=some (fnV rb (fnF (([false]:List Bool)[i]'hi))))=>zd9 S T hp cS cT 15 ([false]:List Bool) 1 gp rfl (by decide) W r hW hl h1 h2 h3);have HR:=Z9 h;have HL:Hid (r.length≤n0):=Z9 (by rw[List.length_cons]at hl;omega);obtain⟨GR,ZK⟩:∃GR,GR=zbf 15 (([false]:List Bool).map (za9 S T)) (t :: r).tail:=⟨_,rfl⟩
 rw[←ZK];have HGR:=Z9 ZK;clear h hl hh hp cS cT ZK;have hmm:=@run_makeMap Tryz.prog;go_enter Tryz.func63,Tryz.ntmps63;go_wp2_with fail;have HF0:=Z9 (FAt.start HR.out);refine(HHD.out _ HF0.out.rd).mono ?_;rintro e u ⟨rfl,hb⟩;have HU:=Z9 (HF0.out.below hb);clear hb;obtain⟨u0,u1,u2,u3,u4⟩:=zhe u;have L0:(Instr.lookup 138 (.map (some u.heap.size)) (.string ⟨#[110,111,116]⟩) false).run Tryz.prog (u.alloc (.map tkEs 5))=.ok (.int .u8 15) (u.alloc (.map tkEs 5)):=za0 (i:=4) (heap_alloc_new _ _) rfl;have HU1:=Z9 (HU.out.alloc (.map tkEs 5));have HMB:=Z9 (heap_alloc_new u (.map tkEs 5));go_wp2_with fail
 refine(HTK.out _ HU1.out.rd).mono ?_;rintro e w2 ⟨v,rfl,rfl,hr,hg⟩;have Y2:=Z9 (HU1.out.call hg hr);have hmb:=zao HMB.out hg (Nat.ne_of_lt HU.out.rd.lt);have L1:(Instr.lookup 138 (.map (some u.heap.size)) (.string ⟨#[110,111,116]⟩) false).run Tryz.prog w2=.ok (.int .u8 15) w2:=za0 (i:=4) hmb rfl;have L2:(Instr.lookup 138 (.map (some u.heap.size)) (.string ⟨#[110,111,116]⟩) false).run Tryz.prog (w2.alloc (.cells #[.func (.func 63) #[.pointer (some ⟨rb,0,none⟩)] #[]] 93))=.ok (.int .u8 15) (w2.alloc (.cells #[.func (.func 63) #[.pointer (some ⟨rb,0,none⟩)] #[]] 93)):=za0 (i:=4) (zao (rb:=rb) hmb (World.grownBy_alloc w2 _ _) (Nat.ne_of_lt HU.out.rd.lt)) rfl
 have HU3:=Z9 (Y2.out.alloc (.cells #[.func (.func 63) #[.pointer (some ⟨rb,0,none⟩)] #[]] 93));clear hr hg hmb u0 u1 u2 u3 u4 L0;go_wp2_with fail
 have ZM:∀i (hi:i<([false]:List Bool).length),(w2.alloc (.cells #[.func (.func 63) #[.pointer (some ⟨rb,0,none⟩)] #[]] 93)).cell? ⟨w2.heap.size,i,none⟩=some (fnV rb (fnF (([false]:List Bool)[i]'hi))):=by
  intro i hi;have ha:=heap_alloc_new w2 (.cells #[.func (.func 63) #[.pointer (some ⟨rb,0,none⟩)] #[]] 93);simp only[List.length_cons,List.length_nil]at hi;unfold World.cell?
  show(match (w2.alloc _).heap[w2.heap.size]? with |some (.cells c _ _)=>c[i]? |_=>none)=_
  rw[ha]
  match i,hi with
  |0,_=>rfl
 have WD:=Y2.out.rd.lt;have HM:=Z9 (HLI.out _ w2.heap.size HU3.out.rd HL.out (by simp) (by omega) ZM);clear ZM;have e2:zbf 15 (([false]:List Bool).map (za9 S T)) r=GR:=HGR.out.symm;rw[e2]at HM;refine HM.out.mono ?_;clear e2
 cases hq:GR with
 |no lq =>
  rintro e w3 ⟨rfl,hr,hg⟩;exact⟨rfl,zbm rfl ⟨rfl,hr,(HU3.out.call hg hr).grown⟩⟩
 |ok y ly =>
  rintro e w3 ⟨vv,rfl,⟨mm,pa,pl,pc,rfl,hx⟩,hr,hg⟩;have HU4:=Z9 (HU3.out.call hg hr);have HFIN:=Z9 (HU4.out.fin (Nat.le_refl _) HU3.out.blt hx);obtain⟨z0,z1,z2,z3,z4⟩:=zae (show w3.heap[w.heap.size]?=some (.cells #[.int .u8 0,.string ⟨#[]⟩,.string ⟨#[]⟩,.int .i64 0,.slice none 0 0] 25)from HU4.out.box)
  have fz:∀i,w3.frozen? ⟨w.heap.size,i,none⟩=false:=Lib.frozen_of_heap (show w3.heap[w.heap.size]?=some (.cells #[.int .u8 0,.string ⟨#[]⟩,.string ⟨#[]⟩,.int .i64 0,.slice none 0 0] 25)from HU4.out.box)
  have zb:=HU4.out.blt;clear hx hr hg;go_wp2_with fail;obtain⟨W',hW',hx,Zs,hr,hg⟩:=HFIN.out;rw[←hW'];obtain⟨c0,c1,c2,c3,c4⟩:=zae Zs;exact bodyPost_ret (v:=.agg #[.int .u8 y.kind,.string y.rat,.string y.name,.int .i64 y.date,.slice pa pl pc]) (by simp[results,Tryz.results63,go_sem,c0,c1,c2,c3,c4]) rfl (zcz hq ⟨_,rfl,⟨_,pa,pl,pc,rfl,hx⟩,hr,hg⟩)
theorem zx6{rb n0:Nat}(S T:RdX)(hp:zhq rb n0 S T)(cS:∀l,(S l).Cons l)(cT:∀l,(T l).Cons l)(w:World)(l:List Tk)(h:RAt rb w l)(hl:l.length≤n0) :
 Calls Tryz.prog 63 #[.pointer (some ⟨rb,0,none⟩)] w (zbk (VEx w.heap.size) rb w (zd2 S T l)):=by
 unfold zd2
 by_cases h0:zar l=[108,101,115,115]
 ·rw[if_pos h0];exact zr1 S T hp cS cT w l h hl h0
 rw[if_neg h0]
 by_cases h1:zar l=[101,113,117,97,108]
 ·rw[if_pos h1];exact zol S T hp cS cT w l h hl h1
 rw[if_neg h1]
 by_cases h2:zar l=[97,110,100]
 ·rw[if_pos h2];exact zuc S T hp cS cT w l h hl h2
 rw[if_neg h2]
 by_cases h3:zar l=[111,114]
 ·rw[if_pos h3];exact zx7 S T hp cS cT w l h hl h3
 rw[if_neg h3]
 by_cases h4:zar l=[110,111,116]
 ·rw[if_pos h4];exact zub S T hp cS cT w l h hl h4
 rw[if_neg h4]
 exact zr0 w l h (by
  intro b hb;simp only[List.mem_cons,List.not_mem_nil,or_false]at hb
  rcases hb with rfl |rfl |rfl |rfl |rfl
  ·exact h0
  ·exact h1
  ·exact h2
  ·exact h3
  ·exact h4)
theorem zq3(rb:Nat):∀n,zhq rb n (rdE n true) (rdE n false)
 |0=>fun b W l h hl=>absurd hl (Nat.not_lt_zero _)
 |n+1=>fun b W l h hl=>by
  have ih:=zq3 rb n
  cases b with
  |true=>exact z5e (rdE n true) (rdE n false) ih (zbh n true) (zbh n false) (n+1) W l h (by omega) (by omega)
  |false=>exact zx6 (rdE n true) (rdE n false) ih (zbh n true) (zbh n false) W l h (by omega)
structure KAt(rb b:Nat)(w u:World)(l:List Tk)(cs:Array Value):Prop where
 box:u.heap[b]?=some (.cells cs 40)
 rd:RAt rb u l
 grown:w.grownBy u (some rb)
 lt:rb<b
 le:w.heap.size≤b
end Go.Proofs.YtkobkpepgdddeaaGreatDoor
