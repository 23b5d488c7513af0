/-
  The program's Sub, Compare of integers. No condition.
-/
import Derived.Test.YtkobkpepgdddeaaGreatDoorYak
import Derived.WalkLawsBesides
import Derived.Outline
import Derived.Test.YtkobkpepgdddeaaGreatDoorYaf
import Derived.Test.YtkobkpepgdddeaaGreatDoorYah
import Derived.Test.YtkobkpepgdddeaaGreatDoorYag
import Derived.Laws.RangeString
namespace Go.Proofs.YtkobkpepgdddeaaGreatDoor
open Go.RowKit
set_option maxHeartbeats 16000000
set_option maxRecDepth 100000
theorem ycq(x:Int)(B d m:Nat)(h:B*d+m=x.natAbs)(hm:m<B) :
 (0≤x∨m=0→x / (B:Int)=(if x<0 then -(d:Int)else d)∧x % (B:Int)=m) ∧
 (x<0→0<m→x / (B:Int) = -((d+1:Nat):Int)∧x % (B:Int)=((B-m:Nat):Int)):=by
 have hB:(0:Int)<(B:Int):=by omega
 have hP:((B*d:Nat):Int)=(B:Int)*(d:Int):=by push_cast;rfl
 constructor
 ·intro hc
  apply(Int.ediv_emod_unique hB).2
  by_cases hx:x<0
  ·rw[if_pos hx,Int.mul_neg,←hP]
   refine⟨by omega,by omega,by omega⟩
  ·rw[if_neg hx,←hP]
   refine⟨by omega,by omega,by omega⟩
 ·intro hx h0
  apply(Int.ediv_emod_unique hB).2
  have e:(B:Int) * -((d+1:Nat):Int) = -(((B*d:Nat):Int)+B):=by
   rw[hP,Int.mul_neg];push_cast;rw[Int.mul_add,Int.mul_one]
  rw[e];refine⟨by omega,by omega,by omega⟩
theorem ycr(x y:Int)(d m:Nat)(h:y.natAbs*d+m=x.natAbs)(hm:m<y.natAbs) :
 (0≤x∨m=0→x / y=(if (decide (x<0) != decide (y<0))=true then -(d:Int)else d)∧x % y=m) ∧
 (x<0→0<m→x / y=(if (decide (x<0) != decide (y<0))=true then -((d+1:Nat):Int)else((d+1:Nat):Int))∧x % y=((y.natAbs-m:Nat):Int)):=by
 obtain⟨h1,h2⟩:=ycq x y.natAbs d m h hm
 by_cases hy:y<0
 ·have ey:y = -(y.natAbs:Int):=by omega
  constructor
  ·intro hc
   obtain⟨e1,e2⟩:=h1 hc;rw[ey,Int.ediv_neg,Int.emod_neg,←ey,e1,e2];refine⟨?_,rfl⟩
   by_cases hx:x<0<;>simp[hx,hy]
  ·intro hx h0
   obtain⟨e1,e2⟩:=h2 hx h0;rw[ey,Int.ediv_neg,Int.emod_neg,←ey,e1,e2];refine⟨?_,rfl⟩;simp[hx,hy]
 ·have ey:y=(y.natAbs:Int):=by omega
  constructor
  ·intro hc
   obtain⟨e1,e2⟩:=h1 hc;rw[←ey]at e1 e2;rw[e1,e2];refine⟨?_,rfl⟩
   by_cases hx:x<0<;>simp[hx,hy]
  ·intro hx h0
   obtain⟨e1,e2⟩:=h2 hx h0;rw[←ey]at e1 e2;rw[e1,e2];refine⟨?_,rfl⟩;simp[hx,hy]
theorem zt2(z:Int):bigZ (z.natAbs:Int)=bigZ z:=by unfold bigZ;simp
theorem zcp{x z:Int}(h:z.natAbs≤x.natAbs)(hb:bigZ x=false):bigZ z=false:=by
 rw[←zt2]at hb ⊢;exact zn6 h hb
def DmC(w:World)(gx:Nat)(nx ny:Bool)(v1 v2:Value)(x y:Int)(s9 s10:Value)(wx:World):Prop :=
 ∃a n c l a' n' c' l' ,s9=.slice a n c∧s10=.slice a' n' c'∧(l:List Nat).length=n∧(l':List Nat).length=n'∧n≤1000∧n'≤1000∧Nums .u32 wx a l∧Nums .u32 wx a' l' ∧
  (∃Q R:Nat,Rep l Q∧Rep l' R∧x / y=(if (nx != ny)=true then -(Q:Int)else Q)∧x % y=(R:Int)) ∧
  Box2 wx gx nx v1∧Box2 wx (gx+1) ny v2∧Below w.heap.size w wx
theorem z7e{w wx:World}{gx:Nat}{nx ny:Bool}{v1 v2:Value}{x y:Int}{s9 s10:Value}{Q R K:Nat}(h1:MagAt wx s9 Q)(h2:MagAt wx s10 R)(b1:Q<Bs ^ K)(b2:R<Bs ^ K)(hK:K≤1000)
 (e1:x / y=(if (nx != ny)=true then -(Q:Int)else Q)) (e2:x % y=(R:Int)) (x1:Box2 wx gx nx v1) (x2:Box2 wx (gx+1) ny v2) (hb:Below w.heap.size w wx):DmC w gx nx ny v1 v2 x y s9 s10 wx:=by
 obtain⟨a,n,c,l,q1,q2,q3,_,q5,q6⟩:=h1.len b1;obtain⟨a',n',c',l',p1,p2,p3,_,p5,p6⟩:=h2.len b2;exact⟨a,n,c,l,a',n',c',l',q1,p1,q2,p2,by omega,by omega,q5,p5,⟨Q,R,q6,p6,e1,e2⟩,x1,x2,hb⟩
def QrE(w:World)(q r:List UInt8)(n:Int)(e:Ending)(w':World):Prop:=e=.returned (.tuple #[.string ⟨q.toArray⟩,.string ⟨r.toArray⟩,.int .i64 n])∧Below w.heap.size w w'
theorem zz0(s t:ByteArray)(x y:Int)(w:World)(hs:s.size≤100000)(ht:t.size≤100000)(hx:s.data.toList=txtZ x)(hy:t.data.toList=txtZ y)(bx:bigZ x=false)(byy:bigZ y=false)(h0:y≠0) :
 Calls Tryz.prog 217 #[.string s,.string t] w (QrE w (txtZ (x / y)) (txtZ (x % y)) 0):=by
 have hq1:bigZ (x / y)=false:=zcp (Int.natAbs_ediv_le_natAbs x y) bx
 have Zp:bigZ (x % y)=false:=by
  refine zcp (x:=y) ?_ byy;have:=Int.emod_lt x h0;have:=Int.emod_nonneg x h0;omega
 have HQ1:=Z9 hq1;have HQ2:=Z9 Zp;clear hq1 Zp;have hp:=zyf s t x y w hs ht hx hy bx byy;have Z2:=zit bx;have XI:=zit byy;have HP:=Z9 hp;have HBX:=Z9 Z2;have HBY:=Z9 XI;have BBX:=Z9 bx;have BBY:=Z9 byy;clear hp hx hy bx byy Z2 XI;go_enter Tryz.func217,Tryz.ntmps217;go_wp2_with fail;refine HP.out.mono ?_;rintro e w1 ⟨a,c,la,b,d,lb,rfl,TV,S4,Xd,Zo,Ux,YO,b1⟩;obtain⟨nx,YM⟩:∃nx,nx=decide (x<0):=⟨_,rfl⟩
 obtain⟨ny,Wz⟩:∃ny,ny=decide (y<0):=⟨_,rfl⟩
 obtain⟨k1,Zh⟩:∃k1,k1=la.length:=⟨_,rfl⟩
 obtain⟨k2,Y3⟩:∃k2,k2=lb.length:=⟨_,rfl⟩
 rw[←YM,←Wz,←Zh,←Y3];have HMA:Hid (ya6 w1 (.agg #[.bool nx,.slice a k1 c]) x):=yb8 w1 a k1 c la x nx YM Zh (by omega) Xd Ux;have HMB:Hid (ya6 w1 (.agg #[.bool ny,.slice b k2 d]) y):=yb8 w1 b k2 d lb y ny Wz Y3 (by omega) Zo YO;have B1:=Z9 b1;have HNX:=Z9 YM;have HNY:=Z9 Wz;have HK1:=Z9 Zh;have HK2:=Z9 Y3;have RA:=Z9 Ux;have RB:=Z9 YO;have NA:=Z9 Xd;have NB:=Z9 Zo;have SG:=Z9 TV;clear TV S4 Xd Zo Ux YO b1 YM Wz Zh Y3;have hyp:0<y.natAbs:=by omega
 have hk:0<k2:=by rw[HK2.out];exact(zko RB.out).2 hyp
 have hkz:((k2:Int) == 0)=false:=by rw[beq_eq_false_iff_ne];omega
 have l1:=zcf la _ KM RA.out HBX.out;have l2:=zcf lb _ KM RB.out HBY.out;rw[zv4]at l1 l2
 have hdv:∀W,Below w1.heap.size w1 W→Calls Tryz.prog 227 #[.slice a k1 c,.slice b k2 d] W (zqf W x.natAbs y.natAbs):=fun W hW =>
  zmq a b k1 k2 c d x.natAbs y.natAbs la lb W HK1.out.symm HK2.out.symm (by rw[HK1.out];omega) (by rw[HK2.out];omega) (by rw[HK1.out];exact SG.out) RA.out RB.out (NA.out.below hW) (NB.out.below hW) hyp
 have HDV:=Z9 hdv;have HYP:=Z9 hyp;have L2:=Z9 l2;have hdm:=ycr x y (x.natAbs / y.natAbs) (x.natAbs % y.natAbs) (Nat.div_add_mod _ _) (Nat.mod_lt _ hyp);rw[←HNX.out,←HNY.out]at hdm;have HDM:=Z9 hdm
 have HXN:Hid (nx=true↔x<0):=by have:=HNX.out;show nx=true↔x<0;rw[this,decide_eq_true_eq]
 clear hdm hdv hyp l1 l2 h0;go_wp2_with fail;obtain⟨W0,Z7⟩:∃W0,W0=(w1.alloc (.cells #[.bool nx,.slice a k1 c] 241)).alloc (.cells #[.bool ny,.slice b k2 d] 241):=⟨_,rfl⟩
 rw[←Z7]
 have XH:Box2 W0 w1.heap.size nx (.slice a k1 c):=by rw[Z7];exact Box2.alloc (show Box2 (w1.alloc (.cells #[.bool nx,.slice a k1 c] 241)) w1.heap.size nx (.slice a k1 c)from World.alloc_heap_new w1 _) _
 have hB0:Box2 W0 (w1.heap.size+1) ny (.slice b k2 d):=by
  rw[Z7];have:=World.alloc_heap_new (w1.alloc (.cells #[.bool nx,.slice a k1 c] 241)) (.cells #[.bool ny,.slice b k2 d] 241);rw[World.size_alloc]at this;exact this
 have hbl1:Below w1.heap.size w1 W0:=by rw[Z7];exact z89 _ _ _
 refine(HDV.out _ hbl1).mono ?_;rintro e w5 ⟨v1,v2,rfl,m1,m2,b5⟩;have hbq:x.natAbs / y.natAbs<Bs ^ KM:=Nat.lt_of_le_of_lt (Nat.div_le_self _ _) HBX.out;have VJ:x.natAbs % y.natAbs<Bs ^ KM:=Nat.lt_trans (Nat.mod_lt _ HYP.out) HBY.out;obtain⟨a3,n3,c3,l3,rfl,e1,e2,e3,e4,e5⟩:=m1.len hbq;obtain⟨a4,n4,c4,l4,rfl,f1,f2,f3,f4,f5⟩:=m2.len VJ;have hA5:Box2 w5 w1.heap.size nx (.slice a k1 c):=(b5.block _ XH.lt).trans XH;have hB5:Box2 w5 (w1.heap.size+1) ny (.slice b k2 d):=(b5.block _ hB0.lt).trans hB0;have B5:Hid (Below w.heap.size w w5):=B1.out.trans ((hbl1.trans (b5.mono hbl1.size)).mono B1.out.size);have HB15:Hid (Below w1.heap.size w1 w5):=hbl1.trans (b5.mono hbl1.size)
 have M1:=Z9 m1;have M2:=Z9 m2;have A5:=Z9 hA5;have B5x:=Z9 hB5;have E1:=Z9 e1;have F1:=Z9 f1;have N4:=Z9 f4;have R4:=Z9 f5;have R3:=Z9 e5;have N3:=Z9 e4;have HQB:=Z9 hbq;have HRB:=Z9 VJ;have c0:=hA5.cell0;have c1:=hB5.cell0;have c2:=hB5.cell1;rw[zv4]at e2 f2;have S6:0<n4↔0<x.natAbs % y.natAbs:=by rw[←f1];exact zko f5
 have HN4:=Z9 S6;clear XH hB0 hbl1 Z7 b5 m1 m2 hA5 hB5 e1 f1 f4 f5 e4 e5 hbq VJ S6;obtain⟨gx,UQ⟩:∃gx,gx=w1.heap.size:=⟨_,rfl⟩
 rw[←UQ]at c0 c1 c2 A5 B5x ⊢;have HGX:Hid (w.heap.size≤gx):=by rw[UQ];exact B1.out.size
 clear UQ
 go_upto_region 7 with(fail)
 go_cut [39] (fun s wx=>s=.bool (nx && decide (0<n4))∧w5=wx)
 case first =>
  cases nx with
  |false =>
   go_wp2_with fail;go_meet;exact⟨rfl,rfl⟩
  |true =>
   go_wp2_with fail;go_meet;exact⟨by simp,rfl⟩
 case rest =>
 obtain⟨rfl,rfl⟩:=hcut;obtain⟨T,hT⟩:∃T,T=(nx && decide (0<n4)):=⟨_,rfl⟩
 rw[←hT];have HT:=Z9 hT;clear hT
 go_upto_if 39 with(fail)
 go_cut [9,10] (DmC w gx nx ny (.slice a k1 c) (.slice b k2 d) x y)
 case first =>
  cases T with
  |false =>
   have HX:Hid (DmC w gx nx ny (.slice a k1 c) (.slice b k2 d) x y (.slice a3 n3 c3) (.slice a4 n4 c4) w5):=by
    have h:0≤x∨x.natAbs % y.natAbs=0:=by
     have h1:=HT.out;have h2:=HXN.out;have h3:=HN4.out
     cases nx with
     |false=>exact .inl (by
      rcases Int.lt_or_le x 0 with h |h;·have:=h2.2 h;cases this
      ·exact h)
     |true=>exact .inr (by simp at h1;omega)
    exact z7e M1.out M2.out HQB.out HRB.out (by rw[zv4];omega) (HDM.out.1 h).1 (HDM.out.1 h).2 A5.out B5x.out B5.out
   go_wp2_with fail;go_meet;exact HX.out
  |true =>
   have hT:=HT.out.symm;rw[Bool.and_eq_true,decide_eq_true_eq]at hT;have VQ:x<0:=HXN.out.1 hT.1;have h4:=hT.2;have HXA:=Z9 hT;clear hT;have Yl:=HN4.out.1 h4;have hdm:=HDM.out.2 VQ Yl;have HD2:=Z9 hdm
   have XL:∀W b2,Below w5.heap.size w5 W→W.cell? ⟨b2,0,none⟩=some (.int .u32 1)→Calls Tryz.prog 239 #[.slice a3 n3 c3,.slice (some ⟨b2,0,none⟩) 1 1] W (zji W (x.natAbs / y.natAbs+1)):=fun W b2 hW hc=>by
    have:=z3g a3 (some ⟨b2,0,none⟩) n3 1 c3 1 l3 [1] W E1.out rfl (by omega) (by omega) R3.out.1 (by simp;decide) (N3.out.below hW) (fun i hi=>by
     obtain rfl:i=0:=by simpa using hi
     exact⟨b2,0,rfl,zf2 (a:=⟨b2,0,none⟩) hc,hc⟩)
    rwa [R3.out.2.2,show val [1]=1 by simp[val]]at this
   have hmi:∀W,Below w5.heap.size w5 W→Calls Tryz.prog 240 #[.slice b k2 d,.slice a4 n4 c4] W (zji W (y.natAbs-x.natAbs % y.natAbs)):=fun W hW=>by
    have Z4:x.natAbs % y.natAbs<y.natAbs:=Nat.mod_lt _ HYP.out;have:=zpm b a4 k2 n4 d c4 lb l4 W HK2.out.symm F1.out (by rw[HK2.out];have:=L2.out;omega) (by rw[HK2.out,←F1.out];exact zfe lb l4 _ _ RB.out R4.out (by omega)) RB.out.1 R4.out.1 (by rw[RB.out.2.2,R4.out.2.2];omega) ((NB.out.below HB15.out).below hW) (N4.out.below hW)
    rwa [RB.out.2.2,R4.out.2.2]at this
   have HPL:=Z9 XL;have HMI:=Z9 hmi
   have HALL:Hid (∀W:World,Below w5.heap.size w5 W→W.cell? ⟨gx+1,1,none⟩=some (.slice b k2 d)∧Below w5.heap.size w5 W):=fun W h=>⟨Box2.cell1 ((h.block _ B5x.out.lt).trans B5x.out),h⟩
   have HST:Hid (Below w5.heap.size w5 w5.drew):=(Below.refl _ _).drew
   have Zi:Hid (∀o:Obj,Below w5.heap.size w5 (w5.alloc o).drew):=fun o=>((Below.refl _ _).alloc (Nat.le_refl _) _).drew
   have HCE:Hid ((w5.alloc (.cells #[.int .u32 1] 247)).drew.cell? ⟨w5.heap.size,0,none⟩=some (.int .u32 1)):=(zc0 (w:=w5) (c:=#[.int .u32 1]) (l:=[.int .u32 1]) (t:=247) rfl rfl).cell (i:=0) (by simp);clear VQ Yl hdm XL hmi
   go_upto_region 8 with(fail)
   go_region_held3 (fun W=>W.cell? ⟨gx+1,1,none⟩=some (.slice b k2 d)∧Below w5.heap.size w5 W)
    ((first |with_reducible exact HALL.out _ HST.out |with_reducible exact HALL.out _ (Below.refl _ _) |with_reducible exact HALL.out _ (HG2.out) |with_reducible exact HALL.out _ (HG1.out) |with_reducible exact HALL.out _ (Zi.out _)))
    ((first
     |(go_at_call 239;refine(HPL.out _ w5.heap.size (Zi.out _) HCE.out).mono ?_;rintro e wp ⟨v,l,rfl,ho,hr,hb⟩;have hP:MagAt wp v _:=MagAt.of_own ho hr;have HG1:Hid (Below w5.heap.size w5 wp):=(Zi.out _).trans (hb.mono (Zi.out _).size);have HPX:=Z9 hP;clear ho hr hb hP)
     |(go_at_call 240;refine(HMI.out _ HG1.out).mono ?_;rintro e wk ⟨v',l',rfl,ho,hr,hb⟩;have hP:MagAt wk v' _:=MagAt.of_own ho hr;have HG2:Hid (Below w5.heap.size w5 wk):=HG1.out.trans (hb.mono HG1.out.size);have HPM:=Z9 hP;have HPX2:=Z9 (HPX.out.below hb);clear ho hr hb hP)))
   all_goals
    go_wp2_with fail;go_meet;refine z7e (K:=KM+1) HPX2.out HPM.out ?_ ?_ (by rw[zv4];omega) HD2.out.1 HD2.out.2 ((HG2.out.block _ A5.out.lt).trans A5.out) ((HG2.out.block _ B5x.out.lt).trans B5x.out) (B5.out.trans (HG2.out.mono B5.out.size))
    ·have h1:=HQB.out
     have h2:Bs ^ KM<Bs ^ (KM+1):=Nat.pow_lt_pow_right z1d (Nat.lt_succ_self _);omega
    ·have h1:=HBY.out
     have h2:Bs ^ KM<Bs ^ (KM+1):=Nat.pow_lt_pow_right z1d (Nat.lt_succ_self _);omega
 case rest =>
  obtain⟨a6,n6,c6,l6,a7,n7,c7,l7,rfl,rfl,g1,g2,g3,g4,g5,g6,⟨Q,R,g7,g8,g9,g10⟩,g11,g12,g13⟩:=hcut;have U9:=zka (nx != ny) a6 n6 c6 Q l6 wc g1 (by omega) g7 g5;rw[←g9]at U9
  have Vb:∀W,Below wc.heap.size wc W→Calls Tryz.prog 228 #[.agg #[.bool false,.slice a7 n7 c7]] W (zqe W (x % y)):=fun W hW=>by
   have:=zka false a7 n7 c7 R l7 W g2 (by omega) g8 (g6.below hW)
   rwa [if_neg (by decide),←g10]at this
  have YW:=Z9 U9;have HW2:=Z9 Vb;have BC:=Z9 g13;have q0:=g11.cell0;have q1:=g12.cell0;clear U9 Vb g1 g2 g5 g6 g7 g8 g9 g10 g11 g12 g13 c0 c1 c2;go_wp2_with fail;refine YW.out.mono ?_;rintro e w7 ⟨hq,b7⟩
  rcases hq with⟨hq,_⟩ |⟨_,rfl⟩
  ·rw[HQ1.out]at hq;cases hq
  have B7:=Z9 b7;clear b7;go_wp2_with fail;refine(HW2.out _ B7.out).mono ?_;rintro e w8 ⟨hq,b8⟩
  rcases hq with⟨hq,_⟩ |⟨_,rfl⟩
  ·rw[HQ2.out]at hq;cases hq
  have B8:=Z9 b8;clear b8;go_wp2_with fail;go_ret3;have h7:=BC.out.trans (B7.out.mono BC.out.size);exact⟨rfl,h7.trans (B8.out.mono h7.size)⟩
open Go.Shelf
def QrB(W:World)(q r:ByteArray)(e:Ending)(w':World):Prop:=e=.returned (.tuple #[.string q,.string r,.int .i64 0])∧Below W.heap.size W w'
def StE(W:World)(q:ByteArray)(n:Int)(e:Ending)(w':World):Prop:=e=.returned (.tuple #[.string q,.int .i64 n])∧Below W.heap.size W w'
theorem z9r(s t g g' n d r1 r2:ByteArray)(neg one:Bool)(w:World)(h0:0<t.size)(t0:(t.toList == [48])=false)(t1:((t[0].toNat:Int) == 45)=neg)(hg':g'=if neg=true then⟨#[45]⟩ ++ g else g)
 (HG:Hid (∀W,Calls Tryz.prog 205 #[.string s,.string t] W (zv5 W g)))
 (HN:Hid (∀W,Calls Tryz.prog 217 #[.string s,.string g'] W (QrB W n r1)))
 (HD:Hid (∀W,Calls Tryz.prog 217 #[.string t,.string g'] W (QrB W d r2)))
 (t2:(d.toList == [49])=one) (hl:n.size+d.size≤1000000) (V1:g.size≤100000) :
 Calls Tryz.prog 186 #[.string s,.string t] w (StE w (if one=true then n else n ++ ⟨#[47]⟩ ++ d) 0):=by
 cases neg<;>cases one<;>simp only[if_true,Bool.false_eq_true,if_false]at hg' ⊢ <;> subst hg'
 all_goals
  go_enter Tryz.func186,Tryz.ntmps186;go_wp2_with fail;refine(HG.out _).mono ?_;rintro e w1 ⟨rfl,b1⟩;have B1:=Z9 b1;clear b1;go_wp2_with fail;refine(HN.out _).mono ?_;rintro e w2 ⟨rfl,b2⟩;have B2:=Z9 (B1.out.trans (b2.mono B1.out.size));clear b2;go_wp2_with fail;refine(HD.out _).mono ?_;rintro e w3 ⟨rfl,b3⟩;have B3:=Z9 (B2.out.trans (b3.mono B2.out.size));clear b3;go_wp2_with fail;go_ret2;exact⟨rfl,B3.out⟩
def ratN(x y:Int):Int:=(if y<0 then -x else x) / (Nat.gcd x.natAbs y.natAbs:Int)
def ratD(x y:Int):Int:=(y.natAbs:Int) / (Nat.gcd x.natAbs y.natAbs:Int)
def ratT(n d:Int):List UInt8:=if d=1 then txtZ n else txtZ n ++ 47 :: txtZ d
theorem zis(a b:ByteArray):(a ++ b).data.toList=a.data.toList ++ b.data.toList:=by simp
theorem z9q(s t:ByteArray)(x y:Int)(w:World)(hs:s.size≤100000)(ht:t.size≤100000)(hx:s.data.toList=txtZ x)(hy:t.data.toList=txtZ y)(bx:bigZ x=false)(byy:bigZ y=false)(h0:y≠0) :
 Calls Tryz.prog 186 #[.string s,.string t] w (z7n w (ratT (ratN x y) (ratD x y)) 0):=by
 have Vl:0<Nat.gcd x.natAbs y.natAbs:=Nat.gcd_pos_of_pos_right _ (by omega)
 have Yq:bigZ (Nat.gcd x.natAbs y.natAbs:Int)=false:=by
  refine zcp (x:=y) ?_ byy;simp only[Int.natAbs_natCast];exact Nat.gcd_le_right _ (by omega)
 have HG:Hid (∀W,Calls Tryz.prog 205 #[.string s,.string t] W (zv5 W ⟨(txtZ (Nat.gcd x.natAbs y.natAbs:Int)).toArray⟩)):=fun W=>ztm s t x y W hs ht hx hy bx byy
 obtain⟨G,hG⟩:∃G,G=Nat.gcd x.natAbs y.natAbs:=⟨_,rfl⟩
 have hts:0<t.size:=by
  rw[←zab,hy];unfold txtZ
  split
  ·simp
  ·exact List.length_pos_iff.2 (zgb _)
 have Vx:(t.toList == [48])=false:=by
  rw[zag,hy,list_beq];intro h;have:txtZ y=txtZ 0:=h;exact h0 (zh2 this)
 have hhead:=zdi t hts;rw[hy]at hhead
 have hneg:((t[0].toNat:Int) == 45)=decide (y<0):=by
  have hh:=zh3 y;rw[hhead]at hh;rw[Bool.eq_iff_iff,beq_iff_eq,decide_eq_true_eq,←hh]
  constructor
  ·intro h;rw[z7v (c:=t[0]) (n:=45) h (by omega)];rfl
  ·intro h;injection h with h;rw[h];rfl
 unfold ratN ratD;rw[←hG]at HG Vl Yq ⊢;obtain⟨g,hg⟩:∃g:ByteArray,g=⟨(txtZ (G:Int)).toArray⟩:=⟨_,rfl⟩
 rw[←hg]at HG
 -- the divisor,its sign
 have key:∀z:Int,z=(if y<0 then -(G:Int)else(G:Int))→∀g':ByteArray,g'=(if decide (y<0)=true then⟨#[45]⟩ ++ g else g)→g'.data.toList=txtZ z∧bigZ z=false∧z≠0∧g'.size≤100000:=by
  intro z hz g' hg'
  have e1:g'.data.toList=txtZ z:=by
   rw[hg',hz,hg]
   by_cases Uf:y<0
   ·rw[if_pos (by simpa using Uf),if_pos Uf,zis,zsi Vl,zm3];rfl
   ·rw[if_neg (by simpa using Uf),if_neg Uf]
  have e2:bigZ z=false:=by
   refine zcp (x:=(G:Int)) ?_ Yq
   rw[hz];split<;>simp
  refine⟨e1,e2,by rw[hz];split<;>omega,?_⟩;rw[←zab,e1];have:=zfl e2;unfold txtZ
  split<;>simp[zfn]<;>omega
 obtain⟨z,hz⟩:∃z:Int,z=(if y<0 then -(G:Int)else(G:Int)):=⟨_,rfl⟩
 obtain⟨g',hg'⟩:∃g':ByteArray,g'=(if decide (y<0)=true then⟨#[45]⟩ ++ g else g):=⟨_,rfl⟩
 obtain⟨k1,k2,k3,k4⟩:=key z hz g' hg'
 have hn:=fun W=>zz0 s g' x z W hs k4 hx k1 bx k2 k3
 have hd:=fun W=>zz0 t g' y z W ht k4 hy k1 byy k2 k3
 have e1:x / z=(if y<0 then -x else x) / (G:Int):=by
  rw[hz];split
  ·rw[Int.ediv_neg]
   have:(G:Int) ∣ x:=by rw[hG];exact Int.ofNat_dvd_left.2 (Nat.gcd_dvd_left _ _)
   rw[Int.neg_ediv_of_dvd this]
  ·rfl
 have e2:y / z=(y.natAbs:Int) / (G:Int):=by
  have:(G:Int) ∣ y:=by rw[hG];exact Int.ofNat_dvd_left.2 (Nat.gcd_dvd_right _ _)
  rw[hz];split
  ·rename_i h
   rw[Int.ediv_neg,←Int.neg_ediv_of_dvd this,show -y=(y.natAbs:Int)by omega]
  ·rename_i h
   rw[show(y.natAbs:Int)=y by omega]
 rw[e1]at hn;rw[e2]at hd
 obtain⟨N,hN⟩:∃N,N=(if y<0 then -x else x) / (G:Int):=⟨_,rfl⟩
 obtain⟨D,hD⟩:∃D,D=(y.natAbs:Int) / (G:Int):=⟨_,rfl⟩
 have bN:bigZ N=false:=by
  refine zcp (x:=x) ?_ bx;rw[hN];refine Nat.le_trans (Int.natAbs_ediv_le_natAbs _ _) ?_
  split<;>simp
 have bD:bigZ D=false:=by
  refine zcp (x:=y) ?_ byy;rw[hD];refine Nat.le_trans (Int.natAbs_ediv_le_natAbs _ _) ?_;simp
 rw[←hN]at hn ⊢;rw[←hD]at hd ⊢
 have len:∀z:Int,bigZ z=false→(txtZ z).length≤1001:=fun z h=>by
  have:=zfl h;unfold txtZ
  split<;>simp[zfn]<;>omega
 have l1:=len N bN;have l2:=len D bD
 have hone:((⟨(txtZ D).toArray⟩:ByteArray).toList == [49])=decide (D=1):=by
  rw[zag,Bool.eq_iff_iff,beq_iff_eq,decide_eq_true_eq]
  constructor
  ·intro h;exact zh2 (h.trans txtZ_1.symm)
  ·intro h;rw[h];exact txtZ_1
 have:=z9r s t g g' ⟨(txtZ N).toArray⟩ ⟨(txtZ D).toArray⟩ _ _ _ _ w hts Vx hneg hg' HG (Z9 hn) (Z9 hd) hone (by
  rw[←zab,←zab];simp;omega) (by rw[hg,←zab];have:=len _ Yq;simp;omega)
 refine this.mono fun e w' ⟨h1,h2⟩=>⟨?_,h2⟩
 rw[h1]
 have e3:(if decide (D=1)=true then(⟨(txtZ N).toArray⟩:ByteArray)else⟨(txtZ N).toArray⟩ ++ ⟨#[47]⟩ ++ ⟨(txtZ D).toArray⟩)=⟨(ratT N D).toArray⟩:=by
  apply Go.WideShapes.bytes_inj;unfold ratT
  by_cases Xn:D=1
  ·simp[Xn]
  ·simp[Xn]
 rw[e3]
def zob(n d:Int):Prop:=0<d∧Nat.gcd n.natAbs d.natAbs=1∧bigZ n=false∧bigZ d=false
def dgQ(c:UInt8):Bool:=decide (48≤c.toNat∧c.toNat≤57)
def blQ(c:UInt8):Bool:=decide (c.toNat=32∨c.toNat=9∨c.toNat=10)
def wdQ(c:UInt8):Bool:=letB c ||othB c
def spn(p:UInt8→Bool):List UInt8→Nat
 | []=>0
 |c :: l=>if p c=true then spn p l+1 else 0
def skS:Bool→List UInt8→Nat
 |_,[]=>0
 |false,c :: l=>if blQ c=true then skS false l+1 else if c.toNat=35 then skS true l+1 else 0
 |true,c :: l=>if c.toNat=10 then skS false l+1 else skS true l+1
def endQ:List UInt8→Bool
 | []=>true
 |c :: _ => !wdQ c && decide (c.toNat≠34∧c.toNat≠46∧c.toNat≠47)
def dayQ:List UInt8→Bool
 |c0 :: c1 :: c2 :: c3 :: c4 :: c5 :: c6 :: c7 :: c8 :: c9 :: _=>dgQ c0 && dgQ c1 && dgQ c2 && dgQ c3 && decide (c4.toNat=45) && dgQ c5 && dgQ c6 && decide (c7.toNat=45) && dgQ c8 && dgQ c9
 |_=>false
def datV(l:List UInt8):Option Nat :=
 let y:=numV (l.take 4)
 let m:=numV ((l.drop 5).take 2)
 let d:=numV ((l.drop 8).take 2)
 if 1900≤y∧1≤m∧m≤12∧1≤d∧d≤zb8 y m∧yd y+mdR y (m-1)+d≤100000 then some (yd y+mdR y (m-1)+d-1)else none
def frcQ:List UInt8→Bool
 |c :: d :: _=>decide (c.toNat=46∨c.toNat=47) && dgQ d
 |_=>false
def dgH:List UInt8→Bool
 | []=>false
 |c :: _=>dgQ c
def bsL(l:List UInt8):ByteArray:=⟨l.toArray⟩
inductive OneR where
 |no (e:Int)
 |yes (t:Tk) (n:Nat)
def zhr(neg:Bool)(front:List UInt8)(mk:Nat)(back:List UInt8):List UInt8 :=
 let X:Nat:=if mk=46 then numV (front ++ back)else numV front
 let Y:Nat:=if mk=46 then 10 ^ back.length else if mk=47 then numV back else 1
 ratT (ratN (if neg=true then -(X:Int)else(X:Int)) (Y:Int)) (ratD (if neg=true then -(X:Int)else(X:Int)) (Y:Int))
def numO(neg:Bool)(front:List UInt8)(mk:Nat)(back:List UInt8)(ended:Bool)(n:Nat):OneR :=
 if (1<front.length∧front.head?=some 48)∨ended=false∨(mk=47∧back.head?=some 48)then .no 12
 else if 1000<front.length∨(mk=46∧1000<front.length+back.length)∨1000<back.length then .no 14
 else .yes ⟨3,bsL [],bsL (zhr neg front mk back),0,0⟩ n
def numS(l:List UInt8):Nat:=if l.head?=some 45 then 1 else 0
def numK(l:List UInt8):OneR :=
 let s:=numS l
 let a:=spn dgQ (l.drop s)
 let r:=l.drop (s+a)
 if frcQ r=true then
  let b:=spn dgQ (r.drop 1)
  numO (decide (s=1)) ((l.drop s).take a) (r.headD 0).toNat ((r.drop 1).take b) (endQ (r.drop (1+b))) (s+a+1+b)
 else numO (decide (s=1)) ((l.drop s).take a) 0 [] (endQ r) (s+a)
def oneL(l:List UInt8):OneR :=
 match l with
 | []=>.no 12
 |c :: r =>
  if letB c=true then
   if 40<spn wdQ r+1 then .no 12 else .yes ⟨1,bsL ((c :: r).take (spn wdQ r+1)),bsL [],0,0⟩ (spn wdQ r+1)
  else if c.toNat=34 then
   let k:=spn (fun x=>decide (x.toNat≠34)) r
   if k<r.length∧nmB (r.take k)=true then .yes ⟨2,bsL (r.take k),bsL [],0,0⟩ (k+2)else .no 12
  else if dayQ (c :: r)=true then
   if endQ ((c :: r).drop 10)=true then
    match datV (c :: r)with
    |some day=>.yes ⟨4,bsL [],bsL [],day,0⟩ 10
    |none=>.no 40
   else .no 12
  else if dgQ c=true∨(c.toNat=45∧dgH r=true)then numK (c :: r)
  else if mkB c=true then .yes ⟨5,bsL [c],bsL [],0,0⟩ 1
  else .no 12
inductive LexR where
 |no (place:Nat) (e:Int)
 |yes (l:List Tk)
def pre1(t:Tk):LexR→LexR
 | .no i e=>.no i e
 | .yes l=>.yes (t :: l)
def preL(ts:List Tk):LexR→LexR
 | .no i e=>.no i e
 | .yes l=>.yes (ts ++ l)
def lexL(off:Nat)(l:List UInt8):LexR :=
 match _h:l.drop (skS false l)with
 | []=>.yes []
 |c :: r =>
  match oneL (c :: r)with
  | .no e=>.no (off+skS false l) e
  | .yes t n=>pre1 { t with place:=((off+skS false l:Nat):Int) } (lexL (off+skS false l+n) (r.drop (n-1)))
termination_by l.length
decreasing_by
 have h1:=congrArg List.length _h;simp at h1 ⊢;omega
theorem zeg(p:UInt8→Bool)(l:List UInt8):spn p l≤l.length:=by
 induction l with
 |nil=>exact Nat.le_refl _
 |cons c l ih=>unfold spn;split<;>simp<;>omega
theorem zgi(b:Bool)(l:List UInt8):skS b l≤l.length:=by
 induction l generalizing b with
 |nil=>cases b<;>exact Nat.le_refl _
 |cons c l ih =>
  have h1:=ih false;have h2:=ih true
  cases b
  ·unfold skS;split
   ·simp;omega
   ·split<;>simp<;>omega
  ·unfold skS;split<;>simp<;>omega
theorem znq{neg:Bool}{front:List UInt8}{mk:Nat}{back:List UInt8}{ended:Bool}{n:Nat}{t:Tk}{m:Nat}(h:numO neg front mk back ended n=.yes t m):m=n:=by
 unfold numO at h
 split at h
 ·cases h
 ·split at h
  ·cases h
  ·injection h with _ h;exact h.symm
theorem z7f{c:UInt8}(h:dgQ c=true):c≠45:=by
 rintro rfl;exact absurd h (by decide)
theorem zdd{c:UInt8}{r:List UInt8}(h:letB c=true):oneL (c :: r)=if 40<spn wdQ r+1 then .no 12 else .yes ⟨1,bsL ((c :: r).take (spn wdQ r+1)),bsL [],0,0⟩ (spn wdQ r+1):=by
 unfold oneL;dsimp only;rw[if_pos h]
theorem zcn{c:UInt8}{r:List UInt8}(h:c.toNat=34):oneL (c :: r)=if spn (fun x=>decide (x.toNat≠34)) r<r.length∧nmB (r.take (spn (fun x=>decide (x.toNat≠34)) r))=true then .yes ⟨2,bsL (r.take (spn (fun x=>decide (x.toNat≠34)) r)),bsL [],0,0⟩ (spn (fun x=>decide (x.toNat≠34)) r+2)else .no 12:=by
 have:¬letB c=true:=by unfold letB;simp;omega
 unfold oneL;dsimp only;rw[if_neg this,if_pos h]
theorem zz5{c:UInt8}(h:dgQ c=true):¬letB c=true:=by unfold dgQ at h;unfold letB;simp at h ⊢;omega
theorem z7g{c:UInt8}(h:dgQ c=true):¬c.toNat=34:=by unfold dgQ at h;simp at h;omega
theorem zlg{c:UInt8}{r:List UInt8}(h:dayQ (c :: r)=true):dgQ c=true:=by
 unfold dayQ at h
 split at h
 ·rename_i UN;injection UN with h1 h2;subst h1;simp only[Bool.and_eq_true]at h;exact h.1.1.1.1.1.1.1.1.1
 ·cases h
theorem zey{c:UInt8}{r:List UInt8}(h:dayQ (c :: r)=true):oneL (c :: r)=if endQ ((c :: r).drop 10)=true then(match datV (c :: r)with |some day=>.yes ⟨4,bsL [],bsL [],day,0⟩ 10 |none=>.no 40)else .no 12:=by
 have hd:=zlg h;unfold oneL;dsimp only;rw[if_neg (zz5 hd),if_neg (z7g hd),if_pos h]
theorem zex{c:UInt8}{r:List UInt8}(h:¬dayQ (c :: r)=true)(hd:dgQ c=true∨(c.toNat=45∧dgH r=true)):oneL (c :: r)=numK (c :: r):=by
 have h1:¬letB c=true:=by
  rcases hd with hd |⟨hd,_⟩
  ·exact zz5 hd
  ·unfold letB;simp;omega
 have h2:¬c.toNat=34:=by
  rcases hd with hd |⟨hd,_⟩
  ·exact z7g hd
  ·omega
 unfold oneL;dsimp only;rw[if_neg h1,if_neg h2,if_neg h,if_pos hd]
theorem zk2(c:UInt8):mkB c=true↔c.toNat=40∨c.toNat=41∨c.toNat=123∨c.toNat=125∨c.toNat=44∨c.toNat=59∨c.toNat=64∨c.toNat=43∨c.toNat=42∨c.toNat=45:=by
 unfold mkB zez;simp only[Bool.or_eq_true,decide_eq_true_eq,List.mem_cons,List.not_mem_nil,or_false,←UInt8.toNat_inj]
 show((c.toNat=40∨c.toNat=41∨c.toNat=123∨c.toNat=125∨c.toNat=44∨c.toNat=59∨c.toNat=64∨c.toNat=43∨c.toNat=42)∨_)↔_
 omega
theorem zde{c:UInt8}{r:List UInt8}(h:mkB c=true)(hd:¬(c.toNat=45∧dgH r=true)):oneL (c :: r)=.yes ⟨5,bsL [c],bsL [],0,0⟩ 1:=by
 rw[zk2]at h;have h1:¬letB c=true:=by unfold letB;simp;omega
 have h2:¬c.toNat=34:=by omega
 have h4:¬dgQ c=true:=by unfold dgQ;simp;omega
 have h3:¬dayQ (c :: r)=true:=fun h=>h4 (zlg h)
 unfold oneL;dsimp only;rw[if_neg h1,if_neg h2,if_neg h3,if_neg (by rintro(a |a);exact h4 a;exact hd a),if_pos ((zk2 c).2 h)]
theorem zdz{c:UInt8}{r:List UInt8}(h1:¬letB c=true)(h2:¬c.toNat=34)(h4:¬dgQ c=true)(h5:¬mkB c=true):oneL (c :: r)=.no 12:=by
 have h3:¬dayQ (c :: r)=true:=fun h=>h4 (zlg h)
 have h6:¬c.toNat=45:=fun h=>h5 ((zk2 c).2 (by omega))
 unfold oneL;dsimp only;rw[if_neg h1,if_neg h2,if_neg h3,if_neg (by rintro(a |a);exact h4 a;exact h6 a.1),if_neg h5]
theorem zfg(c:UInt8)(r:List UInt8):letB c=true∨c.toNat=34∨dayQ (c :: r)=true∨(¬dayQ (c :: r)=true∧(dgQ c=true∨(c.toNat=45∧dgH r=true)))∨(mkB c=true∧¬(c.toNat=45∧dgH r=true))∨(¬letB c=true∧¬c.toNat=34∧¬dgQ c=true∧¬mkB c=true):=by
 by_cases h1:letB c=true
 ·exact .inl h1
 by_cases h2:c.toNat=34
 ·exact .inr (.inl h2)
 by_cases h3:dayQ (c :: r)=true
 ·exact .inr (.inr (.inl h3))
 by_cases h4:dgQ c=true∨(c.toNat=45∧dgH r=true)
 ·exact .inr (.inr (.inr (.inl ⟨h3,h4⟩)))
 by_cases h5:mkB c=true
 ·exact .inr (.inr (.inr (.inr (.inl ⟨h5,fun h=>h4 (.inr h)⟩))))
 ·exact .inr (.inr (.inr (.inr (.inr ⟨h1,h2,fun h=>h4 (.inl h),h5⟩))))
theorem z3u{c:UInt8}{r:List UInt8}(hh:dgQ c=true∨(c.toNat=45∧dgH r=true)){t:Tk}{n:Nat}(h:numK (c :: r)=.yes t n):1≤n:=by
 have hs:1≤numS (c :: r)+spn dgQ ((c :: r).drop (numS (c :: r))):=by
  rcases hh with hd |⟨XN,hd⟩
  ·have:numS (c :: r)=0:=by unfold numS;rw[if_neg];simp;exact z7f hd
   rw[this];show 1≤0+spn dgQ (c :: r);unfold spn;rw[if_pos hd];omega
  ·have:numS (c :: r)=1:=by unfold numS;rw[if_pos];simp;rw[←UInt8.toNat_inj];exact XN
   omega
 unfold numK at h;dsimp only at h
 split at h
 ·have:=znq h;omega
 ·have:=znq h;omega
theorem zd6{l:List UInt8}{t:Tk}{n:Nat}(h:oneL l=.yes t n):1≤n:=by
 cases l with
 |nil=>cases h
 |cons c r =>
  rcases zfg c r with w |w |w |⟨w,v⟩ |⟨w,v⟩ |⟨w1,w2,w3,w4⟩
  ·rw[zdd w]at h;split at h
   ·cases h
   ·injection h with _ h;omega
  ·rw[zcn w]at h;split at h
   ·injection h with _ h;omega
   ·cases h
  ·rw[zey w]at h;split at h
   ·split at h
    ·injection h with _ h;omega
    ·cases h
   ·cases h
  ·rw[zex w v]at h;exact z3u v h
  ·rw[zde w v]at h;injection h with _ h;omega
  ·rw[zdz w1 w2 w3 w4]at h;cases h
theorem zbc{off:Nat}{l:List UInt8}(h:skS false l=l.length):lexL off l=.yes []:=by
 unfold lexL
 split
 ·rfl
 ·rename_i c r hh
  rw[h,List.drop_length]at hh;cases hh
theorem zek{off:Nat}{l:List UInt8}{e:Int}(h:skS false l<l.length)(ho:oneL (l.drop (skS false l))=.no e):lexL off l=.no (off+skS false l) e:=by
 unfold lexL
 split
 ·rename_i hh
  have:=congrArg List.length hh;simp at this;omega
 ·rename_i c r hh
  rw[hh]at ho;rw[ho]
theorem zcc{off:Nat}{l:List UInt8}{t:Tk}{n:Nat}(h:skS false l<l.length)(ho:oneL (l.drop (skS false l))=.yes t n) :
 lexL off l=pre1 { t with place:=((off+skS false l:Nat):Int) } (lexL (off+skS false l+n) (l.drop (skS false l+n))):=by
 have hn:=zd6 ho;rw[lexL]
 split
 ·rename_i hh
  have:=congrArg List.length hh;simp at this;omega
 ·rename_i c r hh
  rw[hh]at ho;rw[ho];dsimp only
  congr 2
  rw[←List.drop_drop,hh];obtain⟨k,rfl⟩:∃k,n=k+1:=⟨n-1,by omega⟩
  rfl
theorem zyb(ts:List Tk)(t:Tk)(R:LexR):preL ts (pre1 t R)=preL (ts ++ [t]) R:=by
 cases R
 ·rfl
 ·unfold preL pre1;simp
theorem znl(R:LexR):preL [] R=R:=by cases R<;>rfl
theorem ziz{p:UInt8→Bool}(l:List UInt8){s:UInt8}(X:List UInt8)(h:p s=false):spn p (l ++ s :: X)=spn p l:=by
 induction l with
 |nil=>show spn p (s :: X)=0;unfold spn;rw[if_neg (by rw[h];decide)]
 |cons c l ih=>show spn p (c :: (l ++ s :: X))=_;unfold spn;rw[ih]
theorem z2a{p:UInt8→Bool}{l:List UInt8}{s:UInt8}(X:List UInt8)(h:spn p l=l.length)(hs:p s=true):l.length<spn p (l ++ s :: X):=by
 induction l with
 |nil=>show 0<spn p (s :: X);unfold spn;rw[if_pos hs];omega
 |cons c l ih =>
  show _<spn p (c :: (l ++ s :: X))
  unfold spn at h ⊢
  split at h
  ·rename_i hc;rw[if_pos hc];simp at h ⊢;exact ih h
  ·simp at h
theorem zxc{p:UInt8→Bool}{l:List UInt8}(X:List UInt8)(h:spn p l<l.length):spn p (l ++ X)=spn p l:=by
 induction l with
 |nil=>simp at h
 |cons c l ih =>
  show spn p (c :: (l ++ X))=_
  unfold spn at h ⊢
  split at h
  ·rename_i hc;rw[if_pos hc,if_pos hc,ih (by simpa using h)]
  ·rename_i hc;rw[if_neg hc,if_neg hc]
theorem zgv{s:UInt8}(h:blQ s=true):s.toNat=32∨s.toNat=9∨s.toNat=10:=by unfold blQ at h;simpa using h
theorem z03{s:UInt8}(h:blQ s=true):wdQ s=false:=by
 have:=zgv h;unfold wdQ letB othB;simp;omega
theorem zp9{s:UInt8}(h:blQ s=true):dgQ s=false:=by
 have:=zgv h;unfold dgQ;simp;omega
theorem znz{s:UInt8}(h:blQ s=true)(l X:List UInt8):endQ (l ++ s :: X)=endQ l:=by
 cases l with
 |nil =>
  have:=zgv h
  show endQ (s :: X)=true
  show(!wdQ s && decide (s.toNat≠34∧s.toNat≠46∧s.toNat≠47))=true
  rw[z03 h];simp;omega
 |cons c l=>rfl
theorem yal{s:UInt8}(h:blQ s=true)(l X:List UInt8):dgH (l ++ s :: X)=dgH l:=by
 cases l with
 |nil=>exact zp9 h
 |cons c l=>rfl
theorem zr2{l:List UInt8}(h:dayQ l=true){i:Nat}(hi:i<10):∃c,l[i]?=some c∧(dgQ c=true∨c.toNat=45):=by
 unfold dayQ at h
 split at h
 ·simp only[Bool.and_eq_true,decide_eq_true_eq]at h
  obtain⟨⟨⟨⟨⟨⟨⟨⟨⟨h0,h1⟩,h2⟩,h3⟩,h4⟩,h5⟩,h6⟩,h7⟩,h8⟩,h9⟩:=h
  rcases i with _ |_ |_ |_ |_ |_ |_ |_ |_ |_ |i
  ·exact⟨_,rfl,.inl h0⟩
  ·exact⟨_,rfl,.inl h1⟩
  ·exact⟨_,rfl,.inl h2⟩
  ·exact⟨_,rfl,.inl h3⟩
  ·exact⟨_,rfl,.inr h4⟩
  ·exact⟨_,rfl,.inl h5⟩
  ·exact⟨_,rfl,.inl h6⟩
  ·exact⟨_,rfl,.inr h7⟩
  ·exact⟨_,rfl,.inl h8⟩
  ·exact⟨_,rfl,.inl h9⟩
  ·omega
 ·cases h
theorem zf1{l:List UInt8}(h:dayQ l=true):10≤l.length:=by
 obtain⟨c,hc,_⟩:=zr2 h (i:=9) (by omega);have:=(List.getElem?_eq_some_iff.1 hc).1;omega
theorem ten{l:List UInt8}(h:10≤l.length):∃c0 c1 c2 c3 c4 c5 c6 c7 c8 c9 t,l=c0 :: c1 :: c2 :: c3 :: c4 :: c5 :: c6 :: c7 :: c8 :: c9 :: t:=by
 rcases l with _ |⟨c0,_ |⟨c1,_ |⟨c2,_ |⟨c3,_ |⟨c4,_ |⟨c5,_ |⟨c6,_ |⟨c7,_ |⟨c8,_ |⟨c9,t⟩⟩⟩⟩⟩⟩⟩⟩⟩⟩
 case cons.cons.cons.cons.cons.cons.cons.cons.cons.cons=>exact⟨_,_,_,_,_,_,_,_,_,_,_,rfl⟩
 all_goals simp at h
theorem z0c{l:List UInt8}(h:10≤l.length)(X:List UInt8):dayQ (l ++ X)=dayQ l:=by
 obtain⟨c0,c1,c2,c3,c4,c5,c6,c7,c8,c9,t,rfl⟩:=ten h;rfl
theorem z43{s:UInt8}(h:blQ s=true)(l X:List UInt8):dayQ (l ++ s :: X)=dayQ l:=by
 rcases Nat.lt_or_ge l.length 10 with hl |hl
 ·have e1:¬dayQ l=true:=fun a=>by have:=zf1 a;omega
  have e2:¬dayQ (l ++ s :: X)=true:=fun a=>by
   obtain⟨c,hc,hd⟩:=zr2 a hl;rw[List.getElem?_append_right (Nat.le_refl _),Nat.sub_self]at hc
   injection hc with hc;subst hc
   rw[zp9 h]at hd;have:=zgv h
   rcases hd with hd |hd
   ·cases hd
   ·omega
  simp only[Bool.not_eq_true]at e1 e2;rw[e1,e2]
 ·exact z0c hl _
theorem z47{l:List UInt8}(h:10≤l.length)(X:List UInt8):datV (l ++ X)=datV l:=by
 obtain⟨c0,c1,c2,c3,c4,c5,c6,c7,c8,c9,t,rfl⟩:=ten h;rfl
theorem z4l{s:UInt8}(h:blQ s=true)(l X:List UInt8):frcQ (l ++ s :: X)=frcQ l:=by
 have:=zgv h
 rcases l with _ |⟨c,_ |⟨d,l⟩⟩
 ·cases X with
  |nil=>rfl
  |cons x X=>show(decide (s.toNat=46∨s.toNat=47) && dgQ x)=false;simp;omega
 ·show(decide (c.toNat=46∨c.toNat=47) && dgQ s)=false
  rw[zp9 h,Bool.and_false]
 ·rfl
theorem znx{l:List UInt8}(h:frcQ l=true):2≤l.length:=by
 rcases l with _ |⟨c,_ |⟨d,l⟩⟩
 ·cases h
 ·cases h
 ·simp
theorem zyu{l:List UInt8}(h:l≠[]):numS l≤l.length:=by
 have:1≤l.length:=by cases l with |nil=>exact absurd rfl h |cons c l=>simp
 unfold numS;split<;>omega
theorem ztf{l:List UInt8}(h:l≠[])(X:List UInt8):numS (l ++ X)=numS l:=by
 cases l with
 |nil=>exact absurd rfl h
 |cons c l=>rfl
theorem zdm{α:Type}{l:List α}{k:Nat}(X:List α)(h:k≤l.length):(l ++ X).take k=l.take k:=List.take_append_of_le_length h
theorem zcd{α:Type}{l:List α}{k:Nat}(X:List α)(h:k≤l.length):(l ++ X).drop k=l.drop k ++ X:=List.drop_append_of_le_length h
theorem zzo{l:List UInt8}(h:1≤l.length)(X:List UInt8)(d:UInt8):(l ++ X).headD d=l.headD d:=by
 cases l with
 |nil=>simp at h
 |cons c l=>rfl
theorem z3w{s:UInt8}(h:blQ s=true){l:List UInt8}(hl:l≠[])(X:List UInt8):numK (l ++ s :: X)=numK l:=by
 have e1:=ztf hl (s :: X);have e2:=zyu hl;have e3:spn dgQ ((l ++ s :: X).drop (numS l))=spn dgQ (l.drop (numS l)):=by rw[zcd _ e2,ziz _ _ (zp9 h)]
 have e4:=zeg dgQ (l.drop (numS l));rw[List.length_drop]at e4;have e5:(l ++ s :: X).drop (numS l+spn dgQ (l.drop (numS l)))=l.drop (numS l+spn dgQ (l.drop (numS l))) ++ s :: X:=zcd _ (by omega);unfold numK;dsimp only;rw[e1,e3,e5,z4l h,zcd _ e2,zdm _ (by rw[List.length_drop];omega)]
 split
 ·rename_i hf
  have e6:=znx hf;have e7:=zeg dgQ ((l.drop (numS l+spn dgQ (l.drop (numS l)))).drop 1);rw[List.length_drop]at e7;rw[zzo (by omega),zcd _ (show 1≤_ by omega),ziz _ _ (zp9 h),zdm _ (by rw[List.length_drop];omega),zcd _ (by omega),znz h]
 ·rw[znz h]
theorem z9i{l:List UInt8}{s:UInt8}(hs:blQ s=true)(hm:s ∈ l):nmB l=false:=by
 unfold nmB
 have:(l.all fun c=>letB c ||othB c)=false:=by
  rw[List.all_eq_false];exact⟨s,hm,by have:=z03 hs;unfold wdQ at this;rw[this];decide⟩
 rw[this,Bool.and_false]
theorem zte{s:UInt8}(h:blQ s=true){l:List UInt8}(hl:l≠[])(X:List UInt8):oneL (l ++ s :: X)=oneL l:=by
 cases l with
 |nil=>exact absurd rfl hl
 |cons c r =>
  have hd:=yal h r X;have hy:=z43 h (c :: r) X
  show oneL (c :: (r ++ s :: X))=_
  change dayQ (c :: (r ++ s :: X))=_ at hy
  rcases zfg c r with w |w |w |⟨w,v⟩ |⟨w,v⟩ |⟨w1,w2,w3,w4⟩
  ·rw[zdd w,zdd w,ziz _ _ (z03 h)]
   have:=zeg wdQ r;rw[show(c :: (r ++ s :: X))=(c :: r) ++ s :: X from rfl,zdm _ (by simp;omega)]
  ·rw[zcn w,zcn w]
   obtain⟨p,hp⟩:∃p:UInt8→Bool,p=fun x=>decide (x.toNat≠34):=⟨_,rfl⟩
   rw[←hp];have Xw:p s=true:=by have:=zgv h;rw[hp];simp;omega
   have Y6:=zeg p r
   rcases Nat.lt_or_ge (spn p r) r.length with Z4 |UP
   ·rw[zxc _ Z4,zdm _ Y6]
    have:spn p r<(r ++ s :: X).length:=by simp;omega
    simp only[Z4,this,true_and]
   ·have hgt:=z2a X (show spn p r=r.length by omega) Xw
    have hn:nmB ((r ++ s :: X).take (spn p (r ++ s :: X)))=false:=by
     refine z9i h ?_;rw[List.take_append,List.mem_append];right;obtain⟨k,hk⟩:∃k,spn p (r ++ s :: X)-r.length=k+1:=⟨spn p (r ++ s :: X)-r.length-1,by omega⟩
     rw[hk];simp
    rw[if_neg (by rw[hn];simp),if_neg (by omega)]
  ·rw[zey w,zey (by rw[hy];exact w)]
   have Yi:=zf1 w;rw[show(c :: (r ++ s :: X))=(c :: r) ++ s :: X from rfl,zcd _ Yi,znz h,z47 Yi]
  ·rw[zex w v,zex (by rw[hy];exact w) (by rw[hd];exact v)]
   exact z3w h (List.cons_ne_nil c r) X
  ·rw[zde w v,zde w (by rw[hd];exact v)]
  ·rw[zdz w1 w2 w3 w4,zdz w1 w2 w3 w4]
theorem ztg{neg:Bool}{front:List UInt8}{mk:Nat}{back:List UInt8}{ended:Bool}{n:Nat}{t:Tk}{m:Nat}(h:numO neg front mk back ended n=.yes t m):m=n∧ended=true:=by
 refine⟨znq h,?_⟩
 cases ended with
 |true=>rfl
 |false=>unfold numO at h;rw[if_pos (by simp)]at h;cases h
theorem z9h{l:List UInt8}(hl:l≠[]){t:Tk}{n:Nat}(h:numK l=.yes t n):n≤l.length:=by
 have e2:=zyu hl;have e4:=zeg dgQ (l.drop (numS l));rw[List.length_drop]at e4;unfold numK at h;dsimp only at h
 split at h
 ·rename_i hf
  have e6:=znx hf;have e7:=zeg dgQ ((l.drop (numS l+spn dgQ (l.drop (numS l)))).drop 1);rw[List.length_drop,List.length_drop]at e7;rw[List.length_drop]at e6;have:=(ztg h).1;omega
 ·have:=(ztg h).1
  omega
theorem zi2{l:List UInt8}{t:Tk}{n:Nat}(h:oneL l=.yes t n):n≤l.length:=by
 cases l with
 |nil=>cases h
 |cons c r =>
  rcases zfg c r with w |w |w |⟨w,v⟩ |⟨w,v⟩ |⟨w1,w2,w3,w4⟩
  ·rw[zdd w]at h;split at h
   ·cases h
   ·injection h with _ h;have:=zeg wdQ r;simp;omega
  ·rw[zcn w]at h;split at h
   ·injection h with _ h;simp;omega
   ·cases h
  ·rw[zey w]at h;have:=zf1 w;split at h
   ·split at h
    ·injection h with _ h;omega
    ·cases h
   ·cases h
  ·rw[zex w v]at h;exact z9h (by simp) h
  ·rw[zde w v]at h;injection h with _ h;simp;omega
  ·rw[zdz w1 w2 w3 w4]at h;cases h
theorem zh9{c:UInt8}{l:List UInt8}(h:blQ c=true):skS false (c :: l)=skS false l+1:=by rw[skS,if_pos h]
theorem zh8{c:UInt8}{l:List UInt8}(h:c.toNat=35):skS false (c :: l)=skS true l+1:=by
 have:¬blQ c=true:=fun a=>by have:=zgv a;omega
 rw[skS,if_neg this,if_pos h]
theorem zhp{c:UInt8}{l:List UInt8}(h:¬blQ c=true)(h2:¬c.toNat=35):skS false (c :: l)=0:=by rw[skS,if_neg h,if_neg h2]
theorem zox{c:UInt8}{l:List UInt8}(h:c.toNat=10):skS true (c :: l)=skS false l+1:=by rw[skS,if_pos h]
theorem zsy{c:UInt8}{l:List UInt8}(h:¬c.toNat=10):skS true (c :: l)=skS true l+1:=by rw[skS,if_neg h]
theorem zih{off k:Nat}{l:List UInt8}(hk:k≤l.length)(h:skS false l=k+skS false (l.drop k)):lexL off l=lexL (off+k) (l.drop k):=by
 have Y6:=zgi false (l.drop k);rw[List.length_drop]at Y6;have hd:(l.drop k).drop (skS false (l.drop k))=l.drop (skS false l):=by rw[List.drop_drop,h]
 rcases Nat.lt_or_ge (skS false l) l.length with Z4 |UP
 ·cases ho:oneL (l.drop (skS false l))with
  |no e =>
   rw[zek Z4 ho,zek (e:=e) (by rw[List.length_drop];omega) (by rw[hd];exact ho),h]
   congr 1;omega
  |yes t n =>
   rw[zcc Z4 ho,zcc (off:=off+k) (l:=l.drop k) (t:=t) (n:=n) (by rw[List.length_drop];omega) (by rw[hd];exact ho),List.drop_drop,h];have e1:off+(k+skS false (l.drop k))=off+k+skS false (l.drop k):=by omega
   have e2:k+skS false (l.drop k)+n=k+(skS false (l.drop k)+n):=by omega
   rw[e1,e2]
 ·rw[zbc (by have:=zgi false l;omega),zbc (by rw[List.length_drop];omega)]
inductive Bnd:Nat→List UInt8→Nat→List Tk→Prop
 |here (off:Nat) (l:List UInt8) (h:skS false l<l.length):Bnd off l (skS false l) []
 |step (off:Nat) (l:List UInt8) (t:Tk) (n p:Nat) (ts:List Tk) (h:skS false l<l.length) (ho:oneL (l.drop (skS false l))=.yes t n)
  (hb:Bnd (off+skS false l+n) (l.drop (skS false l+n)) p ts):Bnd off l (skS false l+n+p) ({ t with place:=((off+skS false l:Nat):Int) } :: ts)
theorem zu6:∀(n off:Nat)(l:List UInt8),l.length≤n→∀{i:Nat}{e:Int},lexL off l=.no i e→∃p ts,i=off+p∧Bnd off l p ts∧oneL (l.drop p)=.no e:=by
 intro n
 induction n with
 |zero =>
  intro off l hl i e h;obtain rfl:l=[]:=List.length_eq_zero_iff.1 (by omega);rw[zbc (l:=[]) rfl]at h;cases h
 |succ n ih =>
  intro off l hl i e h
  rcases Nat.lt_or_ge (skS false l) l.length with Z4 |UP
  ·cases ho:oneL (l.drop (skS false l))with
   |no e' =>
    rw[zek Z4 ho]at h
    injection h with h1 h2
    exact⟨skS false l,[],h1.symm,.here off l Z4,by rw[←h2];exact ho⟩
   |yes t m =>
    have hp:=zd6 ho;rw[zcc Z4 ho]at h
    cases hL:lexL (off+skS false l+m) (l.drop (skS false l+m))with
    |yes ts=>rw[hL]at h;cases h
    |no i' e' =>
     obtain⟨p,ts,h1,h2,h3⟩:=ih _ _ (by rw[List.length_drop];omega) hL;rw[hL]at h
     injection h with h4 h5
     rw[List.drop_drop]at h3;exact⟨skS false l+m+p,_,by omega,.step off l t m p ts Z4 ho h2,by rw[←h5];exact h3⟩
  ·rw[zbc (by have:=zgi false l;omega)]at h;cases h
theorem zg4(l:List UInt8):numV l=dval (zbo l):=by
 have:∀(n:Nat)(l:List UInt8),l.length=n→numV l=dval (zbo l):=by
  intro n
  induction n with
  |zero=>intro l hl;obtain rfl:=List.length_eq_zero_iff.1 hl;rfl
  |succ n ih =>
   intro l hl;obtain⟨m,c,rfl⟩:∃m c,l=m ++ [c]:=⟨l.dropLast,l.getLast (by intro h;rw[h]at hl;simp at hl),(List.dropLast_concat_getLast _).symm⟩
   rw[zei,ih m (by simpa using hl)];unfold zbo;rw[List.reverse_append,List.reverse_singleton,List.singleton_append,List.map_cons]
   show _=(c.toNat-48)+10*dval _
   omega
 exact this l.length l rfl
theorem zj6{z:Int}(h:bigZ z=false):(txtN z.natAbs).length≤1000:=by
 unfold bigZ at h;rw[zfn];simpa using h
theorem zid{l:List UInt8}(h:nmB l=true):1≤l.length∧l.length≤40∧(∃c r,l=c :: r∧letB c=true)∧∀c ∈ l,wdQ c=true:=by
 unfold nmB at h;simp only[Bool.and_eq_true,decide_eq_true_eq,List.all_eq_true]at h;obtain⟨⟨h1,h2⟩,h3⟩:=h;refine⟨h1.1,h1.2,?_,h3⟩
 cases l with
 |nil=>simp at h1
 |cons c r=>exact⟨c,r,rfl,h2⟩
theorem z26{x y:Int}(h0:y≠0)(bx:bigZ x=false)(byy:bigZ y=false):zob (ratN x y) (ratD x y):=by
 have Vl:0<Nat.gcd x.natAbs y.natAbs:=Nat.gcd_pos_of_pos_right _ (by omega);have hD:ratD x y=((y.natAbs / Nat.gcd x.natAbs y.natAbs:Nat):Int):=rfl
 have hN:(ratN x y).natAbs=x.natAbs / Nat.gcd x.natAbs y.natAbs:=by
  unfold ratN
  have hd:((Nat.gcd x.natAbs y.natAbs:Nat):Int) ∣ (if y<0 then -x else x):=by
   refine Int.ofNat_dvd_left.2 ?_
   split
   ·rw[Int.natAbs_neg];exact Nat.gcd_dvd_left _ _
   ·exact Nat.gcd_dvd_left _ _
  rw[Int.natAbs_ediv_of_dvd hd,Int.natAbs_natCast]
  split
  ·rw[Int.natAbs_neg]
  ·rfl
 refine⟨?_,?_,?_,?_⟩
 ·rw[hD]
  have:0<y.natAbs / Nat.gcd x.natAbs y.natAbs:=Nat.div_pos (Nat.gcd_le_right _ (by omega)) Vl;omega
 ·rw[hN,hD,Int.natAbs_natCast]
  rw[Nat.gcd_div (Nat.gcd_dvd_left _ _) (Nat.gcd_dvd_right _ _),Nat.div_self Vl]
 ·refine zcp (x:=x) ?_ bx
  rw[hN];exact Nat.div_le_self _ _
 ·rw[hD]
  refine zn6 (Nat.div_le_self _ _) ?_;rw[zt2];exact byy
theorem zj5{n m:Nat}(h:n<10 ^ m)(h0:0<m)(hm:m≤1000):bigZ (n:Int)=false:=by
 unfold bigZ;rw[Int.natAbs_natCast];simp only[decide_eq_false_iff_not,Nat.not_lt];exact Nat.le_trans ((zfz _ _ h0).2 h) hm
theorem zc5(p:UInt8→Bool)(l:List UInt8):∀c ∈ l.take (spn p l),p c=true:=by
 induction l with
 |nil=>intro c hc;simp[spn]at hc
 |cons d l ih =>
  intro c hc;unfold spn at hc
  split at hc
  ·rename_i hd
   rw[List.take_succ_cons]at hc
   rcases List.mem_cons.1 hc with rfl |hc
   ·exact hd
   ·exact ih c hc
  ·simp at hc
theorem znp{l:List UInt8}(hl:l≠[])(hd:∀c ∈ l,dgQ c=true)(h0:l.head?≠some 48):0<numV l:=by
 cases l with
 |nil=>exact absurd rfl hl
 |cons c r =>
  have hc:0<c.toNat-48:=by
   have h1:=hd c (List.mem_cons_self ..);unfold dgQ at h1;simp at h1 h0
   have:c.toNat≠48:=fun e=>h0 (by rw[←UInt8.toNat_inj];exact e)
   omega
  have:∀(r:List UInt8)(a:Nat),0<a→0<r.foldl (fun n c=>10*n+(c.toNat-48)) a:=by
   intro r
   induction r with
   |nil=>intro a h;exact h
   |cons x r ih=>intro a h;exact ih (10*a+(x.toNat-48)) (by omega)
  unfold numV;exact this r (10*0+(c.toNat-48)) (by omega)
def VTk(t:Tk):Prop :=
 (t.kind=1∧nmB t.text.data.toList=true∧t.rat=bsL []∧t.date=0)∨(t.kind=2∧nmB t.text.data.toList=true∧t.rat=bsL []∧t.date=0) ∨
 (t.kind=3∧t.text=bsL []∧(∃n d,zob n d∧t.rat=bsL (ratT n d))∧t.date=0)∨(t.kind=4∧t.text=bsL []∧t.rat=bsL []∧0≤t.date∧t.date≤99999) ∨
 (t.kind=5∧(∃c,mkB c=true∧t.text=bsL [c])∧t.rat=bsL []∧t.date=0)
theorem zcz(l:List UInt8):(bsL l).data.toList=l:=rfl
theorem z25{neg:Bool}{front back:List UInt8}{mk:Nat}(hf:∀c ∈ front,dgQ c=true)(hb:∀c ∈ back,dgQ c=true)(Uo:front≠[])(h1:front.length≤1000)(h2:back.length≤1000)
 (XY:mk=46→front.length+back.length≤1000) (XZ:mk=47→back≠[]∧back.head?≠some 48):∃n d,zob n d∧zhr neg front mk back=ratT n d:=by
 have dg:∀l:List UInt8,(∀c ∈ l,dgQ c=true)→∀c ∈ l,48≤c.toNat∧c.toNat≤57:=fun l h c hc=>by
  have:=h c hc;unfold dgQ at this;simpa using this
 have lf:0<front.length:=List.length_pos_iff.2 Uo
 obtain⟨X,hX⟩:∃X:Nat,X=if mk=46 then numV (front ++ back)else numV front:=⟨_,rfl⟩
 obtain⟨Y,hY⟩:∃Y:Nat,Y=if mk=46 then 10 ^ back.length else if mk=47 then numV back else 1:=⟨_,rfl⟩
 obtain⟨M,hM⟩:∃M,M=1000:=⟨_,rfl⟩
 have bX:X<10 ^ M:=by
  rw[hX];split
  ·rename_i h
   refine Nat.lt_of_lt_of_le (zgl _ ?_) (Nat.pow_le_pow_right (by omega) (by rw[List.length_append];have:=XY h;omega));intro c hc
   rcases List.mem_append.1 hc with hc |hc
   ·exact dg _ hf c hc
   ·exact dg _ hb c hc
  ·exact Nat.lt_of_lt_of_le (zgl _ (dg _ hf)) (Nat.pow_le_pow_right (by omega) (by omega))
 have bY:Y<10 ^ M∧0<Y:=by
  rw[hY];split
  ·rename_i h
   have:=XY h;exact⟨Nat.pow_lt_pow_right (by omega) (by omega),Nat.pow_pos (by omega)⟩
  ·split
   ·rename_i h
    obtain⟨b1,b2⟩:=XZ h;exact⟨Nat.lt_of_lt_of_le (zgl _ (dg _ hb)) (Nat.pow_le_pow_right (by omega) (by omega)),znp b1 hb b2⟩
   ·exact⟨Nat.one_lt_pow (by omega) (by omega),by omega⟩
 have zX:=zj5 bX (by omega) (by omega);have zY:=zj5 bY.1 (by omega) (by omega);refine⟨_,_,z26 (x:=if neg=true then -(X:Int)else(X:Int)) (y:=(Y:Int)) (by omega) ?_ zY,?_⟩
 ·refine zcp (x:=(X:Int)) ?_ zX
  split<;>simp
 ·unfold zhr
  dsimp only;rw[←hX,←hY]
theorem zmj{neg:Bool}{front back:List UInt8}{mk:Nat}{ended:Bool}{n m:Nat}{t:Tk}(hf:∀c ∈ front,dgQ c=true)(hb:∀c ∈ back,dgQ c=true)(Uo:front≠[])(Vi:mk=47→back≠[])
 (h:numO neg front mk back ended n=.yes t m):VTk t:=by
 unfold numO at h
 split at h
 ·cases h
 ·rename_i h1
  split at h
  ·cases h
  ·rename_i h2
   injection h with h _
   subst h;obtain⟨a,b,r1,r2⟩:=z25 (neg:=neg) (mk:=mk) hf hb Uo (by omega) (by omega) (fun e=>by omega) (fun e=>⟨Vi e,fun e2=>h1 (.inr (.inr ⟨e,e2⟩))⟩);exact .inr (.inr (.inl ⟨rfl,rfl,⟨a,b,r1,congrArg bsL r2⟩,rfl⟩))
theorem zho{p:UInt8→Bool}{c:UInt8}{r:List UInt8}(h:p c=true):1≤spn p (c :: r):=by unfold spn;rw[if_pos h];omega
theorem zu2{c:UInt8}{r:List UInt8}(hh:dgQ c=true∨(c.toNat=45∧dgH r=true)){t:Tk}{n:Nat}(h:numK (c :: r)=.yes t n):VTk t:=by
 have Xh:1≤spn dgQ ((c :: r).drop (numS (c :: r))):=by
  rcases hh with hd |⟨XN,hd⟩
  ·have:numS (c :: r)=0:=by unfold numS;rw[if_neg];simp;exact z7f hd
   rw[this];exact zho hd
  ·have:numS (c :: r)=1:=by unfold numS;rw[if_pos];simp;rw[←UInt8.toNat_inj];exact XN
   rw[this]
   cases r with
   |nil=>cases hd
   |cons d r=>exact zho hd
 have Z0:((c :: r).drop (numS (c :: r))).take (spn dgQ ((c :: r).drop (numS (c :: r))))≠[]:=by
  intro e;have:=congrArg List.length e;have Y6:=zeg dgQ ((c :: r).drop (numS (c :: r)));rw[List.length_take,List.length_nil]at this;omega
 unfold numK at h;dsimp only at h
 split at h
 ·rename_i hf
  refine zmj (zc5 _ _) (zc5 _ _) Z0 (fun _ => ?_) h;obtain⟨q,hq⟩:∃q,q=(c :: r).drop (numS (c :: r)+spn dgQ ((c :: r).drop (numS (c :: r)))):=⟨_,rfl⟩
  rw[←hq]at hf ⊢
  rcases q with _ |⟨x,_ |⟨y,q⟩⟩
  ·cases hf
  ·cases hf
  ·have hy:dgQ y=true:=by
    unfold frcQ at hf;simp only[Bool.and_eq_true]at hf;exact hf.2
   rw[List.drop_one,List.tail_cons];intro e;have:=congrArg List.length e;have h1:=zho (r:=q) hy;have h2:=zeg dgQ (y :: q);rw[List.length_take,List.length_nil]at this;omega
 ·exact zmj (zc5 _ _) (fun c hc=>by cases hc) Z0 (fun e=>by cases e) h
theorem zmh{l:List UInt8}{t:Tk}{n:Nat}(h:oneL l=.yes t n):VTk t:=by
 cases l with
 |nil=>cases h
 |cons c r =>
  rcases zfg c r with w |w |w |⟨w,v⟩ |⟨w,v⟩ |⟨w1,w2,w3,w4⟩
  ·rw[zdd w]at h;split at h
   ·cases h
   ·rename_i hl
    injection h with h _
    subst h;refine .inl ⟨rfl,?_,rfl,rfl⟩
    show nmB ((c :: r).take (spn wdQ r+1))=true
    have Y6:=zeg wdQ r;rw[List.take_succ_cons];refine z67 (c:=c) (by simp) ?_ rfl w ?_
    ·simp;omega
    ·intro x hx
     rcases List.mem_cons.1 hx with rfl |hx
     ·rw[w];rfl
     ·exact zc5 wdQ r x hx
  ·rw[zcn w]at h;split at h
   ·rename_i hq
    injection h with h _
    subst h;exact .inr (.inl ⟨rfl,hq.2,rfl,rfl⟩)
   ·cases h
  ·rw[zey w]at h;split at h
   ·split at h
    ·rename_i day hv
     injection h with h _
     subst h;refine .inr (.inr (.inr (.inl ⟨rfl,rfl,rfl,?_⟩)));unfold datV at hv;dsimp only at hv
     split at hv
     ·rename_i hc
      injection hv with hv
      obtain⟨_,_,_,_,_,_⟩:=hc;dsimp only;omega
     ·cases hv
    ·cases h
   ·cases h
  ·rw[zex w v]at h;exact zu2 v h
  ·rw[zde w v]at h
   injection h with h _
   subst h;exact .inr (.inr (.inr (.inr ⟨rfl,⟨c,w,rfl⟩,rfl,rfl⟩)))
  ·rw[zdz w1 w2 w3 w4]at h;cases h
theorem VTk.move{t:Tk}(h:VTk t)(p:Int):VTk { t with place:=p }:=h
theorem z42{l:List UInt8}(h:dayQ l=true):∃c0 c1 c2 c3 c5 c6 c8 c9 t,l=c0 :: c1 :: c2 :: c3 :: 45 :: c5 :: c6 :: 45 :: c8 :: c9 :: t∧dgQ c0=true∧dgQ c1=true∧dgQ c2=true∧dgQ c3=true∧dgQ c5=true∧dgQ c6=true∧dgQ c8=true∧dgQ c9=true:=by
 obtain⟨c0,c1,c2,c3,c4,c5,c6,c7,c8,c9,t,rfl⟩:=ten (zf1 h);unfold dayQ at h;simp only[Bool.and_eq_true,decide_eq_true_eq]at h;obtain⟨⟨⟨⟨⟨⟨⟨⟨⟨h0,h1⟩,h2⟩,h3⟩,h4⟩,h5⟩,h6⟩,h7⟩,h8⟩,h9⟩:=h;obtain rfl:c4=45:=by rw[←UInt8.toNat_inj];exact h4
 obtain rfl:c7=45:=by rw[←UInt8.toNat_inj];exact h7
 exact⟨c0,c1,c2,c3,c5,c6,c8,c9,t,rfl,h0,h1,h2,h3,h5,h6,h8,h9⟩
theorem z0d{l:List UInt8}(h:dayQ l=true){day:Nat}:datV l=some day↔z6p (l.take 10) day:=by
 obtain⟨c0,c1,c2,c3,c5,c6,c8,c9,t,rfl,h0,h1,h2,h3,h5,h6,h8,h9⟩:=z42 h
 have dg:∀c:UInt8,dgQ c=true→48≤c.toNat∧c.toNat≤57:=fun c hc=>by unfold dgQ at hc;simpa using hc
 have f1:figB (numV [c0,c1,c2,c3]) 4=[c0,c1,c2,c3]:=zfj [c0,c1,c2,c3] (by intro c hc;simp at hc;rcases hc with rfl |rfl |rfl |rfl<;>exact dg _ ‹_›);have f2:figB (numV [c5,c6]) 2=[c5,c6]:=zfj [c5,c6] (by intro c hc;simp at hc;rcases hc with rfl |rfl<;>exact dg _ ‹_›);have f3:figB (numV [c8,c9]) 2=[c8,c9]:=zfj [c8,c9] (by intro c hc;simp at hc;rcases hc with rfl |rfl<;>exact dg _ ‹_›)
 have ht:(c0 :: c1 :: c2 :: c3 :: 45 :: c5 :: c6 :: 45 :: c8 :: c9 :: t).take 10=zb4 (numV [c0,c1,c2,c3]) (numV [c5,c6]) (numV [c8,c9]):=by
  unfold zb4;rw[f1,f2,f3];rfl
 constructor
 ·intro hv
  unfold datV at hv;dsimp only at hv
  split at hv
  ·rename_i hc
   obtain⟨k1,k2,k3,k4,k5,k6⟩:=hc
   injection hv with hv
   change yd (numV [c0,c1,c2,c3])+mdR (numV [c0,c1,c2,c3]) (numV [c5,c6]-1)+numV [c8,c9]-1=day at hv;change 1≤numV [c8,c9]at k4;change yd (numV [c0,c1,c2,c3])+mdR (numV [c0,c1,c2,c3]) (numV [c5,c6]-1)+numV [c8,c9]≤100000 at k6;have k7:yd (numV [c0,c1,c2,c3])+mdR (numV [c0,c1,c2,c3]) (numV [c5,c6]-1)+numV [c8,c9]=day+1:=by omega
   exact⟨by omega,_,_,_,⟨k1,k2,k3,k4,k5,k7⟩,ht⟩
  ·cases hv
 ·rintro⟨hd,y,m,d,hD,e⟩
  obtain⟨hy,VZ⟩:=hD.small hd;have hD':=hD;obtain⟨k1,k2,k3,k4,k5,k6⟩:=hD;have l4:figB y 4=[UInt8.ofNat (48+y / 10 / 10 / 10 % 10),UInt8.ofNat (48+y / 10 / 10 % 10),UInt8.ofNat (48+y / 10 % 10),UInt8.ofNat (48+y % 10)]:=rfl;have l2:figB m 2=[UInt8.ofNat (48+m / 10 % 10),UInt8.ofNat (48+m % 10)]:=rfl;have l3:figB d 2=[UInt8.ofNat (48+d / 10 % 10),UInt8.ofNat (48+d % 10)]:=rfl;have t1:(zb4 y m d).take 4=figB y 4:=by unfold zb4;rw[l4,l2,l3];rfl
  have t2:((zb4 y m d).drop 5).take 2=figB m 2:=by unfold zb4;rw[l4,l2,l3];rfl
  have t3:((zb4 y m d).drop 8).take 2=figB d 2:=by unfold zb4;rw[l4,l2,l3];rfl
  have u1:=congrArg (List.take 4) e;have u2:=congrArg (fun q=>(List.drop 5 q).take 2) e;have u3:=congrArg (fun q=>(List.drop 8 q).take 2) e;rw[t1]at u1;change _=((zb4 y m d).drop 5).take 2 at u2;change _=((zb4 y m d).drop 8).take 2 at u3;rw[t2]at u2;rw[t3]at u3;unfold datV;dsimp only;have v1:(c0 :: c1 :: c2 :: c3 :: 45 :: c5 :: c6 :: 45 :: c8 :: c9 :: t).take 4=figB y 4:=u1;have v2:((c0 :: c1 :: c2 :: c3 :: 45 :: c5 :: c6 :: 45 :: c8 :: c9 :: t).drop 5).take 2=figB m 2:=u2;have v3:((c0 :: c1 :: c2 :: c3 :: 45 :: c5 :: c6 :: 45 :: c8 :: c9 :: t).drop 8).take 2=figB d 2:=u3;rw[v1,v2,v3,zej,zej,zej,Nat.mod_eq_of_lt (show y<10 ^ 4 by omega),Nat.mod_eq_of_lt (show m<10 ^ 2 by omega),Nat.mod_eq_of_lt (show d<10 ^ 2 by omega),if_pos ⟨k1,k2,k3,k4,k5,by omega⟩]
  congr 1;omega
theorem zbe{off:Nat}{l:List UInt8}(k n:Nat)(t:Tk)(R:LexR)(hs:skS false l=k)(h:k<l.length)(ho:oneL (l.drop k)=.yes t n)(hR:lexL (off+k+n) (l.drop (k+n))=R) :
 lexL off l=pre1 { t with place:=((off+k:Nat):Int) } R:=by
 subst hs;rw[zcc h ho,hR]
theorem zql{l:List UInt8}{z:Int}(h:rdZ l=some z):txtZ z=l:=(zni h).symm
def wrdT(s:List UInt8)(p:Int):Tk:=⟨1,bsL s,bsL [],0,p⟩
def numT(s:List UInt8)(p:Int):Tk:=⟨3,bsL [],bsL s,0,p⟩
def mrkT(s:List UInt8)(p:Int):Tk:=⟨5,bsL s,bsL [],0,p⟩
def quoT(s:List UInt8)(p:Int):Tk:=⟨2,bsL s,bsL [],0,p⟩
def dayT(d:Int)(p:Int):Tk:=⟨4,bsL [],bsL [],d,p⟩
def clsB(L:List Nat)(c:UInt8):Bool:=L.any fun k=>zac c == (k:Int)
theorem zqx{p:UInt8→Bool}{s:ByteArray}{j:Nat}(h:j<s.size):spn p (s.data.toList.drop j)=if p s[j]=true then spn p (s.data.toList.drop (j+1))+1 else 0:=by
 rw[zcv s j h];rfl
theorem zqy{p:UInt8→Bool}{s:ByteArray}{j:Nat}(h:s.size≤j):spn p (s.data.toList.drop j)=0:=by
 rw[List.drop_eq_nil_of_le (by rw[zab];exact h)];rfl
theorem zn8{L:List Nat}{C:Int}{k:Nat}(h:k<L.length):((L.take (k+1)).any fun x=>C == (x:Int))=(((L.take k).any fun x=>C == (x:Int)) ||(C == ((L.getD k 0:Nat):Int))):=by
 have e:L.getD k 0=L[k]:=by rw[List.getD_eq_getElem?_getD,List.getElem?_eq_getElem h];rfl
 rw[List.take_succ_eq_append_getElem h,List.any_append,e];simp
theorem ziu(s:ByteArray)(i0 n c:Nat)(a:Option Addr)(L:List Nat)(w:World)(hs:s.size≤1000000)(hi:i0≤s.size)(hL:L.length=n)(hn:n≤10)(hN:Nums .i64 w a L) :
 Calls Tryz.prog 140 #[.string s,.int .i64 (i0:Int),.slice a n c] w (RetI w ((i0+spn (clsB L) (s.data.toList.drop i0):Nat):Int)):=by
 obtain⟨E,hE⟩:∃E,E=i0+spn (clsB L) (s.data.toList.drop i0):=⟨_,rfl⟩
 rw[←hE];have HE:=Z9 hE;have HL:=Z9 hL;have HN:=Z9 hN;clear hE hL hN;go_enter Tryz.func140,Tryz.ntmps140;go_wp2_with fail;go_loop [1] (fun iv=>∃j:Nat,j≤s.size∧E=j+spn (clsB L) (s.data.toList.drop j)∧iv=.int .i64 (j:Int)) (fun iv=>s.size-(intOf iv).toNat)
 case atStart=>exact⟨i0,hi,HE.out,rfl⟩
 case round =>
  obtain⟨j,hj,hej,rfl⟩:=hrel;have HEJ:=Z9 hej;clear hej
  by_cases Z4:j<s.size
  ·have HC:Hid (∀W,Calls Tryz.prog 180 #[.int .u8 (s[j].toNat:Int)] W (RetI W (zac s[j]))):=fun W=>ziq _ W
   obtain⟨b,hb⟩:∃b,b=clsB L s[j]:=⟨_,rfl⟩
   have Z3:b=L.any fun x=>zac s[j] == (x:Int):=hb
   have HS:=zqx (p:=clsB L) Z4;rw[←hb]at HS;obtain⟨C,hC⟩:∃C,C=zac s[j]:=⟨_,rfl⟩
   rw[←hC]at HC Z3;have HB:=Z9 Z3;have HSP:=Z9 HS;clear hb Z3 HS hC;go_wp2_with fail;refine(HC.out _).mono ?_;rintro e w' ⟨rfl,rfl⟩;go_wp2_with fail;go_loop [8,23] (fun bv kv=>∃k:Nat,k≤n∧kv=.int .i64 (k:Int)∧bv=.bool ((L.take k).any fun x=>C == (x:Int))) (fun _ kv=>n-(intOf kv).toNat)
   case atStart=>exact⟨0,Nat.zero_le _,rfl,rfl⟩
   case round =>
    obtain⟨k,hk,rfl,rfl⟩:=hrel
    obtain⟨B,hB⟩:∃B,B=(L.take k).any fun x=>C == (x:Int):=⟨_,rfl⟩
    rw[←hB]
    by_cases Y3:k<n
    ·obtain⟨g,o,rfl,hg,Z5⟩:=HN.out k (by rw[HL.out];exact Y3)
     have YM:=zn8 (C:=C) (show k<L.length by rw[HL.out];exact Y3);obtain⟨y,hy⟩:∃y,y=L.getD k 0:=⟨_,rfl⟩
     rw[←hy]at Z5 YM;rw[←hB]at YM;have HNX:=Z9 YM;clear YM hy hB
     cases B
     ·obtain⟨q,hq⟩:∃q,(C == (y:Int))=q:=⟨_,rfl⟩
      have HQ:=Z9 hq;go_wp2_with fail;go_round
      case rel=>exact⟨k+1,by omega,by go_num,by rw[HNX.out,HQ.out];rfl⟩
      case measure=>simp[intOf]<;>omega
     ·go_wp2_with fail
      go_round
      case rel=>exact⟨k+1,by omega,by go_num,by rw[HNX.out];rfl⟩
      case measure=>simp[intOf]<;>omega
    ·obtain rfl:k=n:=by omega
     have hBb:B=b:=by rw[hB,HB.out,List.take_of_length_le (by rw[HL.out];exact Nat.le_refl _)]
     clear hB;subst hBb
     cases B
     ·have XO:E=j:=by have:=HEJ.out;rw[HSP.out,if_neg (by decide)]at this;omega
      have HE2:=Z9 XO;clear XO;go_wp2_with fail;go_ret;exact⟨zaw (by rw[HE2.out]),rfl⟩
     ·have XO:E=j+1+spn (clsB L) (s.data.toList.drop (j+1)):=by have:=HEJ.out;rw[HSP.out,if_pos rfl]at this;omega
      have HE2:=Z9 XO;clear XO;go_wp2_with fail;go_round
      case rel=>exact⟨j+1,by omega,HE2.out,by go_num⟩
      case measure=>simp[intOf]<;>omega
  ·have XO:E=j:=by have:=HEJ.out;rw[zqy (by omega)]at this;omega
   have HE2:=Z9 XO;clear XO;go_wp2_with fail;go_ret;exact⟨zaw (by rw[HE2.out]),rfl⟩
def atN(l:List UInt8):Int:=match l with
 | []=>0
 |c :: _=>zac c
theorem zzd{s:ByteArray}{i:Nat}(h:i<s.size):atN (s.data.toList.drop i)=zac s[i]:=by rw[zcv s i h];rfl
theorem ych{s:ByteArray}{i:Nat}(h:s.size≤i):atN (s.data.toList.drop i)=0:=by rw[List.drop_eq_nil_of_le (by rw[zab];exact h)];rfl
theorem zk6(s:ByteArray)(i:Nat)(w:World):Calls Tryz.prog 141 #[.string s,.int .i64 (i:Int)] w (RetI w (atN (s.data.toList.drop i))):=by
 by_cases h:i<s.size
 ·rw[zzd h]
  have HC:Hid (∀W,Calls Tryz.prog 180 #[.int .u8 (s[i].toNat:Int)] W (RetI W (zac s[i]))):=fun W=>ziq _ W
  go_enter Tryz.func141,Tryz.ntmps141;go_wp2_with fail;refine(HC.out _).mono ?_;rintro e w' ⟨rfl,rfl⟩;go_wp2_with fail;go_ret;exact⟨rfl,rfl⟩
 ·rw[ych (by omega)]
  go_enter Tryz.func141,Tryz.ntmps141;go_wp2_with fail;go_ret;exact⟨rfl,rfl⟩
theorem zdj(c:UInt8):(zac c=2↔dgQ c=true)∧(zac c=3↔letB c=true)∧((zac c=2∨zac c=3∨zac c=4)↔wdQ c=true)∧(zac c=6↔c.toNat=34)∧(zac c=1↔blQ c=true)∧(zac c=7↔c.toNat=35)∧((zac c=5∨c.toNat=45)↔mkB c=true):=by
 unfold zac dgQ wdQ othB blQ mkB;unfold letB;simp only[zah,decide_eq_true_eq,Bool.or_eq_true]
 refine⟨?_,?_,?_,?_,?_,?_,?_⟩<;>(repeat' split)<;>omega
theorem zp1(s:ByteArray)(i:Nat)(w:World):Calls Tryz.prog 144 #[.string s,.int .i64 (i:Int)] w (RetB w (endQ (s.data.toList.drop i))):=by
 by_cases h:i<s.size
 ·have HA:Hid (∀W,Calls Tryz.prog 141 #[.string s,.int .i64 (i:Int)] W (RetI W (zac s[i]))):=fun W=>by rw[←zzd h];exact zk6 s i W
  obtain⟨_,_,p3,p4,_⟩:=zdj s[i];have hv:endQ (s.data.toList.drop i)=(!wdQ s[i] && decide (s[i].toNat≠34∧s[i].toNat≠46∧s[i].toNat≠47)):=by rw[zcv s i h];rfl
  rw[hv];obtain⟨x,hx⟩:∃x:Nat,x=s[i].toNat:=⟨_,rfl⟩
  obtain⟨C,hC⟩:∃C,C=zac s[i]:=⟨_,rfl⟩
  rw[←hC]at HA p3 p4;obtain⟨r,hr⟩:∃r:Bool,r=(!wdQ s[i] && decide (s[i].toNat≠34∧s[i].toNat≠46∧s[i].toNat≠47)):=⟨_,rfl⟩
  rw[←hr]
  by_cases XB:C=2∨C=3∨C=4∨C=6
  ·have Zr:r=false:=by
    rw[hr]
    rcases XB with h |h |h |h
    ·rw[p3.1 (.inl h)];rfl
    ·rw[p3.1 (.inr (.inl h))];rfl
    ·rw[p3.1 (.inr (.inr h))];rfl
    ·have:=p4.1 h;simp[this]
   subst Zr;clear hr hv p3 p4 hC hx
   rcases XB with h |h |h |h<;>subst h
   all_goals
    go_enter Tryz.func144,Tryz.ntmps144;go_wp2_with fail;refine(HA.out _).mono ?_;rintro e w' ⟨rfl,rfl⟩;go_wp2_with fail;go_ret;exact⟨rfl,rfl⟩
  ·have hw:wdQ s[i]=false:=by
    cases hh:wdQ s[i]with
    |false=>rfl
    |true=>exact absurd (p3.2 hh) (by omega)
   have Vf:s[i].toNat≠34:=fun h=>by have:=p4.2 h;omega
   have e2:(C == 2)=false:=by simpa using fun h=>XB (.inl h)
   have e3:(C == 3)=false:=by simpa using fun h=>XB (.inr (.inl h))
   have e4:(C == 4)=false:=by simpa using fun h=>XB (.inr (.inr (.inl h)))
   have e6:(C == 6)=false:=by simpa using fun h=>XB (.inr (.inr (.inr h)))
   rw[hw]at hr
   by_cases XY:s[i].toNat=46
   ·have Zr:r=false:=by rw[hr];simp[XY]
    subst Zr;have t1:((s[i].toNat:Int) != 46)=false:=by simp;omega
    clear hr hv p3 p4 hC hx XB hw Vf XY;go_enter Tryz.func144,Tryz.ntmps144;go_wp2_with fail;refine(HA.out _).mono ?_;rintro e w' ⟨rfl,rfl⟩;go_wp2_with fail;go_ret;exact⟨rfl,rfl⟩
   ·have Zr:r=(((s[i].toNat:Int)) != 47):=by
     rw[hr,Bool.eq_iff_iff];simp;omega
    have Yy:=Z9 Zr;have t1:((s[i].toNat:Int) != 46)=true:=by simp;omega
    clear hr hv p3 p4 hC hx XB hw Vf XY Zr;go_enter Tryz.func144,Tryz.ntmps144;go_wp2_with fail;refine(HA.out _).mono ?_;rintro e w' ⟨rfl,rfl⟩;go_wp2_with fail;go_ret;exact⟨by rw[Yy.out];rfl,rfl⟩
 ·have hv:endQ (s.data.toList.drop i)=true:=by rw[List.drop_eq_nil_of_le (by rw[zab];omega)];rfl
  rw[hv];go_enter Tryz.func144,Tryz.ntmps144;go_wp2_with fail;go_ret;exact⟨rfl,rfl⟩
def dyAt(i:Nat)(c:UInt8):Bool:=if i=4∨i=7 then decide (c.toNat=45)else dgQ c
theorem z44{l:List UInt8}(h:10≤l.length):dayQ l=true↔∀i,i<10→∃c,l[i]?=some c∧dyAt i c=true:=by
 obtain⟨c0,c1,c2,c3,c4,c5,c6,c7,c8,c9,t,rfl⟩:=ten h
 constructor
 ·intro hd i hi
  unfold dayQ at hd;simp only[Bool.and_eq_true]at hd;obtain⟨⟨⟨⟨⟨⟨⟨⟨⟨h0,h1⟩,h2⟩,h3⟩,h4⟩,h5⟩,h6⟩,h7⟩,h8⟩,h9⟩:=hd
  rcases i with _ |_ |_ |_ |_ |_ |_ |_ |_ |_ |i
  ·exact⟨_,rfl,h0⟩
  ·exact⟨_,rfl,h1⟩
  ·exact⟨_,rfl,h2⟩
  ·exact⟨_,rfl,h3⟩
  ·exact⟨_,rfl,h4⟩
  ·exact⟨_,rfl,h5⟩
  ·exact⟨_,rfl,h6⟩
  ·exact⟨_,rfl,h7⟩
  ·exact⟨_,rfl,h8⟩
  ·exact⟨_,rfl,h9⟩
  ·omega
 ·intro h
  have g:∀i,i<10→∀c,(c0 :: c1 :: c2 :: c3 :: c4 :: c5 :: c6 :: c7 :: c8 :: c9 :: t)[i]?=some c→dyAt i c=true:=fun i hi c hc=>by
   obtain⟨c',e,hh⟩:=h i hi
   rw[hc]at e;injection e with e;rw[e];exact hh
  unfold dayQ;simp only[Bool.and_eq_true];exact⟨⟨⟨⟨⟨⟨⟨⟨⟨g 0 (by omega) _ rfl,g 1 (by omega) _ rfl⟩,g 2 (by omega) _ rfl⟩,g 3 (by omega) _ rfl⟩,g 4 (by omega) _ rfl⟩,g 5 (by omega) _ rfl⟩,g 6 (by omega) _ rfl⟩,g 7 (by omega) _ rfl⟩,g 8 (by omega) _ rfl⟩,g 9 (by omega) _ rfl⟩
def zrt:ByteArray:=⟨#[48,48,48,48,45,48,48,45,48,48]⟩
theorem z4n(k:Nat)(h:k<10):(zrt[k]'h).toNat=if k=4∨k=7 then 45 else 48:=by
 have:∀k:Fin 10,(zrt[(k:Nat)]'k.2).toNat=if (k:Nat)=4∨(k:Nat)=7 then 45 else 48:=by decide
 exact this ⟨k,h⟩
def zh0(w:World)(b:Bool)(e:Ending)(w':World):Prop:=e=.returned (.bool b)∧Below w.heap.size w w'
theorem zi6(w:World)(s:ByteArray)(p:Nat):Below w.heap.size w (w.iter s p):=(Below.refl _ w).alloc (Nat.le_refl _) _
theorem yam(s:ByteArray)(w:World)(hs:s.size≤1000000):Calls Tryz.prog 143 #[.string s] w (zh0 w (dayQ s.data.toList)):=by
 by_cases Yi:s.size<10
 ·have hv:dayQ s.data.toList=false:=by
   cases hh:dayQ s.data.toList with
   |false=>rfl
   |true=>have:=zf1 hh;rw[zab]at this;omega
  rw[hv];go_enter Tryz.func143,Tryz.ntmps143;go_wp2_with fail;go_ret;exact⟨rfl,Below.refl _ _⟩
 ·have h10':10≤s.size:=by omega
  have Zy:=z44 (l:=s.data.toList) (by rw[zab];exact h10');obtain⟨V,hV⟩:∃V,V=dayQ s.data.toList:=⟨_,rfl⟩
  rw[←hV]at Zy ⊢;have HALL:=Z9 Zy;clear Zy hV;go_enter Tryz.func143,Tryz.ntmps143;go_wp2_with fail;go_loopw [3] (fun _ w'=>∃k:Nat,k≤10∧w'=w.iter zrt k∧∀i,i<k→∀c,s.data.toList[i]?=some c→dyAt i c=true) (fun _ w'=>10-w'.iterPos w.heap.size)
  case atStart=>exact⟨0,Nat.zero_le _,rfl,fun i hi=>absurd hi (Nat.not_lt_zero _)⟩
  case round =>
   obtain⟨k,hk,rfl,XK⟩:=hrel;have W9:=Z9 XK;clear XK
   by_cases Z4:k<10
   ·have WI:k<s.size:=by omega
    have hcat:=Lib.data_getElem? s k WI;have HCAT:=Z9 hcat
    have HC:Hid (∀W,Calls Tryz.prog 180 #[.int .u8 (s[k].toNat:Int)] W (RetI W (zac s[k]))):=fun W=>ziq _ W
    have hfb:=z4n k Z4
    have hnx0:∀ty,(Instr.next (.pointer (some ⟨w.heap.size,0,none⟩)) true ty).run Tryz.prog (w.iter zrt k)=_:=fun ty=>run_next_ascii w zrt k ty Z4 (by rw[hfb];split<;>omega)
    rw[hfb]at hnx0;obtain⟨p1,_⟩:=zdj s[k]
    by_cases XZ:k=4∨k=7
    ·rw[if_pos XZ]at hnx0
     obtain⟨q,hq⟩:∃q,((s[k].toNat:Int) != 45)=q:=⟨_,rfl⟩
     cases q
     ·have hdy:dyAt k s[k]=true:=by unfold dyAt;rw[if_pos XZ];simp at hq ⊢;omega
      have Yx:=Z9 hdy;clear hdy hfb XZ hcat p1;go_wp2_with fail;go_roundw
      case rel=>exact⟨k+1,by omega,rfl,fun i hi c hc=>by
       rcases Nat.lt_or_ge i k with h |h
       ·exact W9.out i h c hc
       ·obtain rfl:i=k:=by omega
        rw[HCAT.out]at hc;injection hc with hc;rw[←hc];exact Yx.out⟩
      case measure=>simp;omega
     ·have hVf:V=false:=by
       cases V with
       |false=>rfl
       |true =>
        obtain⟨c,hc,hd⟩:=HALL.out.1 rfl k Z4
        rw[HCAT.out]at hc;injection hc with hc;subst hc
        unfold dyAt at hd;rw[if_pos XZ]at hd;simp at hq hd;omega
      subst hVf;clear hfb XZ hcat p1;go_wp2_with fail;go_ret;exact⟨rfl,zi6 _ _ _⟩
    ·rw[if_neg XZ]at hnx0
     obtain⟨C,hC⟩:∃C,C=zac s[k]:=⟨_,rfl⟩
     rw[←hC]at HC p1;obtain⟨q,hq⟩:∃q,(C != 2)=q:=⟨_,rfl⟩
     cases q
     ·have hdy:dyAt k s[k]=true:=by unfold dyAt;rw[if_neg XZ];exact p1.1 (by simpa using hq)
      have Yx:=Z9 hdy;clear hdy hfb XZ hcat p1 hC;go_wp2_with fail;refine(HC.out _).mono ?_;rintro e w' ⟨rfl,rfl⟩;go_wp2_with fail;go_roundw
      case rel=>exact⟨k+1,by omega,rfl,fun i hi c hc=>by
       rcases Nat.lt_or_ge i k with h |h
       ·exact W9.out i h c hc
       ·obtain rfl:i=k:=by omega
        rw[HCAT.out]at hc;injection hc with hc;rw[←hc];exact Yx.out⟩
      case measure=>simp;omega
     ·have hVf:V=false:=by
       cases V with
       |false=>rfl
       |true =>
        obtain⟨c,hc,hd⟩:=HALL.out.1 rfl k Z4
        rw[HCAT.out]at hc;injection hc with hc;subst hc
        unfold dyAt at hd;rw[if_neg XZ]at hd;have:=p1.2 hd;rw[this]at hq;exact absurd hq (by decide)
      subst hVf;clear hfb XZ hcat p1 hC;go_wp2_with fail;refine(HC.out _).mono ?_;rintro e w' ⟨rfl,rfl⟩;go_wp2_with fail;go_ret;exact⟨rfl,zi6 _ _ _⟩
   ·have hnx0:∀ty,(Instr.next (.pointer (some ⟨w.heap.size,0,none⟩)) true ty).run Tryz.prog (w.iter zrt k)=_:=fun ty=>run_next_end w zrt k ty Z4
    have hVt:V=true:=HALL.out.2 fun i hi=>⟨s.data.toList[i]'(by rw[zab];omega),List.getElem?_eq_getElem _,W9.out i (by omega) _ (List.getElem?_eq_getElem _)⟩
    subst hVt;go_wp2_with fail;go_ret;exact⟨rfl,zi6 _ _ _⟩
end Go.Proofs.YtkobkpepgdddeaaGreatDoor
