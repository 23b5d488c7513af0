/-
  The program's pair and Gcd. No condition.
-/
import Derived.Test.YtkobkpepgdddeaaGreatDoorYac
import Derived.RegionTactic
import Derived.Outline
namespace Go.Proofs.YtkobkpepgdddeaaGreatDoor
open Go.RowKit Go.Shelf
set_option maxHeartbeats 16000000
set_option maxRecDepth 100000
def z6m(w:World)(x y:Int)(e:Ending)(w':World):Prop :=
 ∃a c la b d lb,e=.returned (.tuple #[.agg #[.bool (decide (x<0)),.slice a (la:List Nat).length c],.agg #[.bool (decide (y<0)),.slice b (lb:List Nat).length d],.int .i64 0]) ∧
  la.length≤c∧lb.length≤d∧Nums .u32 w' a la∧Nums .u32 w' b lb∧Rep la x.natAbs∧Rep lb y.natAbs∧Below w.heap.size w w'
theorem zhe(s:ByteArray)(w:World)(hs:s.size≤1000000):Calls Tryz.prog 204 #[.string s] w fun e w'=>e=.returned (.int .i64 (chkZ s.data.toList))∧w=w' :=
 (z0z s w hs).mono fun _ _ ⟨a,b⟩=>⟨a,b.symm⟩
theorem zyf(s t:ByteArray)(x y:Int)(w:World)(hs:s.size≤100000)(ht:t.size≤100000)(hx:s.data.toList=txtZ x)(hy:t.data.toList=txtZ y)(bx:bigZ x=false)(byy:bigZ y=false) :
 Calls Tryz.prog 226 #[.string s,.string t] w (z6m w x y):=by
 have YF:=fun W=>zhe s W (by omega)
 have Yd:=fun W=>zhe t W (by omega)
 rw[hx,zcw,bx]at YF;rw[hy,zcw,byy]at Yd;simp only[Bool.false_eq_true,if_false]at YF Yd
 have Uw:=fun W=>zs1 s x W hs hx
 have Zr:=fun W=>zs1 t y W ht hy
 have HC1:=Z9 YF;have HC2:=Z9 Yd;have Xy:=Z9 Uw;have Yy:=Z9 Zr;obtain⟨W0,Z7⟩:∃W0,W0=(w.alloc (.cells #[.bool false,.slice none 0 0] 241)).alloc (.cells #[.bool false,.slice none 0 0] 241):=⟨_,rfl⟩
 have XH:Box2 W0 w.heap.size false (.slice none 0 0):=by rw[Z7];exact Box2.alloc (show Box2 (w.alloc (.cells #[.bool false,.slice none 0 0] 241)) w.heap.size false (.slice none 0 0)from World.alloc_heap_new w _) _
 have hB0:Box2 W0 (w.heap.size+1) false (.slice none 0 0):=by
  rw[Z7];have:=World.alloc_heap_new (w.alloc (.cells #[.bool false,.slice none 0 0] 241)) (.cells #[.bool false,.slice none 0 0] 241);rw[World.size_alloc]at this;exact this
 have Zv:Below w.heap.size w W0:=by rw[Z7];exact((Below.refl _ w).alloc (Nat.le_refl _) _).alloc (by simp) _
 have HA0:=Z9 XH;have HB0:=Z9 hB0;have HBL:=Z9 Zv;have HW0:=Z9 Z7;clear YF Yd Uw Zr hx hy bx byy XH hB0 Zv Z7;go_enter Tryz.func226,Tryz.ntmps226;go_wp2_with fail;rw[←HW0.out];refine(HC1.out _).mono ?_;rintro e w' ⟨rfl,rfl⟩;go_wp2_with fail;refine(HC2.out _).mono ?_;rintro e w' ⟨rfl,rfl⟩;go_wp2_with fail;refine(Xy.out W0).mono ?_;rintro e W1 ⟨a,c,la,rfl,Sq,UV,T5,ZJ⟩;obtain⟨k1,Zh⟩:∃k1,k1=la.length:=⟨_,rfl⟩
 rw[←Zh]at Sq ⊢;have HN1:=Z9 UV;have HP1:=Z9 T5;have ZT:=Z9 ZJ;have HK1:=Z9 Zh;clear UV T5 ZJ Zh;go_wp2_with fail;refine(Yy.out W1).mono ?_;rintro e W2 ⟨b,d,lb,rfl,Wt,Yr,YB,Z3⟩;obtain⟨k2,Y3⟩:∃k2,k2=lb.length:=⟨_,rfl⟩
 rw[←Y3]at Wt ⊢;have HN2:=Z9 Yr;have HP2:=Z9 YB;have HK2:=Z9 Y3;have hb02:Below W0.heap.size W0 W2:=ZT.out.trans (Z3.mono ZT.out.size);have HB02:=Z9 hb02;have HBB:=Z9 Z3;have ZS:w.heap.size+1<W0.heap.size:=HB0.out.lt;have hA2:Box2 W2 w.heap.size false (.slice none 0 0):=(hb02.block _ HA0.out.lt).trans HA0.out;have hB2:Box2 W2 (w.heap.size+1) false (.slice none 0 0):=(hb02.block _ HB0.out.lt).trans HB0.out;clear Yr YB Y3 Z3 hb02;obtain⟨nx,YM⟩:∃nx,nx=decide (x<0):=⟨_,rfl⟩
 obtain⟨ny,Wz⟩:∃ny,ny=decide (y<0):=⟨_,rfl⟩
 rw[←YM,←Wz];have HNX:=Z9 YM;have HNY:=Z9 Wz;have a0:=hA2.cell0;have a1:=hA2.cell1;have af0:=hA2.frozen 0;have af1:=hA2.frozen 1;have hA3:Box2 ((W2.setCell ⟨w.heap.size,0,none⟩ (.bool nx)).setCell ⟨w.heap.size,1,none⟩ (.slice a k1 c)) w.heap.size nx (.slice a k1 c):=(hA2.set0 nx).set1 _;have hB3:Box2 ((W2.setCell ⟨w.heap.size,0,none⟩ (.bool nx)).setCell ⟨w.heap.size,1,none⟩ (.slice a k1 c)) (w.heap.size+1) false (.slice none 0 0):=(hB2.other (by show w.heap.size+1≠w.heap.size;omega) _).other (by show w.heap.size+1≠w.heap.size;omega) _;have b0:=hB3.cell0;have b1:=hB3.cell1;have bf0:=hB3.frozen 0
 have bf1:=hB3.frozen 1;have hA4:Box2 ((((W2.setCell ⟨w.heap.size,0,none⟩ (.bool nx)).setCell ⟨w.heap.size,1,none⟩ (.slice a k1 c)).setCell ⟨w.heap.size+1,0,none⟩ (.bool ny)).setCell ⟨w.heap.size+1,1,none⟩ (.slice b k2 d)) w.heap.size nx (.slice a k1 c):=(hA3.other (by show w.heap.size≠w.heap.size+1;omega) _).other (by show w.heap.size≠w.heap.size+1;omega) _;have hB4:Box2 ((((W2.setCell ⟨w.heap.size,0,none⟩ (.bool nx)).setCell ⟨w.heap.size,1,none⟩ (.slice a k1 c)).setCell ⟨w.heap.size+1,0,none⟩ (.bool ny)).setCell ⟨w.heap.size+1,1,none⟩ (.slice b k2 d)) (w.heap.size+1) ny (.slice b k2 d):=(hB3.set0 ny).set1 _
 have HA4:=Z9 hA4;have HB4:=Z9 hB4;clear YM Wz hA2 hB2 hA3 hB3 hA4 hB4
 have ow1:W2.ownsRow W0.heap.size 247 1 (.slice a k1 c) k1 (nums .u32 la):=by
  have:=HN1.out;rw[←HK1.out]at this;obtain⟨h1,h2⟩:=this;refine⟨h1,?_⟩
  rcases h2 with h |⟨g,cap,cur,e1,e2,e3,e4⟩
  ·exact .inl h
  ·exact .inr ⟨g,cap,cur,e1,e2,(HBB.out.block g (Z8 e3)).trans e3,e4⟩
 have ow2:W2.ownsRow W0.heap.size 247 1 (.slice b k2 d) k2 (nums .u32 lb):=by
  have:=HN2.out;rw[←HK2.out]at this;exact zky this ZT.out.size
 have hkeep:∀{v:Value}{k:Nat}{xs:List Value}{W:World}{B:Nat}{u:Value}{i:Nat},W.ownsRow W0.heap.size 247 1 v k xs→B<W0.heap.size→(W.setCell ⟨B,i,none⟩ u).ownsRow W0.heap.size 247 1 v k xs:=fun {v k xs W B u i} h hB =>
  h.kept (row:=some B) (za7 (zci _ _) (.inl rfl) _) (.inr (fun e=>by have:=(h.lt B e).1;omega))
 have ow3:=hkeep (hkeep (hkeep (hkeep ow1 (B:=w.heap.size) (u:=.bool nx) (i:=0) (by omega)) (B:=w.heap.size) (u:=.slice a k1 c) (i:=1) (by omega)) (B:=w.heap.size+1) (u:=.bool ny) (i:=0) (by omega)) (B:=w.heap.size+1) (u:=.slice b k2 d) (i:=1) (by omega);have ow4:=hkeep (hkeep (hkeep (hkeep ow2 (B:=w.heap.size) (u:=.bool nx) (i:=0) (by omega)) (B:=w.heap.size) (u:=.slice a k1 c) (i:=1) (by omega)) (B:=w.heap.size+1) (u:=.bool ny) (i:=0) (by omega)) (B:=w.heap.size+1) (u:=.slice b k2 d) (i:=1) (by omega);have OW3:=Z9 ow3;have OW4:=Z9 ow4;clear ow1 ow2 hkeep ow3 ow4;go_wp2_with fail;have q0:=HA4.out.cell0
 have q1:=HA4.out.cell1;have q2:=HB4.out.cell0;have q3:=HB4.out.cell1;refine bodyPost_ret (v:=.tuple #[.agg #[.bool nx,.slice a k1 c],.agg #[.bool ny,.slice b k2 d],.int .i64 0]) (by simp[results,Tryz.results226,go_sem,q0,q1,q2,q3]) rfl ?_;obtain⟨a3,c3,e3,XR,hlc3,Us⟩:=zbd OW3.out
 injection e3 with e31 _ e33
 subst e31 e33;obtain⟨a4,c4,e4,hl4,hlc4,S6⟩:=zbd OW4.out
 injection e4 with e41 _ e43
 subst e41 e43;refine⟨a,c,la,b,d,lb,by rw[HNX.out,HNY.out,XR,hl4],by omega,by omega,Us,S6,HP1.out,HP2.out,?_⟩;have b2:=HBL.out.trans (HB02.out.mono HBL.out.size);exact(((b2.setCell (p:=⟨w.heap.size,0,none⟩) (Nat.le_refl _) _).setCell (p:=⟨w.heap.size,1,none⟩) (Nat.le_refl _) _).setCell (p:=⟨w.heap.size+1,0,none⟩) (by show w.heap.size≤w.heap.size+1;omega) _).setCell (p:=⟨w.heap.size+1,1,none⟩) (by show w.heap.size≤w.heap.size+1;omega) _
theorem zmq(a b:Option Addr)(n m c d A B:Nat)(la lb:List Nat)(w:World)(Zs:la.length=n)(ZH:lb.length=m)(hn:n≤100000)(hm:m≤100000)(T2:n≤c)
 (ra:Rep la A) (rb:Rep lb B) (ha:Nums .u32 w a la) (hb:Nums .u32 w b lb) (h0:0<B) :
 Calls Tryz.prog 227 #[.slice a n c,.slice b m d] w (zqf w A B):=by
 rcases Nat.lt_or_ge A B with h |h
 ·exact zpx a b n m c d A B la lb w Zs ZH hn hm T2 ra rb ha hb h
 ·match m,ZH with
  |0,ZH =>
   rw[List.eq_nil_of_length_eq_zero ZH]at rb;have:=rb.2.2;simp[val]at this;omega
  |1,ZH=>exact zvo a b n c d A B la lb w Zs ZH hn ra rb ha hb h
  |p+2,ZH=>exact zrz a b n p c d A B la lb w Zs ZH hn (by omega) ra rb ha hb h
theorem MagAt.len{w:World}{v:Value}{N k:Nat}(h:MagAt w v N)(hk:N<Bs ^ k):∃a n c l,v=.slice a n c∧(l:List Nat).length=n∧n≤k∧n≤c∧Nums .u32 w a l∧Rep l N:=by
 obtain⟨a,c,l,h1,h2,h3,h4⟩:=h;exact⟨a,_,c,l,h1,rfl,zcf l N k h4 hk,h2,h3,h4⟩
def KM:Nat:=112
theorem zv4:KM=112:=rfl
theorem zit{z:Int}(h:bigZ z=false):z.natAbs<Bs ^ KM:=by
 have h1:=zfl h;obtain⟨k,hk⟩:∃k,k=1000:=⟨_,rfl⟩
 rw[←hk]at h1;have h2:=(zfz z.natAbs k (by omega)).1 h1;rw[z7o KM];exact Nat.lt_trans h2 (Nat.pow_lt_pow_right (by omega) (by rw[zv4];omega))
theorem zn6{m n:Nat}(h:m≤n)(hb:bigZ (n:Int)=false):bigZ (m:Int)=false:=by
 have h1:=zfl hb;have h2:=zz7 h;unfold bigZ;simp only[Int.natAbs_natCast]at h1 ⊢;simp;omega
def GcM(w:World)(gx gy G:Nat)(gk:Nat)(wr:World):Prop :=
 ∃(X Y:Nat)(nx ny:Bool)(vx vy:Value),gk=Y∧Box2 wr gx nx vx∧Box2 wr gy ny vy∧MagAt wr vx X∧MagAt wr vy Y∧Nat.gcd X Y=G∧X<Bs ^ KM∧Y<Bs ^ KM∧Below w.heap.size w wr
theorem z3r{W:World}{B:Nat}{neg:Bool}{a':Option Addr}{n' c':Nat}{a:Option Addr}{l:List Nat}(h:Box2 W B neg (.slice a' n' c'))(hn:Nums .u32 W a l)(u:Value)(i:Nat):Nums .u32 (W.setCell ⟨B,i,none⟩ u) a l:=fun e he=>by
 obtain⟨g,o,e1,hg,hc⟩:=hn e he;refine⟨g,o,e1,by simpa[World.setCell]using hg,?_⟩
 have Z0:B≠g:=by
  intro hB;subst hB;unfold World.cell? at hc;rw[show W.heap[B]?=_ from h]at hc;simp only at hc
  match ho:o+e,hc with
  |0,hc=>simp at hc
  |1,hc=>simp at hc
  |k+2,hc=>simp at hc
 rw[World.cell?_setCell_other _ _ _ _ (by intro h;injection h with h;exact Z0 h)];exact hc
theorem zig{W:World}{B:Nat}{neg:Bool}{a':Option Addr}{n' c':Nat}{v:Value}{N:Nat}(h:Box2 W B neg (.slice a' n' c'))(hm:MagAt W v N)(u:Value)(i:Nat):MagAt (W.setCell ⟨B,i,none⟩ u) v N:=by
 obtain⟨a,c,l,h1,h2,h3,h4⟩:=hm;exact⟨a,c,l,h1,h2,z3r h h3 u i,h4⟩
theorem ztm(s t:ByteArray)(x y:Int)(w:World)(hs:s.size≤100000)(ht:t.size≤100000)(hx:s.data.toList=txtZ x)(hy:t.data.toList=txtZ y)(bx:bigZ x=false)(byy:bigZ y=false) :
 Calls Tryz.prog 205 #[.string s,.string t] w (zv5 w ⟨(txtZ (Nat.gcd x.natAbs y.natAbs:Int)).toArray⟩):=by
 have hp:=zyf s t x y w hs ht hx hy bx byy;obtain⟨G,hG⟩:∃G,G=Nat.gcd x.natAbs y.natAbs:=⟨_,rfl⟩
 rw[←hG]
 have hGb:bigZ (G:Int)=false:=by
  rcases Nat.eq_zero_or_pos x.natAbs with h |h
  ·rw[hG,h,Nat.gcd_zero_left]
   refine zn6 (n:=y.natAbs) (Nat.le_refl _) ?_;unfold bigZ at byy ⊢;simpa using byy
  ·refine zn6 (n:=x.natAbs) (by rw[hG];exact Nat.gcd_le_left _ h) ?_
   unfold bigZ at bx ⊢;simpa using bx
 have Z2:=zit bx;have XI:=zit byy;have HP:=Z9 hp;have HG:=Z9 hG;have HGB:=Z9 hGb;have HBX:=Z9 Z2;have HBY:=Z9 XI;clear hp hx hy bx byy hG hGb Z2 XI;go_enter Tryz.func205,Tryz.ntmps205;go_wp2_with fail;refine HP.out.mono ?_;rintro e w1 ⟨a,c,la,b,d,lb,rfl,TV,S4,Xd,Zo,Ux,YO,b1⟩;obtain⟨nx,YM⟩:∃nx,nx=decide (x<0):=⟨_,rfl⟩
 obtain⟨ny,Wz⟩:∃ny,ny=decide (y<0):=⟨_,rfl⟩
 obtain⟨k1,Zh⟩:∃k1,k1=la.length:=⟨_,rfl⟩
 obtain⟨k2,Y3⟩:∃k2,k2=lb.length:=⟨_,rfl⟩
 rw[←YM,←Wz,←Zh,←Y3];have HMA:=Z9 (⟨a,c,la,by rw[Zh],TV,Xd,Ux⟩:MagAt w1 (.slice a k1 c) x.natAbs);have HMB:=Z9 (⟨b,d,lb,by rw[Y3],S4,Zo,YO⟩:MagAt w1 (.slice b k2 d) y.natAbs);have B1:=Z9 b1;clear TV S4 Xd Zo Ux YO b1 YM Wz Zh Y3;obtain⟨W2,ZU⟩:∃W2,W2=(w1.alloc (.cells #[.bool nx,.slice a k1 c] 241)).alloc (.cells #[.bool ny,.slice b k2 d] 241):=⟨_,rfl⟩
 have XH:Box2 W2 w1.heap.size nx (.slice a k1 c):=by rw[ZU];exact Box2.alloc (show Box2 (w1.alloc (.cells #[.bool nx,.slice a k1 c] 241)) w1.heap.size nx (.slice a k1 c)from World.alloc_heap_new w1 _) _
 have hB0:Box2 W2 (w1.heap.size+1) ny (.slice b k2 d):=by
  rw[ZU];have:=World.alloc_heap_new (w1.alloc (.cells #[.bool nx,.slice a k1 c] 241)) (.cells #[.bool ny,.slice b k2 d] 241);rw[World.size_alloc]at this;exact this
 have hbl1:Below w1.heap.size w1 W2:=by rw[ZU];exact((Below.refl _ w1).alloc (Nat.le_refl _) _).alloc (by simp) _
 have ZN:GcM w w1.heap.size (w1.heap.size+1) G y.natAbs W2 :=
  ⟨x.natAbs,y.natAbs,nx,ny,_,_,rfl,XH,hB0,MagAt.below HMA.out hbl1,MagAt.below HMB.out hbl1,HG.out.symm,HBX.out,HBY.out,B1.out.trans (hbl1.mono B1.out.size)⟩
 have ST:=Z9 ZN;have HW2:=Z9 ZU;have SZ:=Z9 B1.out.size;clear ZU XH hB0 hbl1 ZN;go_wp2_with fail;rw[←HW2.out];obtain⟨gx,UQ⟩:∃gx,gx=w1.heap.size:=⟨_,rfl⟩
 have Uq:w.heap.size≤gx:=by rw[UQ];exact SZ.out
 have GW:=Z9 Uq;rw[←UQ]at ST ⊢;clear Uq UQ HW2;go_loopg [] y.natAbs (fun k wr=>GcM w gx (gx+1) G k wr)
 case atStart=>exact ST.out
 case round =>
  obtain⟨w4,rfl⟩:∃w4:World,w4=wr:=⟨_,rfl⟩
  obtain⟨X,Y,mx,my,vx,vy,hk,h1,h2,h3,h4,h5,h6,h7,h8⟩:=hrel;have hk':=hk.symm;clear hk;subst hk';obtain⟨a1,n1,c1,l1,rfl,e1,e2,e3,e4,e5⟩:=h3.len h6;obtain⟨a2,n2,c2,l2,rfl,f1,f2,f3,f4,f5⟩:=h4.len h7;rw[zv4]at e2 f2;have H1:=Z9 h1;have H2:=Z9 h2;have N1:=Z9 e4;have N2:=Z9 f4;have R1:=Z9 e5;have R2:=Z9 f5;have L1:=Z9 e1;have L2:=Z9 f1;have HM1:=Z9 h3;have HM2:=Z9 h4;have GG:=Z9 h5;have BB:=Z9 h8;have P1:=Z9 h6;have P2:=Z9 h7
  by_cases Zc:Y=0
  ·subst Zc
   have hl:l2=[]:=z2r l2 f5;have hn:n2=0:=by rw[←f1,hl];rfl
   subst hn;have hG2:X=G:=by rw[←h5,Nat.gcd_zero_right]
   have hwr:=zka false a1 n1 c1 X l1 w4 e1 (by omega) e5 e4
   have ez:(if false=true then -(X:Int)else(X:Int))=(G:Int):=by simp[hG2]
   rw[ez]at hwr;have HWR:=Z9 hwr;clear h1 h2 h3 h4 h5 h6 h7 h8 e1 e4 e5 f1 f4 f5 hl hG2 hwr ez;have q1:=H1.out.cell1;have q2:=H2.out.cell1;go_wp2_with fail;refine HWR.out.mono ?_;rintro e w5 ⟨hq,b5⟩
   rcases hq with⟨hq,_⟩ |⟨_,rfl⟩
   ·rw[HGB.out]at hq;cases hq
   have B5:=Z9 b5;clear b5;go_wp2_with fail;go_ret2;exact⟨rfl,BB.out.trans (B5.out.mono BB.out.size)⟩
  ·have hyp:0<Y:=by omega
   have hn:0<n2:=by
    rcases Nat.eq_zero_or_pos n2 with h |h
    ·rw[h]at f1
     rw[List.eq_nil_of_length_eq_zero f1]at f5;have:=f5.2.2;simp[val]at this;omega
    ·exact h
   have hdv:=zmq a1 a2 n1 n2 c1 c2 X Y l1 l2 w4 e1 f1 (by omega) (by omega) e3 e5 f5 e4 f4 hyp;have HDV:=Z9 hdv;have HYP:=Z9 hyp;have q1:=H1.out.cell1;have q2:=H2.out.cell1;clear h1 h2 h3 h4 h5 h6 h7 h8 e1 e4 e5 f1 f4 f5 hdv Zc hyp;go_wp2_with fail;refine HDV.out.mono ?_;rintro e w5 ⟨v1,v2,rfl,m1,m2,b5⟩
   obtain⟨a3,n3,c3,e3,m3⟩:∃a3 n3 c3,v2=.slice a3 n3 c3∧MagAt w5 (.slice a3 n3 c3) (X % Y):=by
    obtain⟨a3,c3,l3,q,_⟩:=id m2;exact⟨a3,_,c3,q,q ▸ m2⟩
   subst e3;clear m2;have m2:=m3;clear m3;have hx5:Box2 w5 gx mx (.slice a1 n1 c1):=(b5.block _ H1.out.lt).trans H1.out;have hy5:Box2 w5 (gx+1) my (.slice a2 n2 c2):=(b5.block _ H2.out.lt).trans H2.out;have hx6:Box2 (w5.setCell ⟨gx,1,none⟩ (.slice a2 n2 c2)) gx mx (.slice a2 n2 c2):=hx5.set1 _;have hy6:Box2 (w5.setCell ⟨gx,1,none⟩ (.slice a2 n2 c2)) (gx+1) my (.slice a2 n2 c2):=hy5.other (by show gx+1≠gx;omega) _;have hx7:Box2 ((w5.setCell ⟨gx,1,none⟩ (.slice a2 n2 c2)).setCell ⟨gx+1,1,none⟩ (.slice a3 n3 c3)) gx mx (.slice a2 n2 c2):=hx6.other (by show gx≠gx+1;omega) _;have hy7:Box2 ((w5.setCell ⟨gx,1,none⟩ (.slice a2 n2 c2)).setCell ⟨gx+1,1,none⟩ (.slice a3 n3 c3)) (gx+1) my (.slice a3 n3 c3):=hy6.set1 _
   have Z4:X % Y<Y:=Nat.mod_lt _ HYP.out
   have hrel:GcM w gx (gx+1) G (X % Y) ((w5.setCell ⟨gx,1,none⟩ (.slice a2 n2 c2)).setCell ⟨gx+1,1,none⟩ (.slice a3 n3 c3)):=by
    refine⟨Y,X % Y,mx,my,_,_,rfl,hx7,hy7,?_,?_,?_,P2.out,by have:=P2.out;omega,?_⟩
    ·exact zig hy6 (zig hx5 (HM2.out.below b5) _ _) _ _
    ·exact zig hy6 (zig hx5 m2 _ _) _ _
    ·rw[Nat.gcd_comm,←Nat.gcd_rec,Nat.gcd_comm];exact GG.out
    ·exact((BB.out.trans (b5.mono BB.out.size)).setCell (p:=⟨gx,1,none⟩) GW.out _).setCell (p:=⟨gx+1,1,none⟩) (by have:=GW.out;show w.heap.size≤gx+1;omega) _
   have HREL:=Z9 hrel;have HLT:=Z9 Z4;have r1:=hx5.cell1;have r2:=hy5.cell1;have r3:=hx5.frozen 1;have r4:=hy6.frozen 1;have r5:=hy6.cell1;clear m1 m2 b5 hx5 hy5 hx6 hy6 hx7 hy7 Z4 hrel;go_wp2_with fail;go_roundg (X % Y)
   case measure=>exact HLT.out
   case rel=>exact HREL.out
end Go.Proofs.YtkobkpepgdddeaaGreatDoor
