/-
  The reference's DivMod of integers by a positive divisor, by value. No condition.
-/
import Derived.Test.YtkobkpepgdddeaaGreatDoorZaz
import Derived.Lib.ItoaNum
import Derived.Test.YtkobkpepgdddeaaGreatDoorZad
import Derived.Test.YtkobkpepgdddeaaGreatDoorZab
import Derived.Test.YtkobkpepgdddeaaGreatDoorZao
import Derived.Test.YtkobkpepgdddeaaGreatDoorZap
import Derived.Deep.RegionHeld3
import Derived.Test.YtkobkpepgdddeaaGreatDoorZar
namespace Go.Proofs.YtkobkpepgdddeaaGreatDoor
open Go.RowKit
set_option maxHeartbeats 16000000
set_option maxRecDepth 100000
theorem znx{x y q r:Int}(hy:0<y)(h:r+y*q=x)(h1:0≤r)(h2:r<y):x / y=q∧x % y=r:=(Int.ediv_emod_unique hy).2 ⟨h,h1,h2⟩
theorem z7l{x y:Int}(hx:0≤x)(hy:0<y):x / y=((x.natAbs / y.natAbs:Nat):Int)∧x % y=((x.natAbs % y.natAbs:Nat):Int):=by
 have e1:(x.natAbs:Int)=x:=by omega
 have e2:(y.natAbs:Int)=y:=by omega
 rw[Int.natCast_ediv,Int.natCast_emod,e1,e2];exact⟨rfl,rfl⟩
theorem z6p{x y:Int}(hx:x<0)(hy:0<y)(h:x.natAbs % y.natAbs=0):x / y = -((x.natAbs / y.natAbs:Nat):Int)∧x % y=0:=by
 have e:=Nat.div_add_mod x.natAbs y.natAbs
 have e3:((y.natAbs*(x.natAbs / y.natAbs):Nat):Int)=y*((x.natAbs / y.natAbs:Nat):Int):=by
  rw[Int.natCast_mul,show(y.natAbs:Int)=y by omega]
 refine znx hy ?_ (by omega) hy;rw[Int.mul_neg,←e3];omega
theorem z6o{x y:Int}(hx:x<0)(hy:0<y)(h:x.natAbs % y.natAbs≠0):x / y = -((x.natAbs / y.natAbs+1:Nat):Int)∧x % y=((y.natAbs-x.natAbs % y.natAbs:Nat):Int):=by
 have e:=Nat.div_add_mod x.natAbs y.natAbs;have hl:=Nat.mod_lt x.natAbs (show 0<y.natAbs by omega)
 have e3:((y.natAbs*(x.natAbs / y.natAbs):Nat):Int)=y*((x.natAbs / y.natAbs:Nat):Int):=by
  rw[Int.natCast_mul,show(y.natAbs:Int)=y by omega]
 refine znx hy ?_ (by omega) (by omega);rw[Int.mul_neg,Int.natCast_add,Int.mul_add,←e3];omega
def zrv(w:World)(q r:Int)(e:Ending)(w':World):Prop:=e=.returned (.tuple #[.string ⟨(txtZ q).toArray⟩,.string ⟨(txtZ r).toArray⟩,.int .i64 0])∧Below w.heap.size w w'
theorem zyu(s t:ByteArray)(x y:Int)(w:World)(hs:s.size≤100000)(ht:t.size≤100000)(hx:s.data.toList=txtZ x)(hy:t.data.toList=txtZ y)(bx:bigZ x=false)(byy:bigZ y=false)(Zd:0<y)(Xd:0≤x) :
 Calls Tryz.prog 242 #[.string s,.string t] w (zrv w (x / y) (x % y)):=by
 have hb:=zfl s t w (by omega) (by omega);rw[hx,hy,zin bx byy]at hb;have lx:(decN x.natAbs).length≤1000:=by unfold bigZ at bx;simpa using bx
 have ly:(decN y.natAbs).length≤1000:=by unfold bigZ at byy;simpa using byy
 have HB:=Z9 hb;have ad:=Z9 (fun W=>zeq s x W (by omega) hx);have Y3:=Z9 (fun W=>zeq t y W (by omega) hy);clear hb hx hy bx byy;have an:Hid (0<y.natAbs):=(by omega:0<y.natAbs);have ap:Hid (decide (y.natAbs=0)=false):=(by simp;omega:decide (y.natAbs=0)=false);have hq:=z7l Xd Zd;obtain⟨Q,hQ⟩:∃Q,Q=x / y:=⟨_,rfl⟩
 obtain⟨R,hR⟩:∃R,R=x % y:=⟨_,rfl⟩
 rw[←hQ,←hR]at hq ⊢;have ak:=Z9 hq;unfold Hid z1d at ad Y3;rw[show decide (x<0)=false by simp;omega]at ad;rw[show decide (y<0)=false by simp;omega]at Y3;have ad:=Z9 ad;have Y3:=Z9 Y3;clear hq hQ hR Zd;go_enter Tryz.func242,Tryz.ntmps242;go_wp2_with fail;refine HB.out.mono ?_;rintro e w1 ⟨rfl,b1⟩;have B1:=Z9 b1;clear b1;go_wp2_with fail;refine(ad.out _).mono ?_;rintro e w2 ⟨a,n,c,rfl,l2,c2,n2,b2⟩;have B2:=Z9 b2;have L2:=Z9 l2;have N2:=Z9 n2;rw[l2]at lx;clear l2 n2 b2;go_wp2_with fail;refine(Y3.out _).mono ?_;rintro e w3 ⟨b,m,d,rfl,l3,c3,n3,b3⟩;have B3:Hid (Below w.heap.size w w3):=(B1.out.trans (B2.out.mono B1.out.size)).trans (b3.mono (by have:=B1.out.size;have:=B2.out.size;omega))
 have L3:=Z9 l3;have N2b:=Z9 (N2.out.below b3);have N3:=Z9 n3;rw[l3]at ly;have P2:0<n:=by rw[←L2.out];exact List.length_pos_iff.2 (ze4 _)
 have P3:0<m:=by rw[←L3.out];exact List.length_pos_iff.2 (ze4 _)
 clear l3 n3 b3 B1 B2 N2 HB ad Y3;have hz:=zfz b m d (decN y.natAbs) w3 L3.out (by omega) (zcm _) N3.out;rw[zbb,ap.out]at hz;have HZ:=Z9 hz;have ai:=ze6 a b n m c d (decN x.natAbs) (decN y.natAbs) w3 L2.out L3.out (by omega) (by omega) c3 (zcm _) (zcm _) (by rw[zbb];exact an.out) N2b.out N3.out;rw[zbb,zbb]at ai;have al:=Z9 ai;clear hz ai;go_wp2_with fail;refine HZ.out.mono ?_;rintro e w' ⟨rfl,rfl⟩;go_wp2_with fail;refine al.out.mono ?_;rintro e w4 ⟨a1,c1,q,a2,c2',r,rfl,k1,k2,k3,k4,k5,k6,k7,k8,k9,k10,b4⟩;have Yf:=B3.out.size;have B4:=Z9 (B3.out.trans (b4.mono Yf));have N3c:=Z9 (N3.out.below b4)
 obtain⟨K,hK⟩:∃K,K=r.length:=⟨_,rfl⟩
 rw[←hK]at k2 k10 ⊢;rw[L3.out]at k10;have K3:=Z9 k3;have K4:=Z9 k4;have K5:=Z9 k5;have K6:=Z9 k6;have K7:=Z9 k7;have K8:=Z9 k8;have K9:=Z9 k9;have KK:=Z9 hK;clear k3 k4 k5 k6 k7 k8 k9 b4 hK B3 N2b N3 al HZ Yf;have ah:=zev a1 n c1 q false w4 K3.out (by omega) K6.out K4.out;rw[K8.out,if_neg (by decide),←ak.out.1]at ah;have aq:=Z9 ah
 have aj:Hid (∀W,Below w4.heap.size w4 W→Calls Tryz.prog 201 #[.slice a2 K c2',.bool false] W (zl5 W (txtZ R))):=fun W hW=>by
  have:=zev a2 K c2' r false W KK.out.symm (by omega) K7.out (K5.out.below hW)
  rwa [K9.out,if_neg (by decide),←ak.out.2]at this
 clear ah Xd;go_wp2_with fail;refine aq.out.mono ?_;rintro e w8 ⟨rfl,b8⟩;have B8:=Z9 (B4.out.trans (b8.mono B4.out.size));have Zp:=Z9 (aj.out _ b8);clear b8;go_wp2_with fail;refine Zp.out.mono ?_;rintro e w9 ⟨rfl,b9⟩;have B9:=Z9 (B8.out.trans (b9.mono B8.out.size));clear b9;go_wp2_with fail;go_ret3;exact⟨rfl,B9.out⟩
theorem z23(s t:ByteArray)(x y:Int)(w:World)(hs:s.size≤100000)(ht:t.size≤100000)(hx:s.data.toList=txtZ x)(hy:t.data.toList=txtZ y)(bx:bigZ x=false)(byy:bigZ y=false)(Zd:0<y)(Xd:x<0)(Ym:x.natAbs % y.natAbs=0) :
 Calls Tryz.prog 242 #[.string s,.string t] w (zrv w (x / y) (x % y)):=by
 have hb:=zfl s t w (by omega) (by omega);rw[hx,hy,zin bx byy]at hb;have lx:(decN x.natAbs).length≤1000:=by unfold bigZ at bx;simpa using bx
 have ly:(decN y.natAbs).length≤1000:=by unfold bigZ at byy;simpa using byy
 have HB:=Z9 hb;have ad:=Z9 (fun W=>zeq s x W (by omega) hx);have Y3:=Z9 (fun W=>zeq t y W (by omega) hy);clear hb hx hy bx byy;have an:Hid (0<y.natAbs):=(by omega:0<y.natAbs);have ap:Hid (decide (y.natAbs=0)=false):=(by simp;omega:decide (y.natAbs=0)=false);have hq:=z6p Xd Zd Ym;obtain⟨Q,hQ⟩:∃Q,Q=x / y:=⟨_,rfl⟩
 obtain⟨R,hR⟩:∃R,R=x % y:=⟨_,rfl⟩
 rw[←hQ,←hR]at hq ⊢;have ak:=Z9 hq;unfold Hid z1d at ad Y3;rw[show decide (x<0)=true by simp;omega]at ad;rw[show decide (y<0)=false by simp;omega]at Y3;have ad:=Z9 ad;have Y3:=Z9 Y3;clear hq hQ hR Zd;go_enter Tryz.func242,Tryz.ntmps242;go_wp2_with fail;refine HB.out.mono ?_;rintro e w1 ⟨rfl,b1⟩;have B1:=Z9 b1;clear b1;go_wp2_with fail;refine(ad.out _).mono ?_;rintro e w2 ⟨a,n,c,rfl,l2,c2,n2,b2⟩;have B2:=Z9 b2;have L2:=Z9 l2;have N2:=Z9 n2;rw[l2]at lx;clear l2 n2 b2;go_wp2_with fail;refine(Y3.out _).mono ?_;rintro e w3 ⟨b,m,d,rfl,l3,c3,n3,b3⟩;have B3:Hid (Below w.heap.size w w3):=(B1.out.trans (B2.out.mono B1.out.size)).trans (b3.mono (by have:=B1.out.size;have:=B2.out.size;omega))
 have L3:=Z9 l3;have N2b:=Z9 (N2.out.below b3);have N3:=Z9 n3;rw[l3]at ly;have P2:0<n:=by rw[←L2.out];exact List.length_pos_iff.2 (ze4 _)
 have P3:0<m:=by rw[←L3.out];exact List.length_pos_iff.2 (ze4 _)
 clear l3 n3 b3 B1 B2 N2 HB ad Y3;have hz:=zfz b m d (decN y.natAbs) w3 L3.out (by omega) (zcm _) N3.out;rw[zbb,ap.out]at hz;have HZ:=Z9 hz;have ai:=ze6 a b n m c d (decN x.natAbs) (decN y.natAbs) w3 L2.out L3.out (by omega) (by omega) c3 (zcm _) (zcm _) (by rw[zbb];exact an.out) N2b.out N3.out;rw[zbb,zbb]at ai;have al:=Z9 ai;clear hz ai;go_wp2_with fail;refine HZ.out.mono ?_;rintro e w' ⟨rfl,rfl⟩;go_wp2_with fail;refine al.out.mono ?_;rintro e w4 ⟨a1,c1,q,a2,c2',r,rfl,k1,k2,k3,k4,k5,k6,k7,k8,k9,k10,b4⟩;have Yf:=B3.out.size;have B4:=Z9 (B3.out.trans (b4.mono Yf));have N3c:=Z9 (N3.out.below b4)
 obtain⟨K,hK⟩:∃K,K=r.length:=⟨_,rfl⟩
 rw[←hK]at k2 k10 ⊢;rw[L3.out]at k10;have K3:=Z9 k3;have K4:=Z9 k4;have K5:=Z9 k5;have K6:=Z9 k6;have K7:=Z9 k7;have K8:=Z9 k8;have K9:=Z9 k9;have KK:=Z9 hK;clear k3 k4 k5 k6 k7 k8 k9 b4 hK B3 N2b N3 al HZ Yf;have am:=zfz a2 K c2' r w4 KK.out.symm (by omega) K7.out K5.out;rw[K9.out,show decide (x.natAbs % y.natAbs=0)=true from decide_eq_true Ym]at am;have av:=Z9 am;have ah:=zev a1 n c1 q true w4 K3.out (by omega) K6.out K4.out;rw[K8.out,if_pos rfl,←ak.out.1]at ah;have aq:=Z9 ah
 have aj:Hid (∀W,Below w4.heap.size w4 W→Calls Tryz.prog 201 #[.slice a2 K c2',.bool false] W (zl5 W (txtZ R))):=fun W hW=>by
  have:=zev a2 K c2' r false W KK.out.symm (by omega) K7.out (K5.out.below hW);rw[K9.out,Ym,if_neg (by decide)]at this;rw[ak.out.2];exact this
 clear ah Xd am Ym;go_wp2_with fail;refine av.out.mono ?_;rintro e w' ⟨rfl,rfl⟩;go_wp2_with fail;refine aq.out.mono ?_;rintro e w8 ⟨rfl,b8⟩;have B8:=Z9 (B4.out.trans (b8.mono B4.out.size));have Zp:=Z9 (aj.out _ b8);clear b8;go_wp2_with fail;refine Zp.out.mono ?_;rintro e w9 ⟨rfl,b9⟩;have B9:=Z9 (B8.out.trans (b9.mono B8.out.size));clear b9;go_wp2_with fail;go_ret3;exact⟨rfl,B9.out⟩
theorem z22(s t:ByteArray)(x y:Int)(w:World)(hs:s.size≤100000)(ht:t.size≤100000)(hx:s.data.toList=txtZ x)(hy:t.data.toList=txtZ y)(bx:bigZ x=false)(byy:bigZ y=false)(Zd:0<y)(Xd:x<0)(Ym:x.natAbs % y.natAbs≠0) :
 Calls Tryz.prog 242 #[.string s,.string t] w (zrv w (x / y) (x % y)):=by
 have hb:=zfl s t w (by omega) (by omega);rw[hx,hy,zin bx byy]at hb;have lx:(decN x.natAbs).length≤1000:=by unfold bigZ at bx;simpa using bx
 have ly:(decN y.natAbs).length≤1000:=by unfold bigZ at byy;simpa using byy
 have HB:=Z9 hb;have ad:=Z9 (fun W=>zeq s x W (by omega) hx);have Y3:=Z9 (fun W=>zeq t y W (by omega) hy);clear hb hx hy bx byy;have an:Hid (0<y.natAbs):=(by omega:0<y.natAbs);have ap:Hid (decide (y.natAbs=0)=false):=(by simp;omega:decide (y.natAbs=0)=false);have hq:=z6o Xd Zd Ym;obtain⟨Q,hQ⟩:∃Q,Q=x / y:=⟨_,rfl⟩
 obtain⟨R,hR⟩:∃R,R=x % y:=⟨_,rfl⟩
 rw[←hQ,←hR]at hq ⊢;have ak:=Z9 hq;unfold Hid z1d at ad Y3;rw[show decide (x<0)=true by simp;omega]at ad;rw[show decide (y<0)=false by simp;omega]at Y3;have ad:=Z9 ad;have Y3:=Z9 Y3;clear hq hQ hR Zd;go_enter Tryz.func242,Tryz.ntmps242;go_wp2_with fail;refine HB.out.mono ?_;rintro e w1 ⟨rfl,b1⟩;have B1:=Z9 b1;clear b1;go_wp2_with fail;refine(ad.out _).mono ?_;rintro e w2 ⟨a,n,c,rfl,l2,c2,n2,b2⟩;have B2:=Z9 b2;have L2:=Z9 l2;have N2:=Z9 n2;rw[l2]at lx;clear l2 n2 b2;go_wp2_with fail;refine(Y3.out _).mono ?_;rintro e w3 ⟨b,m,d,rfl,l3,c3,n3,b3⟩;have B3:Hid (Below w.heap.size w w3):=(B1.out.trans (B2.out.mono B1.out.size)).trans (b3.mono (by have:=B1.out.size;have:=B2.out.size;omega))
 have L3:=Z9 l3;have N2b:=Z9 (N2.out.below b3);have N3:=Z9 n3;rw[l3]at ly;have P2:0<n:=by rw[←L2.out];exact List.length_pos_iff.2 (ze4 _)
 have P3:0<m:=by rw[←L3.out];exact List.length_pos_iff.2 (ze4 _)
 clear l3 n3 b3 B1 B2 N2 HB ad Y3;have hz:=zfz b m d (decN y.natAbs) w3 L3.out (by omega) (zcm _) N3.out;rw[zbb,ap.out]at hz;have HZ:=Z9 hz;have ai:=ze6 a b n m c d (decN x.natAbs) (decN y.natAbs) w3 L2.out L3.out (by omega) (by omega) c3 (zcm _) (zcm _) (by rw[zbb];exact an.out) N2b.out N3.out;rw[zbb,zbb]at ai;have al:=Z9 ai;clear hz ai;go_wp2_with fail;refine HZ.out.mono ?_;rintro e w' ⟨rfl,rfl⟩;go_wp2_with fail;refine al.out.mono ?_;rintro e w4 ⟨a1,c1,q,a2,c2',r,rfl,k1,k2,k3,k4,k5,k6,k7,k8,k9,k10,b4⟩;have Yf:=B3.out.size;have B4:=Z9 (B3.out.trans (b4.mono Yf));have N3c:=Z9 (N3.out.below b4)
 obtain⟨K,hK⟩:∃K,K=r.length:=⟨_,rfl⟩
 rw[←hK]at k2 k10 ⊢;rw[L3.out]at k10;have K3:=Z9 k3;have K4:=Z9 k4;have K5:=Z9 k5;have K6:=Z9 k6;have K7:=Z9 k7;have K8:=Z9 k8;have K9:=Z9 k9;have KK:=Z9 hK;clear k3 k4 k5 k6 k7 k8 k9 b4 hK B3 N2b N3 al HZ Yf;have am:=zfz a2 K c2' r w4 KK.out.symm (by omega) K7.out K5.out;rw[K9.out,show decide (x.natAbs % y.natAbs=0)=false from decide_eq_false Ym]at am;have av:=Z9 am;have aE:Hid (x.natAbs % y.natAbs<y.natAbs):=Nat.mod_lt _ an.out
 have X2:(w4.alloc (.cells #[.int .i64 1] 3)).ownsRow w4.heap.size 3 1 (.slice (some ⟨w4.heap.size,0,none⟩) 1 1) 1 (nums .i64 [1]) :=
  World.ownsRow_lit w4 #[.int .i64 1] 1 (Nat.le.refl) (by unfold maxLen;omega) (by simp)
 have az:Hid (Nums .i64 (w4.alloc (.cells #[.int .i64 1] 3)) (some ⟨w4.heap.size,0,none⟩) [1]):=by
  obtain⟨a',c',e1,_,_,h⟩:=zau X2
  injection e1 with e1 e2 e3
  rw[←e1]at h;exact h
 have au:Below w4.heap.size w4 (w4.alloc (.cells #[.int .i64 1] 3)):=(Below.refl _ _).alloc (Nat.le.refl) _;have Yg:=zw4 a1 (some ⟨w4.heap.size,0,none⟩) n 1 c1 1 q [1] (w4.alloc (.cells #[.int .i64 1] 3)) K3.out rfl (by omega) (by omega) K6.out (by simp) (K4.out.below au) az.out;have aC:=Z9 Yg;have aA:=Z9 au;clear am X2 Yg au Ym Xd az;go_wp2_with fail;refine av.out.mono ?_;rintro e w' ⟨rfl,rfl⟩;go_wp2_with fail;refine aC.out.mono ?_;rintro e w5 ⟨v,l,rfl,ho,⟨h1,h2,h3⟩,b5⟩;have Wy:Below w4.heap.size w4 w5:=aA.out.trans (b5.mono aA.out.size);have B5:Hid (Below w.heap.size w w5):=B4.out.trans (Wy.mono B4.out.size)
 have aH:=Z9 Wy;obtain⟨a5,c5,rfl,aw,Sw,h5⟩:=zau ho;obtain⟨K1,SU⟩:∃K1,K1=l.length:=⟨_,rfl⟩
 rw[←SU]at h1 aw Sw ⊢;have H2:=Z9 h2
 have ay:dval l=x.natAbs / y.natAbs+1:=by
  have e:dval l=dval q+dval [1]:=h3;rw[e,K8.out];rfl
 have H3:=Z9 ay;have H5:=Z9 h5;have aG:=Z9 SU;have ar:=zko b a2 m K d c2' (decN y.natAbs) r w5 L3.out KK.out.symm (by omega) (by omega) (zcm _) K7.out (by rw[zbb,K9.out];have:=aE.out;omega) (N3c.out.below Wy) (K5.out.below Wy);rw[zbb,K9.out]at ar;have aD:=Z9 ar;have ZL:K1≤5000:=by omega
 clear h1 h2 h3 ay h5 ho b5 Wy ar aw SU;go_wp2_with fail;refine aD.out.mono ?_;rintro e w6 ⟨v,l2,rfl,ho,⟨j1,j2,j3⟩,b6⟩;have B6:Hid (Below w.heap.size w w6):=B5.out.trans (b6.mono B5.out.size);obtain⟨a6,c6,rfl,UD,TS,h6⟩:=zau ho;obtain⟨K2,SV⟩:∃K2,K2=l2.length:=⟨_,rfl⟩
 rw[←SV]at j1 UD TS ⊢;have J2:=Z9 j2;have J3:=Z9 j3;have H6:=Z9 h6;have aF:=Z9 SV;have ah:=zev a5 K1 c5 l true w6 aG.out.symm (by omega) H2.out (H5.out.below b6);rw[H3.out,if_pos rfl,←ak.out.1]at ah;have aq:=Z9 ah
 have aj:Hid (∀W,Below w6.heap.size w6 W→Calls Tryz.prog 201 #[.slice a6 K2 c6,.bool false] W (zl5 W (txtZ R))):=fun W hW=>by
  have:=zev a6 K2 c6 l2 false W aF.out.symm (by omega) J2.out (H6.out.below hW)
  rwa [J3.out,if_neg (by decide),←ak.out.2]at this
 clear ah j1 j2 j3 h6 ho b6 UD SV ZL Sw TS;go_wp2_with fail;refine aq.out.mono ?_;rintro e w8 ⟨rfl,b8⟩;have B8:=Z9 (B6.out.trans (b8.mono B6.out.size));have Zp:=Z9 (aj.out _ b8);clear b8;go_wp2_with fail;refine Zp.out.mono ?_;rintro e w9 ⟨rfl,b9⟩;have B9:=Z9 (B8.out.trans (b9.mono B8.out.size));clear b9;go_wp2_with fail;go_ret3;exact⟨rfl,B9.out⟩
theorem zva(s t:ByteArray)(x y:Int)(w:World)(hs:s.size≤100000)(ht:t.size≤100000)(hx:s.data.toList=txtZ x)(hy:t.data.toList=txtZ y)(bx:bigZ x=false)(byy:bigZ y=false)(Zd:0<y) :
 Calls Tryz.prog 242 #[.string s,.string t] w (zrv w (x / y) (x % y)):=by
 by_cases h:x<0
 ·by_cases h0:x.natAbs % y.natAbs=0
  ·exact z23 s t x y w hs ht hx hy bx byy Zd h h0
  ·exact z22 s t x y w hs ht hx hy bx byy Zd h h0
 ·exact zyu s t x y w hs ht hx hy bx byy Zd (by omega)
open Go.Shelf
theorem zoc(z:Int)(h:bigZ z=false):(⟨(txtZ z).toArray⟩:ByteArray).size≤1001:=by
 rw[←zab];have:=zbz h
 show(txtZ z).length≤_
 unfold txtZ
 split<;>simp[zd0]<;>omega
theorem zrq(z:Int):0<(⟨(txtZ z).toArray⟩:ByteArray).size:=by
 rw[←zab]
 show 0<(txtZ z).length
 unfold txtZ
 split
 ·simp
 ·exact List.length_pos_iff.2 (zhd _)
theorem z4y(z:Int):((⟨(txtZ z).toArray⟩:ByteArray).toList == [48])=decide (z=0):=by
 rw[zac,Bool.eq_iff_iff,beq_iff_eq,decide_eq_true_eq]
 constructor
 ·intro h
  have:txtZ z=txtZ 0:=h;exact zgp this
 ·intro h;rw[h];rfl
theorem z07(z:Int):((((⟨(txtZ z).toArray⟩:ByteArray)[0]'(zrq z)).toNat:Int) == 45)=decide (z<0):=by
 have hh:=zfg z;have hd:=zcf (⟨(txtZ z).toArray⟩:ByteArray) (zrq z);have WA:(txtZ z).head?=some ((⟨(txtZ z).toArray⟩:ByteArray)[0]'(zrq z)):=hd;rw[WA]at hh;rw[Bool.eq_iff_iff,beq_iff_eq,decide_eq_true_eq,←hh]
 constructor
 ·intro h;rw[zt9 (n:=45) h (by omega)];rfl
 ·intro h;injection h with h;rw[h];rfl
theorem zu8(s t g n d r1 r2:ByteArray)(one:Bool)(w:World)(h0:0<t.size)(t0:(t.toList == [48])=false)(t1:((t[0].toNat:Int) == 45)=false)
 (HB:Hid (∀W,Calls Tryz.prog 198 #[.string s,.string t] W (za6 W 0)))
 (HG:Hid (∀W,Calls Tryz.prog 177 #[.string s,.string t] W (zh4 W g)))
 (HN:Hid (∀W,Calls Tryz.prog 242 #[.string s,.string g] W fun e w'=>e=.returned (.tuple #[.string n,.string r1,.int .i64 0])∧Below W.heap.size W w'))
 (HD:Hid (∀W,Calls Tryz.prog 242 #[.string t,.string g] W fun e w'=>e=.returned (.tuple #[.string d,.string r2,.int .i64 0])∧Below W.heap.size W w'))
 (t2:(d.toList == [49])=one) (hl:n.size+d.size≤1000000) :
 Calls Tryz.prog 221 #[.string s,.string t] w (StE w (if one=true then n else n ++ ⟨#[47]⟩ ++ d) 0):=by
 cases one<;>simp only[if_true,Bool.false_eq_true,if_false]
 all_goals
  go_enter Tryz.func221,Tryz.ntmps221;go_wp2_with fail;refine(HB.out _).mono ?_;rintro e w1 ⟨rfl,b1⟩;have B1:=Z9 (b1);clear b1;go_wp2_with fail;refine(HG.out _).mono ?_;rintro e w2 ⟨rfl,b2⟩;have B2:=Z9 (B1.out.trans (b2.mono B1.out.size));clear b2;go_wp2_with fail;refine(HN.out _).mono ?_;rintro e w3 ⟨rfl,b3⟩;have B3:=Z9 (B2.out.trans (b3.mono B2.out.size));clear b3;go_wp2_with fail;refine(HD.out _).mono ?_;rintro e w4 ⟨rfl,b4⟩;have B4:=Z9 (B3.out.trans (b4.mono B3.out.size));clear b4;go_wp2_with fail;go_ret2;exact⟨rfl,B4.out⟩
theorem z6t(z:Int):((⟨(txtZ z).toArray⟩:ByteArray).toList == [49])=decide (z=1):=by
 rw[zac,Bool.eq_iff_iff,beq_iff_eq,decide_eq_true_eq]
 constructor
 ·intro h
  have:txtZ z=txtZ 1:=h.trans txtZ_1.symm;exact zgp this
 ·intro h;rw[h];exact txtZ_1
theorem zu7(x y:Int)(w:World)(bx:bigZ x=false)(byy:bigZ y=false)(hy:0<y) :
 Calls Tryz.prog 221 #[.string ⟨(txtZ x).toArray⟩,.string ⟨(txtZ y).toArray⟩] w (StE w ⟨(ratT (ratN x y) (ratD x y)).toArray⟩ 0):=by
 have lx:=zoc x bx;have ly:=zoc y byy;have VI:0<Nat.gcd x.natAbs y.natAbs:=Nat.gcd_pos_of_pos_right _ (by omega);have bg:bigZ (Nat.gcd x.natAbs y.natAbs:Int)=false:=zjv (Nat.gcd_le_right _ (by omega)) (by rw[show((y.natAbs:Nat):Int)=y by omega];exact byy);have lg:=zoc _ bg;have hN:ratN x y=x / (Nat.gcd x.natAbs y.natAbs:Int):=by unfold ratN;rw[if_neg (by omega)]
 have hD:ratD x y=y / (Nat.gcd x.natAbs y.natAbs:Int):=by unfold ratD;rw[show(y.natAbs:Int)=y by omega]
 have Vw:=zqy (x:=x) (y:=y) (by omega) bx byy;have ln:=zoc _ Vw.2.2.1;have ld:=zoc _ Vw.2.2.2
 have h:=zu8 ⟨(txtZ x).toArray⟩ ⟨(txtZ y).toArray⟩ ⟨(txtZ (Nat.gcd x.natAbs y.natAbs:Int)).toArray⟩ ⟨(txtZ (ratN x y)).toArray⟩ ⟨(txtZ (ratD x y)).toArray⟩ _ _ (decide (ratD x y=1)) w (zrq y) (by rw[z4y];exact decide_eq_false (by omega)) (by rw[z07];exact decide_eq_false (by omega))
  (Z9 fun W=>by have:=zfl ⟨(txtZ x).toArray⟩ ⟨(txtZ y).toArray⟩ W (by omega) (by omega);rwa [show(⟨(txtZ x).toArray⟩:ByteArray).data.toList=txtZ x from rfl,show(⟨(txtZ y).toArray⟩:ByteArray).data.toList=txtZ y from rfl,zin bx byy]at this)
  (Z9 fun W=>zo3 _ _ x y W rfl rfl bx byy (by omega) (by omega))
  (Z9 fun W=>by rw[hN];exact zva _ _ x _ W (by omega) (by omega) rfl rfl bx bg (by omega))
  (Z9 fun W=>by rw[hD];exact zva _ _ y _ W (by omega) (by omega) rfl rfl byy bg (by omega))
  (z6t _) (by omega)
 have e:(if decide (ratD x y=1)=true then(⟨(txtZ (ratN x y)).toArray⟩:ByteArray)else⟨(txtZ (ratN x y)).toArray⟩ ++ ⟨#[47]⟩ ++ ⟨(txtZ (ratD x y)).toArray⟩)=⟨(ratT (ratN x y) (ratD x y)).toArray⟩:=by
  unfold ratT
  by_cases h1:ratD x y=1
  ·rw[if_pos (decide_eq_true h1),if_pos h1]
  ·rw[if_neg (by simpa using h1),if_neg h1]
   refine Go.WideShapes.bytes_inj ?_;rw[zer,zer];simp
 rwa [e]at h
set_option linter.unusedVariables false
theorem ze1(x:Int)(Y:Nat)(nS dS:ByteArray)(W:World)(hn:nS.data.toList=txtZ x)(hd:dS.data.toList=txtN Y)(M:Nat)(hM:M=1000)(bx:x.natAbs<10 ^ M)(bY:Y<10 ^ M)(hY:0<Y) :
 Calls Tryz.prog 221 #[.string nS,.string dS] W (StE W ⟨(ratT (ratN x (Y:Int)) (ratD x (Y:Int))).toArray⟩ 0):=by
 have b1:bigZ x=false:=zca (x:=(x.natAbs:Int)) (by simp) (ze8 bx (by omega) (by omega));have b2:bigZ (Y:Int)=false:=ze8 bY (by omega) (by omega);have:=zu7 x (Y:Int) W b1 b2 (by omega);rw[zl2 hn,zl2 (hd.trans (zdz Y).symm)];exact this
def StrT(w:World)(T:ByteArray)(e:Ending)(w':World):Prop:=e=.returned (.string T)∧w=w'
def TenR(n:Nat)(dv iv:Value):Prop:=∃(k:Nat)(t:ByteArray),k≤n∧iv=.int .i64 (k:Int)∧dv=.string t∧t.size=k+1∧Hid (t.data.toList=49 :: List.replicate k 48)
theorem z55(f b T R:ByteArray)(w:World)(hT:T.size≤100000)(Yi:Hid (∀W,Calls Tryz.prog 220 #[.string f] W (StrT W T)))
 (HM:Hid (∀W,Calls Tryz.prog 221 #[.string T,.string ⟨#[49]⟩] W (StE W R 0))) :
 Calls Tryz.prog 192 #[.bool false,.string f,.int .u8 0,.string b] w (StE w R 0):=by
 go_enter Tryz.func192,Tryz.ntmps192;go_wp2_with fail;refine(Yi.out _).mono ?_;rintro e w' ⟨rfl,rfl⟩;go_wp2_with fail;refine(HM.out _).mono ?_;rintro e w1 ⟨rfl,ZL⟩;have HB:=Z9 ZL;clear ZL;go_wp2_with fail;go_ret2;exact⟨rfl,HB.out⟩
theorem z54(f b T R:ByteArray)(w:World)(hT:T.size≤100000)(Yi:Hid (∀W,Calls Tryz.prog 220 #[.string f] W (StrT W T)))(z1:(T.toList == [48])=true)(z2:(T.toList != [48])=false)
 (HM:Hid (∀W,Calls Tryz.prog 221 #[.string T,.string ⟨#[49]⟩] W (StE W R 0))) :
 Calls Tryz.prog 192 #[.bool true,.string f,.int .u8 0,.string b] w (StE w R 0):=by
 go_enter Tryz.func192,Tryz.ntmps192;go_wp2_with fail;refine(Yi.out _).mono ?_;rintro e w' ⟨rfl,rfl⟩;go_wp2_with fail;refine(HM.out _).mono ?_;rintro e w1 ⟨rfl,ZL⟩;have HB:=Z9 ZL;clear ZL;go_wp2_with fail;go_ret2;exact⟨rfl,HB.out⟩
theorem z52(f b T R:ByteArray)(w:World)(hT:T.size≤100000)(Yi:Hid (∀W,Calls Tryz.prog 220 #[.string f] W (StrT W T)))(z1:(T.toList == [48])=false)(z2:(T.toList != [48])=true)
 (HM:Hid (∀W,Calls Tryz.prog 221 #[.string (⟨#[45]⟩ ++ T),.string ⟨#[49]⟩] W (StE W R 0))) :
 Calls Tryz.prog 192 #[.bool true,.string f,.int .u8 0,.string b] w (StE w R 0):=by
 go_enter Tryz.func192,Tryz.ntmps192;go_wp2_with fail;refine(Yi.out _).mono ?_;rintro e w' ⟨rfl,rfl⟩;go_wp2_with fail;refine(HM.out _).mono ?_;rintro e w1 ⟨rfl,ZL⟩;have HB:=Z9 ZL;clear ZL;go_wp2_with fail;go_ret2;exact⟨rfl,HB.out⟩
theorem z3s(f b T D T0 R:ByteArray)(w:World)(hT:T.size≤100000)(Yi:Hid (∀W,Calls Tryz.prog 220 #[.string f] W (StrT W T0)))(HT:Hid (∀W,Calls Tryz.prog 220 #[.string (f ++ b)] W (StrT W T)))(WC:f.size+b.size≤100000)(ax:(f ++ b).size≤100000)(hb:b.size≤1000)(HD:Hid (D.data.toList=49 :: List.replicate b.size 48))
 (HM:Hid (∀W,Calls Tryz.prog 221 #[.string T,.string D] W (StE W R 0))) :
 Calls Tryz.prog 192 #[.bool false,.string f,.int .u8 46,.string b] w (StE w R 0):=by
 go_enter Tryz.func192,Tryz.ntmps192;go_wp2_with fail;refine(Yi.out _).mono ?_;rintro e w' ⟨rfl,rfl⟩;go_wp2_with fail;refine(HT.out _).mono ?_;rintro e w' ⟨rfl,rfl⟩;go_wp2_with fail;go_loop [11,12] (fun dv iv=>TenR b.size dv iv) (fun _ iv=>b.size-(intOf iv).toNat)
 case atStart=>exact⟨0,⟨#[49]⟩,Nat.zero_le _,rfl,rfl,rfl,Z9 rfl⟩
 case round =>
  obtain⟨k,t,hk,rfl,rfl,Xo,HK⟩:=hrel;have ao:t.size≤2000:=by omega
  have Vk:=Z9 Xo;clear Xo
  by_cases Z7:k<b.size
  ·have ae:(t ++ ⟨#[48]⟩:ByteArray).size=t.size+1:=by
    rw[←zab,ByteArray.data_append,Array.toList_append,List.length_append,zab];rfl
   have HX:Hid ((t ++ ⟨#[48]⟩:ByteArray).data.toList=49 :: List.replicate (k+1) 48):=by
    show(t ++ ⟨#[48]⟩:ByteArray).data.toList=_
    rw[ByteArray.data_append,Array.toList_append,HK.out,List.replicate_succ'];rfl
   have HS:=Z9 ae;clear ae;go_wp2_with fail;go_round
   case rel=>exact⟨k+1,_,by omega,by go_num,rfl,by rw[HS.out,Vk.out],HX⟩
   case measure=>simp[intOf]<;>omega
  ·obtain rfl:k=b.size:=by omega
   obtain rfl:t=D:=Go.WideShapes.bytes_inj (HK.out.trans HD.out.symm);go_wp2_with fail;refine(HM.out _).mono ?_;rintro e w1 ⟨rfl,ZL⟩;have HB:=Z9 ZL;clear ZL;go_wp2_with fail;go_ret2;exact⟨rfl,HB.out⟩
theorem z3r(f b T D T0 R:ByteArray)(w:World)(hT:T.size≤100000)(Yi:Hid (∀W,Calls Tryz.prog 220 #[.string f] W (StrT W T0)))(HT:Hid (∀W,Calls Tryz.prog 220 #[.string (f ++ b)] W (StrT W T)))(WC:f.size+b.size≤100000)(ax:(f ++ b).size≤100000)(hb:b.size≤1000)(HD:Hid (D.data.toList=49 :: List.replicate b.size 48))(z1:(T.toList == [48])=true)(z2:(T.toList != [48])=false)
 (HM:Hid (∀W,Calls Tryz.prog 221 #[.string T,.string D] W (StE W R 0))) :
 Calls Tryz.prog 192 #[.bool true,.string f,.int .u8 46,.string b] w (StE w R 0):=by
 go_enter Tryz.func192,Tryz.ntmps192;go_wp2_with fail;refine(Yi.out _).mono ?_;rintro e w' ⟨rfl,rfl⟩;go_wp2_with fail;refine(HT.out _).mono ?_;rintro e w' ⟨rfl,rfl⟩;go_wp2_with fail;go_loop [11,12] (fun dv iv=>TenR b.size dv iv) (fun _ iv=>b.size-(intOf iv).toNat)
 case atStart=>exact⟨0,⟨#[49]⟩,Nat.zero_le _,rfl,rfl,rfl,Z9 rfl⟩
 case round =>
  obtain⟨k,t,hk,rfl,rfl,Xo,HK⟩:=hrel;have ao:t.size≤2000:=by omega
  have Vk:=Z9 Xo;clear Xo
  by_cases Z7:k<b.size
  ·have ae:(t ++ ⟨#[48]⟩:ByteArray).size=t.size+1:=by
    rw[←zab,ByteArray.data_append,Array.toList_append,List.length_append,zab];rfl
   have HX:Hid ((t ++ ⟨#[48]⟩:ByteArray).data.toList=49 :: List.replicate (k+1) 48):=by
    show(t ++ ⟨#[48]⟩:ByteArray).data.toList=_
    rw[ByteArray.data_append,Array.toList_append,HK.out,List.replicate_succ'];rfl
   have HS:=Z9 ae;clear ae;go_wp2_with fail;go_round
   case rel=>exact⟨k+1,_,by omega,by go_num,rfl,by rw[HS.out,Vk.out],HX⟩
   case measure=>simp[intOf]<;>omega
  ·obtain rfl:k=b.size:=by omega
   obtain rfl:t=D:=Go.WideShapes.bytes_inj (HK.out.trans HD.out.symm);go_wp2_with fail;refine(HM.out _).mono ?_;rintro e w1 ⟨rfl,ZL⟩;have HB:=Z9 ZL;clear ZL;go_wp2_with fail;go_ret2;exact⟨rfl,HB.out⟩
theorem z3q(f b T D T0 R:ByteArray)(w:World)(hT:T.size≤100000)(Yi:Hid (∀W,Calls Tryz.prog 220 #[.string f] W (StrT W T0)))(HT:Hid (∀W,Calls Tryz.prog 220 #[.string (f ++ b)] W (StrT W T)))(WC:f.size+b.size≤100000)(ax:(f ++ b).size≤100000)(hb:b.size≤1000)(HD:Hid (D.data.toList=49 :: List.replicate b.size 48))(z1:(T.toList == [48])=false)(z2:(T.toList != [48])=true)
 (HM:Hid (∀W,Calls Tryz.prog 221 #[.string (⟨#[45]⟩ ++ T),.string D] W (StE W R 0))) :
 Calls Tryz.prog 192 #[.bool true,.string f,.int .u8 46,.string b] w (StE w R 0):=by
 go_enter Tryz.func192,Tryz.ntmps192;go_wp2_with fail;refine(Yi.out _).mono ?_;rintro e w' ⟨rfl,rfl⟩;go_wp2_with fail;refine(HT.out _).mono ?_;rintro e w' ⟨rfl,rfl⟩;go_wp2_with fail;go_loop [11,12] (fun dv iv=>TenR b.size dv iv) (fun _ iv=>b.size-(intOf iv).toNat)
 case atStart=>exact⟨0,⟨#[49]⟩,Nat.zero_le _,rfl,rfl,rfl,Z9 rfl⟩
 case round =>
  obtain⟨k,t,hk,rfl,rfl,Xo,HK⟩:=hrel;have ao:t.size≤2000:=by omega
  have Vk:=Z9 Xo;clear Xo
  by_cases Z7:k<b.size
  ·have ae:(t ++ ⟨#[48]⟩:ByteArray).size=t.size+1:=by
    rw[←zab,ByteArray.data_append,Array.toList_append,List.length_append,zab];rfl
   have HX:Hid ((t ++ ⟨#[48]⟩:ByteArray).data.toList=49 :: List.replicate (k+1) 48):=by
    show(t ++ ⟨#[48]⟩:ByteArray).data.toList=_
    rw[ByteArray.data_append,Array.toList_append,HK.out,List.replicate_succ'];rfl
   have HS:=Z9 ae;clear ae;go_wp2_with fail;go_round
   case rel=>exact⟨k+1,_,by omega,by go_num,rfl,by rw[HS.out,Vk.out],HX⟩
   case measure=>simp[intOf]<;>omega
  ·obtain rfl:k=b.size:=by omega
   obtain rfl:t=D:=Go.WideShapes.bytes_inj (HK.out.trans HD.out.symm);go_wp2_with fail;refine(HM.out _).mono ?_;rintro e w1 ⟨rfl,ZL⟩;have HB:=Z9 ZL;clear ZL;go_wp2_with fail;go_ret2;exact⟨rfl,HB.out⟩
theorem z3p(f b T R:ByteArray)(w:World)(hT:T.size≤100000)(Yi:Hid (∀W,Calls Tryz.prog 220 #[.string f] W (StrT W T)))
 (HM:Hid (∀W,Calls Tryz.prog 221 #[.string T,.string b] W (StE W R 0))) :
 Calls Tryz.prog 192 #[.bool false,.string f,.int .u8 47,.string b] w (StE w R 0):=by
 go_enter Tryz.func192,Tryz.ntmps192;go_wp2_with fail;refine(Yi.out _).mono ?_;rintro e w' ⟨rfl,rfl⟩;go_wp2_with fail;refine(HM.out _).mono ?_;rintro e w1 ⟨rfl,ZL⟩;have HB:=Z9 ZL;clear ZL;go_wp2_with fail;go_ret2;exact⟨rfl,HB.out⟩
theorem z3o(f b T R:ByteArray)(w:World)(hT:T.size≤100000)(Yi:Hid (∀W,Calls Tryz.prog 220 #[.string f] W (StrT W T)))(z1:(T.toList == [48])=true)(z2:(T.toList != [48])=false)
 (HM:Hid (∀W,Calls Tryz.prog 221 #[.string T,.string b] W (StE W R 0))) :
 Calls Tryz.prog 192 #[.bool true,.string f,.int .u8 47,.string b] w (StE w R 0):=by
 go_enter Tryz.func192,Tryz.ntmps192;go_wp2_with fail;refine(Yi.out _).mono ?_;rintro e w' ⟨rfl,rfl⟩;go_wp2_with fail;refine(HM.out _).mono ?_;rintro e w1 ⟨rfl,ZL⟩;have HB:=Z9 ZL;clear ZL;go_wp2_with fail;go_ret2;exact⟨rfl,HB.out⟩
theorem z3n(f b T R:ByteArray)(w:World)(hT:T.size≤100000)(Yi:Hid (∀W,Calls Tryz.prog 220 #[.string f] W (StrT W T)))(z1:(T.toList == [48])=false)(z2:(T.toList != [48])=true)
 (HM:Hid (∀W,Calls Tryz.prog 221 #[.string (⟨#[45]⟩ ++ T),.string b] W (StE W R 0))) :
 Calls Tryz.prog 192 #[.bool true,.string f,.int .u8 47,.string b] w (StE w R 0):=by
 go_enter Tryz.func192,Tryz.ntmps192;go_wp2_with fail;refine(Yi.out _).mono ?_;rintro e w' ⟨rfl,rfl⟩;go_wp2_with fail;refine(HM.out _).mono ?_;rintro e w1 ⟨rfl,ZL⟩;have HB:=Z9 ZL;clear ZL;go_wp2_with fail;go_ret2;exact⟨rfl,HB.out⟩
theorem zlm{T:ByteArray}{X:Nat}(h:T.data.toList=txtN X)(hX:0<X):(⟨#[45]⟩ ++ T:ByteArray).data.toList=txtZ (-(X:Int)):=by
 rw[ByteArray.data_append,Array.toList_append,h,zh7 hX];rfl
theorem zp9{T:ByteArray}{X:Nat}(h:T.data.toList=txtN X):(T.toList == [48])=decide (X=0):=by
 rw[zac,h,Bool.eq_iff_iff,beq_iff_eq,decide_eq_true_eq]
 constructor
 ·intro e
  have:=zv1 X;rw[e]at this;exact this.symm
 ·rintro rfl;rfl
theorem zt0{T:ByteArray}{X:Nat}(h:T.data.toList=txtN X):(T.toList != [48]) = !decide (X=0):=by
 rw[←zp9 h];rfl
theorem zqe(t T:ByteArray)(W:World)(ht:t.size≤100000)(h0:t.data.toList≠[])(hd:∀c ∈ t.data.toList,dgQ c=true)(hT:T.data.toList=txtN (numV t.data.toList)) :
 Calls Tryz.prog 220 #[.string t] W (StrT W T):=by
 have:=z2g t W ht;rw[z5c h0 hd]at this
 exact this.mono fun e w' ⟨h1,h2⟩=>⟨by rw[h1,zl2 hT],h2⟩
theorem z6q{l:List UInt8}(h:∀c ∈ l,dgQ c=true):∀c ∈ l,48≤c.toNat∧c.toNat≤57:=fun c hc=>by
 have:=h c hc;unfold dgQ at this;simpa using this
theorem zjb(neg:Bool)(f b:ByteArray)(mk:Nat)(w:World)(Yb:mk=0∨mk=46∨mk=47)(VY:f.data.toList≠[])(hf:∀c ∈ f.data.toList,dgQ c=true)(hb:∀c ∈ b.data.toList,dgQ c=true)(aB:f.size≤1000)
 (Wz:b.size≤1000) (Yx:mk=46→f.size+b.size≤1000) (YF:mk=47→b.data.toList≠[]∧b.data.toList.head?≠some 48) :
 Calls Tryz.prog 192 #[.bool neg,.string f,.int .u8 (mk:Int),.string b] w (StE w ⟨(zgg neg f.data.toList mk b.data.toList).toArray⟩ 0):=by
 obtain⟨M,hM⟩:∃M,M=1000:=⟨_,rfl⟩
 have pw:∀l:List UInt8,(∀c ∈ l,dgQ c=true)→l.length≤1000→numV l<10 ^ M:=fun l hl hn=>Nat.lt_of_lt_of_le (zeg l (z6q hl)) (Nat.pow_le_pow_right (by omega) (by omega))
 have fl:f.data.toList.length≤1000:=by rw[zab];exact aB
 have bl:b.data.toList.length≤1000:=by rw[zab];exact Wz
 have tlen:∀X:Nat,X<10 ^ M→(⟨(txtN X).toArray⟩:ByteArray).size≤100000:=fun X hX=>by
  have e:=zl3 (z:=(X:Int)) (ze8 hX (by omega) (by omega));rw[Int.natAbs_natCast]at e
  rw[←zab];show(txtN X).length≤_;omega
 have e49:(⟨#[49]⟩:ByteArray).data.toList=txtN 1:=by
  have:CanN [49]:=⟨by simp,by decide,fun _=>rfl⟩;have h:=zbt [49] this;exact h.symm
 obtain⟨T0,Uu⟩:∃T:ByteArray,T=⟨(txtN (numV f.data.toList)).toArray⟩:=⟨_,rfl⟩
 have lT0:T0.data.toList=txtN (numV f.data.toList):=by rw[Uu]
 have sT0:T0.size≤100000:=by rw[Uu];exact tlen _ (pw _ hf fl)
 have Yi:=Z9 (fun W=>zqe f T0 W (by omega) VY hf lT0)
 rcases Yb with rfl |rfl |rfl
 ·have hr:∀q,zgg q f.data.toList 0 b.data.toList=ratT (ratN (if q=true then -((numV f.data.toList:Nat):Int)else((numV f.data.toList:Nat):Int)) ((1:Nat):Int)) (ratD (if q=true then -((numV f.data.toList:Nat):Int)else((numV f.data.toList:Nat):Int)) ((1:Nat):Int)):=fun q=>rfl
  rw[hr];have z1:=zp9 lT0;have z2:=zt0 lT0
  cases neg with
  |false=>exact z55 f b T0 _ w sT0 Yi (Z9 fun W=>ze1 _ _ _ _ W (by rw[lT0,if_neg (by decide),zdz]) e49 M hM (by rw[if_neg (by decide),Int.natAbs_natCast];exact pw _ hf fl) (Nat.one_lt_pow (by omega) (by omega)) (by omega))
  |true =>
   by_cases hX:numV f.data.toList=0
   ·rw[decide_eq_true hX]at z1 z2
    exact z54 f b T0 _ w sT0 Yi z1 z2 (Z9 fun W=>ze1 _ _ _ _ W (by rw[lT0,if_pos rfl,hX];rfl) e49 M hM (by rw[if_pos rfl,Int.natAbs_neg,Int.natAbs_natCast];exact pw _ hf fl) (Nat.one_lt_pow (by omega) (by omega)) (by omega))
   ·rw[decide_eq_false hX]at z1 z2
    exact z52 f b T0 _ w sT0 Yi z1 z2 (Z9 fun W=>ze1 _ _ _ _ W (by rw[if_pos rfl];exact zlm lT0 (by omega)) e49 M hM (by rw[if_pos rfl,Int.natAbs_neg,Int.natAbs_natCast];exact pw _ hf fl) (Nat.one_lt_pow (by omega) (by omega)) (by omega))
 ·have WC:∀c ∈ f.data.toList ++ b.data.toList,dgQ c=true:=fun c hc=>by
   rcases List.mem_append.1 hc with h |h
   ·exact hf c h
   ·exact hb c h
  have lfb:(f ++ b).data.toList=f.data.toList ++ b.data.toList:=by simp
  have sfb:(f ++ b).size≤1000:=by rw[←zab,lfb,List.length_append,zab,zab];exact Yx rfl
  have pfb:numV (f.data.toList ++ b.data.toList)<10 ^ M:=pw _ WC (by rw[List.length_append,zab,zab];exact Yx rfl);have f1:1≤f.size:=by rw[←zab];exact List.length_pos_iff.2 VY
  obtain⟨T,hT⟩:∃T:ByteArray,T=⟨(txtN (numV (f.data.toList ++ b.data.toList))).toArray⟩:=⟨_,rfl⟩
  have lT:T.data.toList=txtN (numV (f.data.toList ++ b.data.toList)):=by rw[hT]
  have sT:T.size≤100000:=by rw[hT];exact tlen _ pfb
  have HT:=Z9 (fun W=>zqe (f ++ b) T W (by omega) (by rw[lfb];intro e;exact VY (List.append_eq_nil_iff.1 e).1) (by rw[lfb];exact WC) (by rw[lfb];exact lT));obtain⟨D,hD⟩:∃D:ByteArray,D=⟨(49 :: List.replicate b.size 48).toArray⟩:=⟨_,rfl⟩
  have lD:D.data.toList=49 :: List.replicate b.size 48:=by rw[hD]
  have cD:CanN (49 :: List.replicate b.size 48):=⟨by simp,by
   intro c hc
   rcases List.mem_cons.1 hc with rfl |hc
   ·decide
   ·rw[List.eq_of_mem_replicate hc];decide,by simp⟩
  have lD2:D.data.toList=txtN (10 ^ b.data.toList.length):=by
   rw[lD,zab,←zq4,zcs,zbt _ cD]
  have hr:∀q,zgg q f.data.toList 46 b.data.toList=ratT (ratN (if q=true then -((numV (f.data.toList ++ b.data.toList):Nat):Int)else((numV (f.data.toList ++ b.data.toList):Nat):Int)) ((10 ^ b.data.toList.length:Nat):Int)) (ratD (if q=true then -((numV (f.data.toList ++ b.data.toList):Nat):Int)else((numV (f.data.toList ++ b.data.toList):Nat):Int)) ((10 ^ b.data.toList.length:Nat):Int)):=fun q=>rfl
  rw[hr];have z1:=zp9 lT;have z2:=zt0 lT
  cases neg with
  |false=>exact z3s f b T D T0 _ w sT Yi HT (by omega) (by omega) Wz (Z9 lD) (Z9 fun W=>ze1 _ _ _ _ W (by rw[lT,if_neg (by decide),zdz]) lD2 M hM (by rw[if_neg (by decide),Int.natAbs_natCast];exact pfb) (by rw[zab];exact Nat.pow_lt_pow_right (by omega) (by have:=Yx rfl;omega)) (Nat.pow_pos (by omega)))
  |true =>
   by_cases hX:numV (f.data.toList ++ b.data.toList)=0
   ·rw[decide_eq_true hX]at z1 z2
    exact z3r f b T D T0 _ w sT Yi HT (by omega) (by omega) Wz (Z9 lD) z1 z2 (Z9 fun W=>ze1 _ _ _ _ W (by rw[lT,if_pos rfl,hX];rfl) lD2 M hM (by rw[if_pos rfl,Int.natAbs_neg,Int.natAbs_natCast];exact pfb) (by rw[zab];exact Nat.pow_lt_pow_right (by omega) (by have:=Yx rfl;omega)) (Nat.pow_pos (by omega)))
   ·rw[decide_eq_false hX]at z1 z2
    exact z3q f b T D T0 _ w sT Yi HT (by omega) (by omega) Wz (Z9 lD) z1 z2 (Z9 fun W=>ze1 _ _ _ _ W (by rw[if_pos rfl];exact zlm lT (by omega)) lD2 M hM (by rw[if_pos rfl,Int.natAbs_neg,Int.natAbs_natCast];exact pfb) (by rw[zab];exact Nat.pow_lt_pow_right (by omega) (by have:=Yx rfl;omega)) (Nat.pow_pos (by omega)))
 ·obtain⟨b0,b1⟩:=YF rfl
  have cB:CanN b.data.toList:=⟨b0,z6q hb,fun e=>absurd e b1⟩;have lB:b.data.toList=txtN (numV b.data.toList):=by rw[zcs,zbt _ cB]
  have hr:∀q,zgg q f.data.toList 47 b.data.toList=ratT (ratN (if q=true then -((numV f.data.toList:Nat):Int)else((numV f.data.toList:Nat):Int)) ((numV b.data.toList:Nat):Int)) (ratD (if q=true then -((numV f.data.toList:Nat):Int)else((numV f.data.toList:Nat):Int)) ((numV b.data.toList:Nat):Int)):=fun q=>rfl
  rw[hr];have z1:=zp9 lT0;have z2:=zt0 lT0
  cases neg with
  |false=>exact z3p f b T0 _ w sT0 Yi (Z9 fun W=>ze1 _ _ _ _ W (by rw[lT0,if_neg (by decide),zdz]) lB M hM (by rw[if_neg (by decide),Int.natAbs_natCast];exact pw _ hf fl) (pw _ hb bl) (zf5 b0 hb b1))
  |true =>
   by_cases hX:numV f.data.toList=0
   ·rw[decide_eq_true hX]at z1 z2
    exact z3o f b T0 _ w sT0 Yi z1 z2 (Z9 fun W=>ze1 _ _ _ _ W (by rw[lT0,if_pos rfl,hX];rfl) lB M hM (by rw[if_pos rfl,Int.natAbs_neg,Int.natAbs_natCast];exact pw _ hf fl) (pw _ hb bl) (zf5 b0 hb b1))
   ·rw[decide_eq_false hX]at z1 z2
    exact z3n f b T0 _ w sT0 Yi z1 z2 (Z9 fun W=>ze1 _ _ _ _ W (by rw[if_pos rfl];exact zlm lT0 (by omega)) lB M hM (by rw[if_pos rfl,Int.natAbs_neg,Int.natAbs_natCast];exact pw _ hf fl) (pw _ hb bl) (zf5 b0 hb b1))
set_option linter.unusedVariables false
theorem zaw(w:World)(o1 o2:Obj):((w.alloc o1).alloc o2).heap[w.heap.size]?=some o1:=by
 rw[Below.heap_alloc _ _ _ (by simp)];exact World.alloc_heap_new w _
theorem zbc(w:World)(o1 o2:Obj):((w.alloc o1).alloc o2).heap[w.heap.size+1]?=some o2:=by
 have:=World.alloc_heap_new (w.alloc o1) o2
 rwa [World.size_alloc]at this
theorem zat{w W:World}{i:Nat}{R:OneR}{er en:Int}{K:Int}{T Q:ByteArray}{D:Int}(h:R=.no er)(hb:Below w.heap.size w W):zai w i R (.returned (.tuple #[.agg #[.int .u8 K,.string T,.string Q,.int .i64 D,.int .i64 (i:Int)],.int .i64 en,.int .i64 er])) W:=by
 rw[h];exact za8 hb
theorem zs9(s F Q:ByteArray)(i A:Nat)(R:OneR)(z:Bool)(w:World)(hs:s.size≤100000)(hi:i<s.size)(hk:i≤A)(hA:A≤s.size)(t45:((s[i].toNat:Int) == 45)=false)(Y6:Hid (∀W,Calls Tryz.prog 191 #[.string s,.int .i64 (i:Int)] W (RetI W (A:Int))))(hF:s.extract i A=F)(YO:0<F.size)(So:A=s.size)(HE:Hid (∀W,Calls Tryz.prog 163 #[.string s,.int .i64 (A:Int)] W (RetB W z)))(YQ:Hid (z=false∨(1<F.size∧F[0].toNat=48)→R=.no 12))(XW:Hid (z=true→¬(1<F.size∧F[0].toNat=48)→1000<F.size→R=.no 14))(Yw:Hid (z=true→¬(1<F.size∧F[0].toNat=48)→¬1000<F.size→R=.yes ⟨3,⟨#[]⟩,Q,0,0⟩ (A-i)∧∀W,Calls Tryz.prog 192 #[.bool false,.string F,.int .u8 0,.string (⟨#[]⟩:ByteArray)] W (StE W Q 0))) :
 Calls Tryz.prog 167 #[.string s,.int .i64 (i:Int)] w (zai w i R):=by
 have Xe:F.size≤100000:=by rw[←hF];simp;omega
 have HF:=Z9 hF;clear hF;subst So;go_enter Tryz.func167,Tryz.ntmps167;go_wp2_with fail;refine(Y6.out _).mono ?_;rintro e w' ⟨rfl,rfl⟩;obtain⟨W2,Z4⟩:∃W2,W2=(w.alloc (.cells #[.int .u8 0,.string ⟨#[]⟩,.string ⟨#[]⟩,.int .i64 0,.int .i64 0] 100)).alloc (.cells #[.int .u8 3,.string ⟨#[]⟩,.string ⟨#[]⟩,.int .i64 0,.int .i64 (i:Int)] 100):=⟨_,rfl⟩
 have hg:W2.heap[w.heap.size]?=some (.cells #[.int .u8 0,.string ⟨#[]⟩,.string ⟨#[]⟩,.int .i64 0,.int .i64 0] 100):=by rw[Z4];exact zaw ..
 have ht:W2.heap[w.heap.size+1]?=some (.cells #[.int .u8 3,.string ⟨#[]⟩,.string ⟨#[]⟩,.int .i64 0,.int .i64 (i:Int)] 100):=by rw[Z4];exact zbc ..
 have Z6:Below w.heap.size w W2:=by rw[Z4];exact(zaf w _).alloc (by simp) _
 rw[←Z4];obtain⟨c0,c1,c2,c3,c4,fz⟩:=zal hg;obtain⟨d0,d1,d2,d3,d4,fy⟩:=zal ht;have HG:=Z9 hg;have HT:=Z9 ht;have aa:=Z9 Z6;clear Z4 hg ht Z6;go_wp2_with fail
 try rw[HF.out]
 refine(HE.out _).mono ?_;rintro e w' ⟨rfl,rfl⟩
 cases z with
 |false =>
  have ab:=Z9 (YQ.out (.inl rfl));go_wp2_with fail;refine bodyPost_ret (zaa rfl _ _ w.heap.size 100 _ _ rfl (zag HG.out _ _ _ _ _) Tryz.underlying100 rfl rfl) rfl ?_;exact zat ab.out (zad aa.out (Nat.le.refl) _ _ _ _ _)
 |true =>
  by_cases hl:1<F.size∧F[0].toNat=48
  ·have ab:=Z9 (YQ.out (.inr hl))
   obtain⟨Zy,YK⟩:=hl;have t48:((F[0].toNat:Int) == 48)=true:=by simp;omega
   clear YK;go_wp2_with fail;refine bodyPost_ret (zaa rfl _ _ w.heap.size 100 _ _ rfl (zag HG.out _ _ _ _ _) Tryz.underlying100 rfl rfl) rfl ?_;exact zat ab.out (zad aa.out (Nat.le.refl) _ _ _ _ _)
  ·have HL:=Z9 hl
   obtain⟨q,hq⟩:∃q,q=((F[0].toNat:Int) == 48):=⟨_,rfl⟩
   have ZE:1<F.size→((F[0].toNat:Int) == 48)=false:=fun h=>by
    have:¬F[0].toNat=48:=fun e=>hl ⟨h,e⟩
    simp;omega
   clear hl hq
   by_cases ZW:1000<F.size
   ·have ab:=Z9 (XW.out rfl HL.out ZW)
    by_cases Zy:1<F.size
    ·have t48:=ZE Zy
     clear ZE;go_wp2_with fail;refine bodyPost_ret (zaa rfl _ _ w.heap.size 100 _ _ rfl (zag HG.out _ _ _ _ _) Tryz.underlying100 rfl rfl) rfl ?_;exact zat ab.out (zad aa.out (Nat.le.refl) _ _ _ _ _)
    ·exact absurd ZW (by omega)
   ·obtain⟨Y4,YI⟩:=Yw.out rfl HL.out ZW
    have ZL:F.size≤1000:=by omega
    have ab:=Z9 Y4;have Zx:=Z9 YI;clear ZW Y4 YI
    by_cases Zy:1<F.size
    ·have t48:=ZE Zy
     clear ZE;go_wp2_with fail;refine(Zx.out _).mono ?_;rintro e w3 ⟨rfl,Z0⟩;have ZY:=(Z0.block _ (Z8 HG.out)).trans HG.out;have ac:=(Z0.block _ (Z8 HT.out)).trans HT.out;have af:=Z9 ((Below.heap_setCell w3 ⟨w.heap.size+1,2,none⟩ (.string Q) w.heap.size (by show w.heap.size≠w.heap.size+1;omega)).trans ZY);have ag:=Z9 ((aa.out.trans (Z0.mono aa.out.size)).setCell (p:=⟨w.heap.size+1,2,none⟩) (Nat.le_succ _) (.string Q));clear c0 c1 c2 c3 c4 fz d0 d1 d2 d3 d4 fy Z0;obtain⟨c0,c1,c2,c3,c4,fz⟩:=zal ZY;obtain⟨d0,d1,d2,d3,d4,fy⟩:=zal ac;clear ZY ac;go_wp2_with fail;refine bodyPost_ret (zaa rfl _ _ w.heap.size 100 _ _ rfl (zag af.out _ _ _ _ _) Tryz.underlying100 rfl rfl) rfl ?_
     show zai _ _ _ _ _
     rw[ab.out];exact zap (by omega) (zad ag.out (Nat.le.refl) _ _ _ _ _)
    ·clear ZE
     go_wp2_with fail;refine(Zx.out _).mono ?_;rintro e w3 ⟨rfl,Z0⟩;have ZY:=(Z0.block _ (Z8 HG.out)).trans HG.out;have ac:=(Z0.block _ (Z8 HT.out)).trans HT.out;have af:=Z9 ((Below.heap_setCell w3 ⟨w.heap.size+1,2,none⟩ (.string Q) w.heap.size (by show w.heap.size≠w.heap.size+1;omega)).trans ZY);have ag:=Z9 ((aa.out.trans (Z0.mono aa.out.size)).setCell (p:=⟨w.heap.size+1,2,none⟩) (Nat.le_succ _) (.string Q));clear c0 c1 c2 c3 c4 fz d0 d1 d2 d3 d4 fy Z0;obtain⟨c0,c1,c2,c3,c4,fz⟩:=zal ZY;obtain⟨d0,d1,d2,d3,d4,fy⟩:=zal ac;clear ZY ac;go_wp2_with fail;refine bodyPost_ret (zaa rfl _ _ w.heap.size 100 _ _ rfl (zag af.out _ _ _ _ _) Tryz.underlying100 rfl rfl) rfl ?_
     show zai _ _ _ _ _
     rw[ab.out];exact zap (by omega) (zad ag.out (Nat.le.refl) _ _ _ _ _)
theorem zs8(s F Q:ByteArray)(i A:Nat)(R:OneR)(z:Bool)(w:World)(hs:s.size≤100000)(hi:i<s.size)(hk:i≤A)(hA:A≤s.size)(t45:((s[i].toNat:Int) == 45)=false)(Y6:Hid (∀W,Calls Tryz.prog 191 #[.string s,.int .i64 (i:Int)] W (RetI W (A:Int))))(hF:s.extract i A=F)(YO:0<F.size)(Yj:A<s.size)(t46:((s[A].toNat:Int) == 46)=false)(t47:((s[A].toNat:Int) == 47)=false)(HE:Hid (∀W,Calls Tryz.prog 163 #[.string s,.int .i64 (A:Int)] W (RetB W z)))(YQ:Hid (z=false∨(1<F.size∧F[0].toNat=48)→R=.no 12))(XW:Hid (z=true→¬(1<F.size∧F[0].toNat=48)→1000<F.size→R=.no 14))(Yw:Hid (z=true→¬(1<F.size∧F[0].toNat=48)→¬1000<F.size→R=.yes ⟨3,⟨#[]⟩,Q,0,0⟩ (A-i)∧∀W,Calls Tryz.prog 192 #[.bool false,.string F,.int .u8 0,.string (⟨#[]⟩:ByteArray)] W (StE W Q 0))) :
 Calls Tryz.prog 167 #[.string s,.int .i64 (i:Int)] w (zai w i R):=by
 have Xe:F.size≤100000:=by rw[←hF];simp;omega
 have HF:=Z9 hF;clear hF;go_enter Tryz.func167,Tryz.ntmps167;go_wp2_with fail;refine(Y6.out _).mono ?_;rintro e w' ⟨rfl,rfl⟩;obtain⟨W2,Z4⟩:∃W2,W2=(w.alloc (.cells #[.int .u8 0,.string ⟨#[]⟩,.string ⟨#[]⟩,.int .i64 0,.int .i64 0] 100)).alloc (.cells #[.int .u8 3,.string ⟨#[]⟩,.string ⟨#[]⟩,.int .i64 0,.int .i64 (i:Int)] 100):=⟨_,rfl⟩
 have hg:W2.heap[w.heap.size]?=some (.cells #[.int .u8 0,.string ⟨#[]⟩,.string ⟨#[]⟩,.int .i64 0,.int .i64 0] 100):=by rw[Z4];exact zaw ..
 have ht:W2.heap[w.heap.size+1]?=some (.cells #[.int .u8 3,.string ⟨#[]⟩,.string ⟨#[]⟩,.int .i64 0,.int .i64 (i:Int)] 100):=by rw[Z4];exact zbc ..
 have Z6:Below w.heap.size w W2:=by rw[Z4];exact(zaf w _).alloc (by simp) _
 rw[←Z4];obtain⟨c0,c1,c2,c3,c4,fz⟩:=zal hg;obtain⟨d0,d1,d2,d3,d4,fy⟩:=zal ht;have HG:=Z9 hg;have HT:=Z9 ht;have aa:=Z9 Z6;clear Z4 hg ht Z6;go_wp2_with fail
 try rw[HF.out]
 refine(HE.out _).mono ?_;rintro e w' ⟨rfl,rfl⟩
 cases z with
 |false =>
  have ab:=Z9 (YQ.out (.inl rfl));go_wp2_with fail;refine bodyPost_ret (zaa rfl _ _ w.heap.size 100 _ _ rfl (zag HG.out _ _ _ _ _) Tryz.underlying100 rfl rfl) rfl ?_;exact zat ab.out (zad aa.out (Nat.le.refl) _ _ _ _ _)
 |true =>
  by_cases hl:1<F.size∧F[0].toNat=48
  ·have ab:=Z9 (YQ.out (.inr hl))
   obtain⟨Zy,YK⟩:=hl;have t48:((F[0].toNat:Int) == 48)=true:=by simp;omega
   clear YK;go_wp2_with fail;refine bodyPost_ret (zaa rfl _ _ w.heap.size 100 _ _ rfl (zag HG.out _ _ _ _ _) Tryz.underlying100 rfl rfl) rfl ?_;exact zat ab.out (zad aa.out (Nat.le.refl) _ _ _ _ _)
  ·have HL:=Z9 hl
   obtain⟨q,hq⟩:∃q,q=((F[0].toNat:Int) == 48):=⟨_,rfl⟩
   have ZE:1<F.size→((F[0].toNat:Int) == 48)=false:=fun h=>by
    have:¬F[0].toNat=48:=fun e=>hl ⟨h,e⟩
    simp;omega
   clear hl hq
   by_cases ZW:1000<F.size
   ·have ab:=Z9 (XW.out rfl HL.out ZW)
    by_cases Zy:1<F.size
    ·have t48:=ZE Zy
     clear ZE;go_wp2_with fail;refine bodyPost_ret (zaa rfl _ _ w.heap.size 100 _ _ rfl (zag HG.out _ _ _ _ _) Tryz.underlying100 rfl rfl) rfl ?_;exact zat ab.out (zad aa.out (Nat.le.refl) _ _ _ _ _)
    ·exact absurd ZW (by omega)
   ·obtain⟨Y4,YI⟩:=Yw.out rfl HL.out ZW
    have ZL:F.size≤1000:=by omega
    have ab:=Z9 Y4;have Zx:=Z9 YI;clear ZW Y4 YI
    by_cases Zy:1<F.size
    ·have t48:=ZE Zy
     clear ZE;go_wp2_with fail;refine(Zx.out _).mono ?_;rintro e w3 ⟨rfl,Z0⟩;have ZY:=(Z0.block _ (Z8 HG.out)).trans HG.out;have ac:=(Z0.block _ (Z8 HT.out)).trans HT.out;have af:=Z9 ((Below.heap_setCell w3 ⟨w.heap.size+1,2,none⟩ (.string Q) w.heap.size (by show w.heap.size≠w.heap.size+1;omega)).trans ZY);have ag:=Z9 ((aa.out.trans (Z0.mono aa.out.size)).setCell (p:=⟨w.heap.size+1,2,none⟩) (Nat.le_succ _) (.string Q));clear c0 c1 c2 c3 c4 fz d0 d1 d2 d3 d4 fy Z0;obtain⟨c0,c1,c2,c3,c4,fz⟩:=zal ZY;obtain⟨d0,d1,d2,d3,d4,fy⟩:=zal ac;clear ZY ac;go_wp2_with fail;refine bodyPost_ret (zaa rfl _ _ w.heap.size 100 _ _ rfl (zag af.out _ _ _ _ _) Tryz.underlying100 rfl rfl) rfl ?_
     show zai _ _ _ _ _
     rw[ab.out];exact zap (by omega) (zad ag.out (Nat.le.refl) _ _ _ _ _)
    ·clear ZE
     go_wp2_with fail;refine(Zx.out _).mono ?_;rintro e w3 ⟨rfl,Z0⟩;have ZY:=(Z0.block _ (Z8 HG.out)).trans HG.out;have ac:=(Z0.block _ (Z8 HT.out)).trans HT.out;have af:=Z9 ((Below.heap_setCell w3 ⟨w.heap.size+1,2,none⟩ (.string Q) w.heap.size (by show w.heap.size≠w.heap.size+1;omega)).trans ZY);have ag:=Z9 ((aa.out.trans (Z0.mono aa.out.size)).setCell (p:=⟨w.heap.size+1,2,none⟩) (Nat.le_succ _) (.string Q));clear c0 c1 c2 c3 c4 fz d0 d1 d2 d3 d4 fy Z0;obtain⟨c0,c1,c2,c3,c4,fz⟩:=zal ZY;obtain⟨d0,d1,d2,d3,d4,fy⟩:=zal ac;clear ZY ac;go_wp2_with fail;refine bodyPost_ret (zaa rfl _ _ w.heap.size 100 _ _ rfl (zag af.out _ _ _ _ _) Tryz.underlying100 rfl rfl) rfl ?_
     show zai _ _ _ _ _
     rw[ab.out];exact zap (by omega) (zad ag.out (Nat.le.refl) _ _ _ _ _)
theorem zs7(s F Q:ByteArray)(i A:Nat)(R:OneR)(z:Bool)(w:World)(hs:s.size≤100000)(hi:i<s.size)(hk:i≤A)(hA:A≤s.size)(t45:((s[i].toNat:Int) == 45)=false)(Y6:Hid (∀W,Calls Tryz.prog 191 #[.string s,.int .i64 (i:Int)] W (RetI W (A:Int))))(hF:s.extract i A=F)(YO:0<F.size)(Yj:A<s.size)(t46:((s[A].toNat:Int) == 46)=true)(HD:Hid (∀W,Calls Tryz.prog 166 #[.string s,.int .i64 ((A:Int)+1)] W (RetB W false)))(HE:Hid (∀W,Calls Tryz.prog 163 #[.string s,.int .i64 (A:Int)] W (RetB W z)))(YQ:Hid (z=false∨(1<F.size∧F[0].toNat=48)→R=.no 12))(XW:Hid (z=true→¬(1<F.size∧F[0].toNat=48)→1000<F.size→R=.no 14))(Yw:Hid (z=true→¬(1<F.size∧F[0].toNat=48)→¬1000<F.size→R=.yes ⟨3,⟨#[]⟩,Q,0,0⟩ (A-i)∧∀W,Calls Tryz.prog 192 #[.bool false,.string F,.int .u8 0,.string (⟨#[]⟩:ByteArray)] W (StE W Q 0))) :
 Calls Tryz.prog 167 #[.string s,.int .i64 (i:Int)] w (zai w i R):=by
 have Xe:F.size≤100000:=by rw[←hF];simp;omega
 have HF:=Z9 hF;clear hF;go_enter Tryz.func167,Tryz.ntmps167;go_wp2_with fail;refine(Y6.out _).mono ?_;rintro e w' ⟨rfl,rfl⟩;obtain⟨W2,Z4⟩:∃W2,W2=(w.alloc (.cells #[.int .u8 0,.string ⟨#[]⟩,.string ⟨#[]⟩,.int .i64 0,.int .i64 0] 100)).alloc (.cells #[.int .u8 3,.string ⟨#[]⟩,.string ⟨#[]⟩,.int .i64 0,.int .i64 (i:Int)] 100):=⟨_,rfl⟩
 have hg:W2.heap[w.heap.size]?=some (.cells #[.int .u8 0,.string ⟨#[]⟩,.string ⟨#[]⟩,.int .i64 0,.int .i64 0] 100):=by rw[Z4];exact zaw ..
 have ht:W2.heap[w.heap.size+1]?=some (.cells #[.int .u8 3,.string ⟨#[]⟩,.string ⟨#[]⟩,.int .i64 0,.int .i64 (i:Int)] 100):=by rw[Z4];exact zbc ..
 have Z6:Below w.heap.size w W2:=by rw[Z4];exact(zaf w _).alloc (by simp) _
 rw[←Z4];obtain⟨c0,c1,c2,c3,c4,fz⟩:=zal hg;obtain⟨d0,d1,d2,d3,d4,fy⟩:=zal ht;have HG:=Z9 hg;have HT:=Z9 ht;have aa:=Z9 Z6;clear Z4 hg ht Z6;go_wp2_with fail;refine(HD.out _).mono ?_;rintro e w' ⟨rfl,rfl⟩;go_wp2_with fail
 try rw[HF.out]
 refine(HE.out _).mono ?_;rintro e w' ⟨rfl,rfl⟩
 cases z with
 |false =>
  have ab:=Z9 (YQ.out (.inl rfl));go_wp2_with fail;refine bodyPost_ret (zaa rfl _ _ w.heap.size 100 _ _ rfl (zag HG.out _ _ _ _ _) Tryz.underlying100 rfl rfl) rfl ?_;exact zat ab.out (zad aa.out (Nat.le.refl) _ _ _ _ _)
 |true =>
  by_cases hl:1<F.size∧F[0].toNat=48
  ·have ab:=Z9 (YQ.out (.inr hl))
   obtain⟨Zy,YK⟩:=hl;have t48:((F[0].toNat:Int) == 48)=true:=by simp;omega
   clear YK;go_wp2_with fail;refine bodyPost_ret (zaa rfl _ _ w.heap.size 100 _ _ rfl (zag HG.out _ _ _ _ _) Tryz.underlying100 rfl rfl) rfl ?_;exact zat ab.out (zad aa.out (Nat.le.refl) _ _ _ _ _)
  ·have HL:=Z9 hl
   obtain⟨q,hq⟩:∃q,q=((F[0].toNat:Int) == 48):=⟨_,rfl⟩
   have ZE:1<F.size→((F[0].toNat:Int) == 48)=false:=fun h=>by
    have:¬F[0].toNat=48:=fun e=>hl ⟨h,e⟩
    simp;omega
   clear hl hq
   by_cases ZW:1000<F.size
   ·have ab:=Z9 (XW.out rfl HL.out ZW)
    by_cases Zy:1<F.size
    ·have t48:=ZE Zy
     clear ZE;go_wp2_with fail;refine bodyPost_ret (zaa rfl _ _ w.heap.size 100 _ _ rfl (zag HG.out _ _ _ _ _) Tryz.underlying100 rfl rfl) rfl ?_;exact zat ab.out (zad aa.out (Nat.le.refl) _ _ _ _ _)
    ·exact absurd ZW (by omega)
   ·obtain⟨Y4,YI⟩:=Yw.out rfl HL.out ZW
    have ZL:F.size≤1000:=by omega
    have ab:=Z9 Y4;have Zx:=Z9 YI;clear ZW Y4 YI
    by_cases Zy:1<F.size
    ·have t48:=ZE Zy
     clear ZE;go_wp2_with fail;refine(Zx.out _).mono ?_;rintro e w3 ⟨rfl,Z0⟩;have ZY:=(Z0.block _ (Z8 HG.out)).trans HG.out;have ac:=(Z0.block _ (Z8 HT.out)).trans HT.out;have af:=Z9 ((Below.heap_setCell w3 ⟨w.heap.size+1,2,none⟩ (.string Q) w.heap.size (by show w.heap.size≠w.heap.size+1;omega)).trans ZY);have ag:=Z9 ((aa.out.trans (Z0.mono aa.out.size)).setCell (p:=⟨w.heap.size+1,2,none⟩) (Nat.le_succ _) (.string Q));clear c0 c1 c2 c3 c4 fz d0 d1 d2 d3 d4 fy Z0;obtain⟨c0,c1,c2,c3,c4,fz⟩:=zal ZY;obtain⟨d0,d1,d2,d3,d4,fy⟩:=zal ac;clear ZY ac;go_wp2_with fail;refine bodyPost_ret (zaa rfl _ _ w.heap.size 100 _ _ rfl (zag af.out _ _ _ _ _) Tryz.underlying100 rfl rfl) rfl ?_
     show zai _ _ _ _ _
     rw[ab.out];exact zap (by omega) (zad ag.out (Nat.le.refl) _ _ _ _ _)
    ·clear ZE
     go_wp2_with fail;refine(Zx.out _).mono ?_;rintro e w3 ⟨rfl,Z0⟩;have ZY:=(Z0.block _ (Z8 HG.out)).trans HG.out;have ac:=(Z0.block _ (Z8 HT.out)).trans HT.out;have af:=Z9 ((Below.heap_setCell w3 ⟨w.heap.size+1,2,none⟩ (.string Q) w.heap.size (by show w.heap.size≠w.heap.size+1;omega)).trans ZY);have ag:=Z9 ((aa.out.trans (Z0.mono aa.out.size)).setCell (p:=⟨w.heap.size+1,2,none⟩) (Nat.le_succ _) (.string Q));clear c0 c1 c2 c3 c4 fz d0 d1 d2 d3 d4 fy Z0;obtain⟨c0,c1,c2,c3,c4,fz⟩:=zal ZY;obtain⟨d0,d1,d2,d3,d4,fy⟩:=zal ac;clear ZY ac;go_wp2_with fail;refine bodyPost_ret (zaa rfl _ _ w.heap.size 100 _ _ rfl (zag af.out _ _ _ _ _) Tryz.underlying100 rfl rfl) rfl ?_
     show zai _ _ _ _ _
     rw[ab.out];exact zap (by omega) (zad ag.out (Nat.le.refl) _ _ _ _ _)
theorem zs6(s F Q:ByteArray)(i A:Nat)(R:OneR)(z:Bool)(w:World)(hs:s.size≤100000)(hi:i<s.size)(hk:i≤A)(hA:A≤s.size)(t45:((s[i].toNat:Int) == 45)=false)(Y6:Hid (∀W,Calls Tryz.prog 191 #[.string s,.int .i64 (i:Int)] W (RetI W (A:Int))))(hF:s.extract i A=F)(YO:0<F.size)(Yj:A<s.size)(t46:((s[A].toNat:Int) == 46)=false)(t47:((s[A].toNat:Int) == 47)=true)(HD:Hid (∀W,Calls Tryz.prog 166 #[.string s,.int .i64 ((A:Int)+1)] W (RetB W false)))(HE:Hid (∀W,Calls Tryz.prog 163 #[.string s,.int .i64 (A:Int)] W (RetB W z)))(YQ:Hid (z=false∨(1<F.size∧F[0].toNat=48)→R=.no 12))(XW:Hid (z=true→¬(1<F.size∧F[0].toNat=48)→1000<F.size→R=.no 14))(Yw:Hid (z=true→¬(1<F.size∧F[0].toNat=48)→¬1000<F.size→R=.yes ⟨3,⟨#[]⟩,Q,0,0⟩ (A-i)∧∀W,Calls Tryz.prog 192 #[.bool false,.string F,.int .u8 0,.string (⟨#[]⟩:ByteArray)] W (StE W Q 0))) :
 Calls Tryz.prog 167 #[.string s,.int .i64 (i:Int)] w (zai w i R):=by
 have Xe:F.size≤100000:=by rw[←hF];simp;omega
 have HF:=Z9 hF;clear hF;go_enter Tryz.func167,Tryz.ntmps167;go_wp2_with fail;refine(Y6.out _).mono ?_;rintro e w' ⟨rfl,rfl⟩;obtain⟨W2,Z4⟩:∃W2,W2=(w.alloc (.cells #[.int .u8 0,.string ⟨#[]⟩,.string ⟨#[]⟩,.int .i64 0,.int .i64 0] 100)).alloc (.cells #[.int .u8 3,.string ⟨#[]⟩,.string ⟨#[]⟩,.int .i64 0,.int .i64 (i:Int)] 100):=⟨_,rfl⟩
 have hg:W2.heap[w.heap.size]?=some (.cells #[.int .u8 0,.string ⟨#[]⟩,.string ⟨#[]⟩,.int .i64 0,.int .i64 0] 100):=by rw[Z4];exact zaw ..
 have ht:W2.heap[w.heap.size+1]?=some (.cells #[.int .u8 3,.string ⟨#[]⟩,.string ⟨#[]⟩,.int .i64 0,.int .i64 (i:Int)] 100):=by rw[Z4];exact zbc ..
 have Z6:Below w.heap.size w W2:=by rw[Z4];exact(zaf w _).alloc (by simp) _
 rw[←Z4];obtain⟨c0,c1,c2,c3,c4,fz⟩:=zal hg;obtain⟨d0,d1,d2,d3,d4,fy⟩:=zal ht;have HG:=Z9 hg;have HT:=Z9 ht;have aa:=Z9 Z6;clear Z4 hg ht Z6;go_wp2_with fail;refine(HD.out _).mono ?_;rintro e w' ⟨rfl,rfl⟩;go_wp2_with fail
 try rw[HF.out]
 refine(HE.out _).mono ?_;rintro e w' ⟨rfl,rfl⟩
 cases z with
 |false =>
  have ab:=Z9 (YQ.out (.inl rfl));go_wp2_with fail;refine bodyPost_ret (zaa rfl _ _ w.heap.size 100 _ _ rfl (zag HG.out _ _ _ _ _) Tryz.underlying100 rfl rfl) rfl ?_;exact zat ab.out (zad aa.out (Nat.le.refl) _ _ _ _ _)
 |true =>
  by_cases hl:1<F.size∧F[0].toNat=48
  ·have ab:=Z9 (YQ.out (.inr hl))
   obtain⟨Zy,YK⟩:=hl;have t48:((F[0].toNat:Int) == 48)=true:=by simp;omega
   clear YK;go_wp2_with fail;refine bodyPost_ret (zaa rfl _ _ w.heap.size 100 _ _ rfl (zag HG.out _ _ _ _ _) Tryz.underlying100 rfl rfl) rfl ?_;exact zat ab.out (zad aa.out (Nat.le.refl) _ _ _ _ _)
  ·have HL:=Z9 hl
   obtain⟨q,hq⟩:∃q,q=((F[0].toNat:Int) == 48):=⟨_,rfl⟩
   have ZE:1<F.size→((F[0].toNat:Int) == 48)=false:=fun h=>by
    have:¬F[0].toNat=48:=fun e=>hl ⟨h,e⟩
    simp;omega
   clear hl hq
   by_cases ZW:1000<F.size
   ·have ab:=Z9 (XW.out rfl HL.out ZW)
    by_cases Zy:1<F.size
    ·have t48:=ZE Zy
     clear ZE;go_wp2_with fail;refine bodyPost_ret (zaa rfl _ _ w.heap.size 100 _ _ rfl (zag HG.out _ _ _ _ _) Tryz.underlying100 rfl rfl) rfl ?_;exact zat ab.out (zad aa.out (Nat.le.refl) _ _ _ _ _)
    ·exact absurd ZW (by omega)
   ·obtain⟨Y4,YI⟩:=Yw.out rfl HL.out ZW
    have ZL:F.size≤1000:=by omega
    have ab:=Z9 Y4;have Zx:=Z9 YI;clear ZW Y4 YI
    by_cases Zy:1<F.size
    ·have t48:=ZE Zy
     clear ZE;go_wp2_with fail;refine(Zx.out _).mono ?_;rintro e w3 ⟨rfl,Z0⟩;have ZY:=(Z0.block _ (Z8 HG.out)).trans HG.out;have ac:=(Z0.block _ (Z8 HT.out)).trans HT.out;have af:=Z9 ((Below.heap_setCell w3 ⟨w.heap.size+1,2,none⟩ (.string Q) w.heap.size (by show w.heap.size≠w.heap.size+1;omega)).trans ZY);have ag:=Z9 ((aa.out.trans (Z0.mono aa.out.size)).setCell (p:=⟨w.heap.size+1,2,none⟩) (Nat.le_succ _) (.string Q));clear c0 c1 c2 c3 c4 fz d0 d1 d2 d3 d4 fy Z0;obtain⟨c0,c1,c2,c3,c4,fz⟩:=zal ZY;obtain⟨d0,d1,d2,d3,d4,fy⟩:=zal ac;clear ZY ac;go_wp2_with fail;refine bodyPost_ret (zaa rfl _ _ w.heap.size 100 _ _ rfl (zag af.out _ _ _ _ _) Tryz.underlying100 rfl rfl) rfl ?_
     show zai _ _ _ _ _
     rw[ab.out];exact zap (by omega) (zad ag.out (Nat.le.refl) _ _ _ _ _)
    ·clear ZE
     go_wp2_with fail;refine(Zx.out _).mono ?_;rintro e w3 ⟨rfl,Z0⟩;have ZY:=(Z0.block _ (Z8 HG.out)).trans HG.out;have ac:=(Z0.block _ (Z8 HT.out)).trans HT.out;have af:=Z9 ((Below.heap_setCell w3 ⟨w.heap.size+1,2,none⟩ (.string Q) w.heap.size (by show w.heap.size≠w.heap.size+1;omega)).trans ZY);have ag:=Z9 ((aa.out.trans (Z0.mono aa.out.size)).setCell (p:=⟨w.heap.size+1,2,none⟩) (Nat.le_succ _) (.string Q));clear c0 c1 c2 c3 c4 fz d0 d1 d2 d3 d4 fy Z0;obtain⟨c0,c1,c2,c3,c4,fz⟩:=zal ZY;obtain⟨d0,d1,d2,d3,d4,fy⟩:=zal ac;clear ZY ac;go_wp2_with fail;refine bodyPost_ret (zaa rfl _ _ w.heap.size 100 _ _ rfl (zag af.out _ _ _ _ _) Tryz.underlying100 rfl rfl) rfl ?_
     show zai _ _ _ _ _
     rw[ab.out];exact zap (by omega) (zad ag.out (Nat.le.refl) _ _ _ _ _)
end Go.Proofs.YtkobkpepgdddeaaGreatDoor
