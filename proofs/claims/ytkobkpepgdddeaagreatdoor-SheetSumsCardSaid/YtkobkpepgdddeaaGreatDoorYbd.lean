/-
  Texts glued of texts: their tokens without places. No condition.
-/
import Derived.Test.YtkobkpepgdddeaaGreatDoorYah
import Derived.Test.YtkobkpepgdddeaaGreatDoorYbc
import Derived.Test.YtkobkpepgdddeaaGreatDoorYal
import Derived.Test.YtkobkpepgdddeaaGreatDoorYbb
import Derived.Test.YtkobkpepgdddeaaGreatDoorYat
import Derived.Test.YtkobkpepgdddeaaGreatDoorYba
import Derived.Deep.RegionHeld3
namespace Go.Proofs.YtkobkpepgdddeaaGreatDoor
open Go.RowKit
set_option maxHeartbeats 16000000
set_option maxRecDepth 100000
theorem ycs{c:UInt8}{l:List UInt8}(h:¬(48≤c.toNat∧c.toNat≤57)):¬dgH (c :: l)=true:=by
 unfold dgH dgQ;simp;omega
abbrev facR(n:Nat):RdX:=zbu (rdE n true) (rdE n false)
def FX(zs:List Tk)(x:Ex):Prop:=∀n X,zs.length≤n→facR n (zs ++ X)=.ok x X
def zpar(zs:List Tk):List Tk:=zmk 40 :: (zs ++ [zmk 41])
theorem zsf(c:UInt8)(X:List Tk):zap (zmk c :: X)=[]:=by
 show(if (5:Int)=1∧kwB (bsL [c]).data.toList=true then(bsL [c]).data.toList else[])=[]
 exact if_neg fun h=>absurd h.1 (by decide)
theorem FX.paren{zs:List Tk}{x:Ex}(h:SX true zs x):FX (zpar zs) x:=fun n X hn=>by
 have hl:zs.length<n:=by unfold zpar at hn;simp at hn;omega
 have e:zpar zs ++ X=zmk 40 :: (zs ++ (zmk 41 :: X)):=by unfold zpar;simp
 rw[e];unfold facR zbu;rw[zsf,if_neg (by decide),if_neg (by decide),if_neg (by decide),if_pos rfl];unfold zdl;rw[if_pos (by rw[zed];decide),List.tail_cons,h.ext (zkk (by decide) X) hl];rw[Rd.bind_ok,zgz (by rw[zed];decide)];rfl
def PX(zs:List Tk)(x:Ex)(k:Nat):Prop:=k≤zs.length∧∀n X,zs.length≤n→zda (facR n) (n+1) (zs ++ X)=zet (facR n) (n+1-k) x X
theorem FX.px{zs:List Tk}{x:Ex}(h:FX zs x):PX zs x 0:=⟨Nat.zero_le _,fun n X hn=>by
 unfold zda
 rw[h n X hn];rfl⟩
theorem PX.mul{zs ys:List Tk}{x y:Ex}{k:Nat}(h:PX zs x k)(hy:FX ys y):PX (zs ++ zmk 42 :: ys) (tEx2 6 x y) (k+1):=by
 obtain⟨hk,h⟩:=h;refine⟨by simp;omega,fun n X hn => ?_⟩;simp only[List.length_append,List.length_cons]at hn;obtain⟨j,hj⟩:∃j,n+1-k=j+1:=⟨n-k,by omega⟩
 rw[List.append_assoc,h n _ (by omega),hj,show n+1-(k+1)=j by omega]
 show(if tIs 5 [42] (zmk 42 :: (ys ++ X))=true then _ else _)=_
 rw[if_pos (by rw[zed];decide)]
 show(facR n (ys ++ X)).bind _=_
 rw[hy n X (by omega)];rfl
def TX(zs:List Tk)(x:Ex):Prop:=∀n X,zs.length≤n→tIs 5 [42] X=false→zda (facR n) (n+1) (zs ++ X)=.ok x X
theorem PX.tx{zs:List Tk}{x:Ex}{k:Nat}(h:PX zs x k):TX zs x:=fun n X hn hX=>by
 obtain⟨j,hj⟩:∃j,n+1-k=j+1:=⟨n-k,by have:=h.1;omega⟩
 rw[h.2 n X hn,hj];exact if_neg (by rw[hX];decide)
def AX(zs:List Tk)(x:Ex)(k:Nat):Prop:=k≤zs.length∧∀n X,zs.length≤n→tIs 5 [42] X=false→tSum (facR n) (n+1) (zs ++ X)=tAdd (facR n) (n+1) (n+1-k) x X
theorem TX.ax{zs:List Tk}{x:Ex}(h:TX zs x):AX zs x 0:=⟨Nat.zero_le _,fun n X hn hX=>by
 unfold tSum
 rw[h n X hn hX];rfl⟩
theorem AX.plus{zs ys:List Tk}{x y:Ex}{k:Nat}(h:AX zs x k)(hy:TX ys y):AX (zs ++ zmk 43 :: ys) (tEx2 4 x y) (k+1):=by
 obtain⟨hk,h⟩:=h;refine⟨by simp;omega,fun n X hn hX => ?_⟩;simp only[List.length_append,List.length_cons]at hn;obtain⟨j,hj⟩:∃j,n+1-k=j+1:=⟨n-k,by omega⟩
 rw[List.append_assoc,h n _ (by omega) (by rw[List.cons_append,zed];decide),hj,show n+1-(k+1)=j by omega]
 show(if tIs 5 [43] (zmk 43 :: (ys ++ X))=true then _ else _)=_
 rw[if_pos (by rw[zed];decide)]
 show(zda (facR n) (n+1) (ys ++ X)).bind _=_
 rw[hy n X (by omega) hX];rfl
theorem AX.minus{zs ys:List Tk}{x y:Ex}{k:Nat}(h:AX zs x k)(hy:TX ys y):AX (zs ++ zmk 45 :: ys) (tEx2 5 x y) (k+1):=by
 obtain⟨hk,h⟩:=h;refine⟨by simp;omega,fun n X hn hX => ?_⟩;simp only[List.length_append,List.length_cons]at hn;obtain⟨j,hj⟩:∃j,n+1-k=j+1:=⟨n-k,by omega⟩
 rw[List.append_assoc,h n _ (by omega) (by rw[List.cons_append,zed];decide),hj,show n+1-(k+1)=j by omega]
 show(if tIs 5 [43] (zmk 45 :: (ys ++ X))=true then _ else if tIs 5 [45] (zmk 45 :: (ys ++ X))=true then _ else _)=_
 rw[if_neg (by rw[zed];decide),if_pos (by rw[zed];decide)]
 show(zda (facR n) (n+1) (ys ++ X)).bind _=_
 rw[hy n X (by omega) hX];rfl
theorem AX.sx{zs:List Tk}{x:Ex}{k:Nat}(h:AX zs x k):SX true zs x:=fun n hn=>by
 obtain⟨m,rfl⟩:∃m,n=m+1:=⟨n-1,by omega⟩
 obtain⟨j,hj⟩:∃j,m+1-k=j+1:=⟨m-k,by have:=h.1;omega⟩
 have:=h.2 m [] (by omega) rfl;rw[List.append_nil,hj]at this;exact this
theorem FX.tx{zs:List Tk}{x:Ex}(h:FX zs x):TX zs x:=h.px.tx
theorem FX.sx{zs:List Tk}{x:Ex}(h:FX zs x):SX true zs x:=h.tx.ax.sx
theorem FX.max{za zb:List Tk}{x y:Ex}(ha:SX true za x)(hb:SX true zb y):FX (zwd [109,97,120] :: zmk 40 :: (za ++ zmk 44 :: (zb ++ [zmk 41]))) (tEx2 7 x y):=fun n X hn=>by
 simp only[List.length_append,List.length_cons,List.length_nil]at hn;have e:(zwd [109,97,120] :: zmk 40 :: (za ++ zmk 44 :: (zb ++ [zmk 41]))) ++ X=zwd [109,97,120] :: zmk 40 :: (za ++ (zmk 44 :: (zb ++ (zmk 41 :: X)))):=by simp
 have hh:zap (zwd [109,97,120] :: zmk 40 :: (za ++ (zmk 44 :: (zb ++ (zmk 41 :: X)))))=[109,97,120]:=by
  show(if (1:Int)=1∧kwB (bsL [109,97,120]).data.toList=true then(bsL [109,97,120]).data.toList else[])=_
  rw[zcz,if_pos (by decide)]
 rw[e];unfold facR zbu;rw[hh,if_pos rfl,List.tail_cons];unfold zby;rw[zgz (by rw[zed];decide)]
 show((if false=true then tEat 5 [44] _ else Rd.ok () (za ++ (zmk 44 :: (zb ++ (zmk 41 :: X))))).bind fun _ l=>(rdE n true l).bind fun x l=>(zcg [rdE n true] true l).bind fun xs l=>Rd.ok (x :: xs) l).bind _=_
 rw[if_neg (by decide)]
 show((rdE n true (za ++ (zmk 44 :: (zb ++ (zmk 41 :: X))))).bind fun x l=>(zcg [rdE n true] true l).bind fun xs l=>Rd.ok (x :: xs) l).bind _=_
 rw[ha.ext (zkk (by decide) _) (by omega)]
 show((((tEat 5 [44] (zmk 44 :: (zb ++ (zmk 41 :: X)))).bind fun _ l=>(rdE n true l).bind fun x l=>Rd.ok (x :: []) l).bind fun xs l=>Rd.ok (x :: xs) l).bind _)=_
 rw[zgz (by rw[zed];decide)]
 show((((rdE n true (zb ++ (zmk 41 :: X))).bind fun x l=>Rd.ok (x :: []) l).bind fun xs l=>Rd.ok (x :: xs) l).bind _)=_
 rw[hb.ext (zkk (by decide) _) (by omega)];simp only[Rd.bind_ok];rw[zgz (by rw[zed];decide)];rfl
theorem z0v{x:Ex}(h:chkX x=0):x.size≤500:=by
 rcases Nat.lt_or_ge 500 x.size with q |q
 ·rw[show chkX x=4 from if_pos (.inl q)]at h;cases h
 ·exact q
theorem z2q{s:ByteArray}{zs:List Tk}{x:Ex}(h:LZ s.data.toList zs)(hr:zb5 20001 zs=.ok x []):zf9 s=if chkX x=0 then(some x,(s.size:Int),0)else(none,(s.size:Int),chkX x):=by
 obtain⟨ts,h1,h2⟩:=h;have h3:=zqk 20001 ts;rw[h2,hr]at h3;unfold zf9;rw[h1];dsimp only
 cases hw:zb5 20001 ts with
 |no l=>rw[hw]at h3;cases h3
 |ok y l =>
  rw[hw]at h3
  injection h3 with h4 h5
  subst h4
  have h6:l=[]:=by
   cases l with
   |nil=>rfl
   |cons t l=>cases h5
  subst h6;rfl
theorem zsg{n:Nat}(c:UInt8)(r:List Tk):zb5 n (zmk c :: r)=rdE n true (zmk c :: r):=by
 unfold zb5;rw[zsf];exact if_neg (by decide)
theorem zwa{n:Nat}(r:List Tk):zb5 n (zwd [109,97,120] :: r)=rdE n true (zwd [109,97,120] :: r):=by
 have hh:zap (zwd [109,97,120] :: r)=[109,97,120]:=by
  show(if (1:Int)=1∧kwB (bsL [109,97,120]).data.toList=true then(bsL [109,97,120]).data.toList else[])=_
  rw[zcz,if_pos (by decide)]
 unfold zb5;rw[hh];exact if_neg (by decide)
theorem LZ.par{a l:List UInt8}{za zs:List Tk}(ha:LZ a za)(h:LZ l zs):LZ (40 :: (a ++ 10 :: 41 :: l)) (zpar za ++ zs):=by
 have:=LZ.mark (c:=40) (by decide) (fun h=>absurd h.1 (by decide)) (LZ.lf ha (LZ.mark (c:=41) (by decide) (fun h=>absurd h.1 (by decide)) h));have e:zpar za ++ zs=zmk 40 :: (za ++ zmk 41 :: zs):=by unfold zpar;simp
 rw[e];exact this
theorem LZ.par2{a l:List UInt8}{za zs:List Tk}(ha:LZ a za)(h:LZ l zs):LZ (40 :: 40 :: (a ++ 10 :: 41 :: 41 :: l)) (zpar (zpar za) ++ zs):=by
 have:=LZ.mark (c:=40) (by decide) (fun h=>absurd h.1 (by decide)) (LZ.par ha (LZ.mark (c:=41) (by decide) (fun h=>absurd h.1 (by decide)) h));have e:zpar (zpar za) ++ zs=zmk 40 :: (zpar za ++ zmk 41 :: zs):=by simp[zpar]
 rw[e];exact this
theorem LZ.op{c:UInt8}{l:List UInt8}{zs:List Tk}(hc:c=42∨c=43∨c=45)(h:LZ (40 :: l) zs):LZ (c :: 40 :: l) (zmk c :: zs) :=
 LZ.mark (by rcases hc with rfl |rfl |rfl<;>decide) (fun h=>ycs (c:=40) (l:=l) (by decide) h.2) h
theorem z12{a:List UInt8}{za:List Tk}{x:Ex}(ha:LZ a za)(hx:SX true za x)(hl:za.length≤3000):∃zs,LZ (40 :: (a ++ [10,41])) zs∧zb5 20001 zs=.ok x []:=by
 have h:=LZ.par ha LZ.nil;rw[List.append_nil]at h;exact⟨_,h,(zsg 40 _).trans ((FX.paren hx).sx 20001 (by simp[zpar];omega))⟩
section
variable {a b c:List UInt8} {za zb zc:List Tk} {x y z:Ex}
theorem zg0(ha:LZ a za)(hb:LZ b zb)(hc:LZ c zc)(la:za.length≤3000)(lb:zb.length≤3000)(lc:zc.length≤3000)(o1 o2:UInt8)(h1:o1=42∨o1=43∨o1=45)(h2:o2=42∨o2=43∨o2=45)(w:Ex)(hw:SX true (zpar za ++ zmk o1 :: (zpar (zpar zb) ++ zmk o2 :: zpar zc)) w) :
 ∃zs,LZ (40 :: (a ++ 10 :: 41 :: o1 :: 40 :: 40 :: (b ++ 10 :: 41 :: 41 :: o2 :: 40 :: (c ++ [10,41])))) zs∧zb5 20001 zs=.ok w []:=by
 have hc0:=LZ.par hc LZ.nil;rw[List.append_nil]at hc0;have h:=LZ.par ha (LZ.op h1 (LZ.par2 hb (LZ.op h2 hc0)));exact⟨_,h,(zsg 40 _).trans (hw 20001 (by simp[zpar];omega))⟩
theorem ydj(hx:SX true za x)(hy:SX true zb y)(hz:SX true zc z):SX true (zpar za ++ zmk 45 :: (zpar (zpar zb) ++ zmk 45 :: zpar zc)) (tEx2 5 (tEx2 5 x y) z):=by
 have:=((FX.paren hx).tx.ax.minus (FX.paren (FX.paren hy).sx).tx).minus (FX.paren hz).tx;rw[List.append_assoc,List.cons_append]at this;exact this.sx
theorem ydi(hx:SX true za x)(hy:SX true zb y)(hz:SX true zc z):SX true (zpar za ++ zmk 43 :: (zpar (zpar zb) ++ zmk 42 :: zpar zc)) (tEx2 4 x (tEx2 6 y z)) :=
 ((FX.paren hx).tx.ax.plus ((FX.paren (FX.paren hy).sx).px.mul (FX.paren hz)).tx).sx
theorem ydg(hx:SX true za x)(hy:SX true zb y)(hz:SX true zc z):SX true (zpar za ++ zmk 42 :: (zpar (zpar zb) ++ zmk 42 :: zpar zc)) (tEx2 6 (tEx2 6 x y) z):=by
 have:=((FX.paren hx).px.mul (FX.paren (FX.paren hy).sx)).mul (FX.paren hz);rw[List.append_assoc,List.cons_append]at this;exact this.tx.ax.sx
theorem ydh(hx:SX true za x)(hy:SX true zb y)(hz:SX true zc z):SX true (zpar za ++ zmk 42 :: (zpar (zpar zb) ++ zmk 43 :: zpar zc)) (tEx2 4 (tEx2 6 x y) z):=by
 have:=((FX.paren hx).px.mul (FX.paren (FX.paren hy).sx)).tx.ax.plus (FX.paren hz).tx;rw[List.append_assoc,List.cons_append]at this;exact this.sx
end
theorem z13{a b:List UInt8}{za zb:List Tk}{x y:Ex}(ha:LZ a za)(hb:LZ b zb)(hx:SX true za x)(hy:SX true zb y)(la:za.length≤3000)(lb:zb.length≤3000) :
 ∃zs,LZ ([109,97,120,40] ++ (a ++ 10 :: 44 :: (b ++ [10,41]))) zs∧zb5 20001 zs=.ok (tEx2 7 x y) []:=by
 have h0:LZ [41] [zmk 41]:=LZ.mark (by decide) (fun h=>absurd h.1 (by decide)) LZ.nil;have h1:=LZ.mark (c:=40) (by decide) (fun h=>absurd h.1 (by decide)) (LZ.lf ha (LZ.mark (c:=44) (by decide) (fun h=>absurd h.1 (by decide)) (LZ.lf hb h0)));have h:=LZ.word (w:=[109,97,120]) (c:=109) (r:=[97,120]) rfl (by decide) (by decide) (by decide) (.inr ⟨40,_,rfl,by decide⟩) h1;exact⟨_,h,(zwa _).trans ((FX.max hx hy).sx 20001 (by simp;omega))⟩
open Go.RowKit
theorem zg1{Wg:World}(hs:zb6 Wg)(t:ByteArray)(x:Ex)(n:Nat)(a:Option Addr)(len cap:Nat)(w:World)(VT:t.size≤20000){zs:List Tk}(UT:LZ t.data.toList zs)(hr:zb5 20001 zs=.ok x [])(ZZ:ExAt n w [.int .u8 x.kind,.string x.rat,.string x.name,.int .i64 x.date,.slice a len cap] x)(hb:Below Wg.heap.size Wg w) :
 Calls Tryz.prog 42 #[.string t,.agg #[.int .u8 x.kind,.string x.rat,.string x.name,.int .i64 x.date,.slice a len cap]] w (BelB w true):=by
 obtain⟨⟨d,g1,g2⟩,g3⟩:=z9u UT hr;have ho:=z2q UT hr;obtain⟨W0,Z7⟩:∃W0,W0=w.alloc (.cells #[.int .u8 x.kind,.string x.rat,.string x.name,.int .i64 x.date,.slice a len cap] 25):=⟨_,rfl⟩
 have hB0:Below w.heap.size w W0:=by rw[Z7];exact zaa w _
 have Z2:W0.heap[w.heap.size]?=some (.cells #[.int .u8 x.kind,.string x.rat,.string x.name,.int .i64 x.date,.slice a len cap] 25):=by rw[Z7];exact heap_alloc_new w _
 have Yc:Hid (∀W,Below w.heap.size w W→Calls Tryz.prog 25 #[.string t] W (RxP W (zf9 t))):=Z9 (fun W hW=>zkq t W Wg VT hs (hb.trans (hW.mono hb.size)));have HCK:Hid (∀W,Below w.heap.size w W→Calls Tryz.prog 46 #[.agg #[.int .u8 x.kind,.string x.rat,.string x.name,.int .i64 x.date,.slice a len cap]] W (IntP W (chkX x))):=Z9 (fun W hW=>zpa (max n d) x _ W Wg ⟨(ExAt.below hW ZZ).up (Nat.le_max_left _ _),g2.up (Nat.le_max_right _ _),by omega,⟨d,g1⟩,hs,hb.trans (hW.mono hb.size)⟩);have ZQ:Hid (∀W,Below w.heap.size w W→ExAt n W [.int .u8 x.kind,.string x.rat,.string x.name,.int .i64 x.date,.slice a len cap] x):=Z9 (fun W hW=>ExAt.below hW ZZ)
 have HSZ:Hid (chkX x=0→x.size≤1000):=Z9 (fun h=>by have:=z0v h;omega);obtain⟨K,hK⟩:∃K,K=chkX x:=⟨_,rfl⟩
 rw[←hK]at ho HCK HSZ;rw[ho]at Yc;have hl0:=(Z8 Z2);have HBX:=Z9 Z2;have HB0:=Z9 hB0;have HW0:=Z9 Z7;clear hs UT hr ZZ hb g1 g2 g3 ho hK Z2 hB0 Z7
 by_cases Xk:K=0
 ·subst Xk
  rw[if_pos rfl]at Yc;go_enter Tryz.func42,Tryz.ntmps42;go_wp2_with fail;change Calls _ _ _ (w.alloc (.cells #[.int .u8 x.kind,.string x.rat,.string x.name,.int .i64 x.date,.slice a len cap] 25)) _;rw[←HW0.out];refine(Yc.out _ HB0.out).mono ?_;intro e u h1;obtain⟨n2,a2,l2,k2,rfl,Zu,Z3⟩:=zjt h1;change ExAt n2 u [.int .u8 x.kind,.string x.rat,.string x.name,.int .i64 x.date,.slice a2 l2 k2] x at Zu;obtain⟨W2,ZU⟩:∃W2,W2=u.alloc (.cells #[.int .u8 x.kind,.string x.rat,.string x.name,.int .i64 x.date,.slice a2 l2 k2] 25):=⟨_,rfl⟩
  have hB2:Below u.heap.size u W2:=by rw[ZU];exact zaa u _
  have h02:=Z3.trans (hB2.mono Z3.size);have hbx0:=(h02.block _ hl0).trans HBX.out;have hbx2:W2.heap[u.heap.size]?=some (.cells #[.int .u8 x.kind,.string x.rat,.string x.name,.int .i64 x.date,.slice a2 l2 k2] 25):=by rw[ZU];exact heap_alloc_new u _
  have ZY:=Z9 (HB0.out.trans (h02.mono HB0.out.size));have HX2:=Z9 (ExAt.below hB2 Zu);have HBX0:=Z9 hbx0;have HBX2:=Z9 hbx2;have Yl:=(Z8 hbx0);have WX:=(Z8 hbx2);have HW2:=Z9 ZU;have X7:=(Z3.block _ hl0).trans HBX.out;have hlu:=(Z8 X7);obtain⟨c0,c1,c2,c3,c4⟩:=zad X7;clear h1 Zu Z3 hB2 h02 hbx0 hbx2 ZU X7;go_wp2_with fail;change Calls _ _ _ (u.alloc (.cells #[.int .u8 x.kind,.string x.rat,.string x.name,.int .i64 x.date,.slice a2 l2 k2] 25)) _;rw[←HW2.out];refine(HCK.out _ ZY.out).mono ?_;rintro e w3 ⟨rfl,hb⟩;have Zx:=Z9 (ZY.out.trans (hb.mono ZY.out.size));have HSA:=Z9 (zo0 (max n n2) x _ _ w3 ((ExAt.below hb HX2.out).up (Nat.le_max_right _ _)) ((ZQ.out w3 Zx.out).up (Nat.le_max_left _ _)) (HSZ.out trivial))
  have hbx0:=(hb.block _ Yl).trans HBX0.out;have hbx2:=(hb.block _ WX).trans HBX2.out;clear hb c0 c1 c2 c3 c4;obtain⟨c0,c1,c2,c3,c4⟩:=zad hbx0;obtain⟨d0,d1,d2,d3,d4⟩:=zad hbx2;clear hbx0 hbx2;go_wp2_with fail;refine HSA.out.mono ?_;rintro e w4 ⟨rfl,hb⟩;have HF:=Z9 (Zx.out.trans (hb.mono Zx.out.size));clear hb;go_wp2_with fail;go_ret;exact⟨rfl,HF.out⟩
 ·rw[if_neg Xk]at Yc
  have e1:(K == K)=true:=by simp
  have e2:(K != 0)=true:=by simp[Xk]
  go_enter Tryz.func42,Tryz.ntmps42;go_wp2_with fail;change Calls _ _ _ (w.alloc (.cells #[.int .u8 x.kind,.string x.rat,.string x.name,.int .i64 x.date,.slice a len cap] 25)) _;rw[←HW0.out];refine(Yc.out _ HB0.out).mono ?_;intro e u h1;obtain⟨n2,a2,l2,k2,rfl,Zu,Z3⟩:=zjt h1;obtain⟨W2,ZU⟩:∃W2,W2=u.alloc (.cells #[.int .u8 (xoX (none,(t.size:Int),K)).kind,.string (xoX (none,(t.size:Int),K)).rat,.string (xoX (none,(t.size:Int),K)).name,.int .i64 (xoX (none,(t.size:Int),K)).date,.slice a2 l2 k2] 25):=⟨_,rfl⟩
  have hB2:Below u.heap.size u W2:=by rw[ZU];exact zaa u _
  have h02:=Z3.trans (hB2.mono Z3.size);have ZY:=Z9 (HB0.out.trans (h02.mono HB0.out.size));have HW2:=Z9 ZU;have X7:=(Z3.block _ hl0).trans HBX.out;have hlu:=(Z8 X7);obtain⟨c0,c1,c2,c3,c4⟩:=zad X7;clear h1 Zu Z3 hB2 h02 ZU X7;go_wp2_with fail;change Calls _ _ _ (u.alloc (.cells #[.int .u8 (xoX (none,(t.size:Int),K)).kind,.string (xoX (none,(t.size:Int),K)).rat,.string (xoX (none,(t.size:Int),K)).name,.int .i64 (xoX (none,(t.size:Int),K)).date,.slice a2 l2 k2] 25)) _;rw[←HW2.out];refine(HCK.out _ ZY.out).mono ?_;rintro e w3 ⟨rfl,hb⟩;have HF:=Z9 (ZY.out.trans (hb.mono ZY.out.size));clear hb;go_wp2_with fail
  go_ret;exact⟨rfl,HF.out⟩
theorem zbs(s t:ByteArray):(s ++ t).size=s.size+t.size:=by simp
theorem zfv{N:Nat}(k:Int){x y:Ex}{a0 a1 a2 a3 a4 b0 b1 b2 b3 b4:Value}(W:World)(hx:∀W',Below W.heap.size W W'→ExAt N W' [a0,a1,a2,a3,a4] x)(hy:∀W',Below W.heap.size W W'→ExAt N W' [b0,b1,b2,b3,b4] y) :
 Calls Tryz.prog 34 #[.int .u8 k,.agg #[a0,a1,a2,a3,a4],.agg #[b0,b1,b2,b3,b4]] W (fun e w'=>∃g,e=.returned (.agg #[.int .u8 k,.string ⟨#[]⟩,.string ⟨#[]⟩,.int .i64 0,.slice (some ⟨g,0,none⟩) 2 2])∧(∀W',Below w'.heap.size w' W'→ExAt (N+1) W' [.int .u8 k,.string ⟨#[]⟩,.string ⟨#[]⟩,.int .i64 0,.slice (some ⟨g,0,none⟩) 2 2] (tEx2 k x y))∧Below W.heap.size W w'):=by
 refine(zyh k a0 a1 a2 a3 a4 b0 b1 b2 b3 b4 W).mono ?_;rintro e u ⟨g,rfl,hg,hb⟩;refine⟨g,rfl,fun W' hW => ?_,hb⟩;have hh:=hb.trans (hW.mono hb.size);exact zla k ((hW.block _ (Z8 hg)).trans hg) (hx W' hh) (hy W' hh)
theorem z9w(a:ByteArray):(⟨#[40]⟩ ++ a ++ ⟨#[10,41]⟩:ByteArray).data.toList=40 :: (a.data.toList ++ [10,41]):=by rw[bap,bap];rfl
theorem znu(a b c:ByteArray)(o1 o2:UInt8):((⟨#[40]⟩ ++ a ++ ⟨#[10,41]⟩) ++ ⟨#[o1]⟩ ++ (⟨#[40,40]⟩ ++ b ++ ⟨#[10,41,41]⟩) ++ ⟨#[o2]⟩ ++ (⟨#[40]⟩ ++ c ++ ⟨#[10,41]⟩):ByteArray).data.toList =
 40 :: (a.data.toList ++ 10 :: 41 :: o1 :: 40 :: 40 :: (b.data.toList ++ 10 :: 41 :: 41 :: o2 :: 40 :: (c.data.toList ++ [10,41]))):=by
 simp only[bap]
 show([40] ++ a.data.toList ++ [10,41]) ++ [o1] ++ ([40,40] ++ b.data.toList ++ [10,41,41]) ++ [o2] ++ ([40] ++ c.data.toList ++ [10,41])=_
 simp
theorem z9y(a b:ByteArray):(⟨#[109,97,120,40]⟩ ++ a ++ ⟨#[10,44]⟩ ++ b ++ ⟨#[10,41]⟩:ByteArray).data.toList=[109,97,120,40] ++ (a.data.toList ++ 10 :: 44 :: (b.data.toList ++ [10,41])):=by
 simp only[bap]
 show[109,97,120,40] ++ a.data.toList ++ [10,44] ++ b.data.toList ++ [10,41]=_
 simp
theorem z8e{Wg:World}(hs:zb6 Wg)(Zi:Hid (∀W,Below Wg.heap.size Wg W→Calls Tryz.prog 29 #[] W (BelB W true)))(a b c:ByteArray)(w:World)(hb:Below Wg.heap.size Wg w)(ha:a.size≤3000)(VW:b.size≤3000)(hc:c.size≤3000) :
 Calls Tryz.prog 10 #[.string a,.string b,.string c] w (BelB w true):=by
 obtain⟨X1,E1,hA⟩:=zm4 hs hb a ha;obtain⟨X2,E2,hB⟩:=zm4 hs hb b VW;obtain⟨X3,E3,hC⟩:=zm4 hs hb c hc;have HTA:=Z9 hA;have HTB:=Z9 hB;have HTC:=Z9 hC;have HAL2:=Z9 (Zi.out w hb);have HGT:Hid (zb6 Wg∧Below Wg.heap.size Wg w∧a.size≤3000∧b.size≤3000∧c.size≤3000):=Z9 ⟨hs,hb,ha,VW,hc⟩;have l1:decide ((3000:Int)<(a.size:Int))=false:=decide_eq_false (by omega);have l2:decide ((3000:Int)<(b.size:Int))=false:=decide_eq_false (by omega);have l3:decide ((3000:Int)<(c.size:Int))=false:=decide_eq_false (by omega);clear hs Zi hb ha VW hc hA hB hC;go_enter Tryz.func10,Tryz.ntmps10;go_wp2_with fail;refine HAL2.out.mono ?_
 rintro e w1 ⟨rfl,hb⟩;have ZT:=Z9 hb;clear hb HAL2;go_wp2_with fail;refine(HTA.out.rd _ ZT.out).mono ?_;rintro e u1 ⟨n1,p1,q1,k1,i1,rfl,ZB,ZJ⟩;have Y7:=zaa u1 (.cells #[.int .u8 X1.kind,.string X1.rat,.string X1.name,.int .i64 X1.date,.slice p1 q1 k1] 25);have ZY:Hid (Below w.heap.size w (u1.alloc (.cells #[.int .u8 X1.kind,.string X1.rat,.string X1.name,.int .i64 X1.date,.slice p1 q1 k1] 25))):=Z9 (ZT.out.trans ((ZJ.trans (Y7.mono ZJ.size)).mono ZT.out.size));have HX1:=Z9 (ExAt.below Y7 ZB);have HBX1:=Z9 (heap_alloc_new u1 (.cells #[.int .u8 X1.kind,.string X1.rat,.string X1.name,.int .i64 X1.date,.slice p1 q1 k1] 25))
 clear ZJ ZB Y7;go_wp2_with fail;refine(HTB.out.rd _ ZY.out).mono ?_;rintro e u2 ⟨n2,p2,q2,k2,i2,rfl,Zu,Z3⟩;have hB2:=zaa u2 (.cells #[.int .u8 X2.kind,.string X2.rat,.string X2.name,.int .i64 X2.date,.slice p2 q2 k2] 25);have hb12:=Z3.trans (hB2.mono Z3.size);have Zx:Hid (Below w.heap.size w (u2.alloc (.cells #[.int .u8 X2.kind,.string X2.rat,.string X2.name,.int .i64 X2.date,.slice p2 q2 k2] 25))):=Z9 (ZY.out.trans (hb12.mono ZY.out.size));have HX1':=Z9 (ExAt.below hb12 HX1.out);have HX2:=Z9 (ExAt.below hB2 Zu);have HBX1':=Z9 ((hb12.block _ (Z8 HBX1.out)).trans HBX1.out);have HBX2:=Z9 (heap_alloc_new u2 (.cells #[.int .u8 X2.kind,.string X2.rat,.string X2.name,.int .i64 X2.date,.slice p2 q2 k2] 25))
 clear Z3 Zu hB2 hb12 HX1 HBX1;go_wp2_with fail;refine(HTC.out.rd _ Zx.out).mono ?_;rintro e u3 ⟨n3,p3,q3,k3,i3,rfl,UA,Zw⟩;have hB3:=zaa u3 (.cells #[.int .u8 X3.kind,.string X3.rat,.string X3.name,.int .i64 X3.date,.slice p3 q3 k3] 25);have Xm:=Zw.trans (hB3.mono Zw.size);have HB4:Hid (Below w.heap.size w (u3.alloc (.cells #[.int .u8 X3.kind,.string X3.rat,.string X3.name,.int .i64 X3.date,.slice p3 q3 k3] 25))):=Z9 (Zx.out.trans (Xm.mono Zx.out.size))
 by_cases VC:E1=0
 case neg =>
  have e1:(E1 != 0)=true:=by simp[VC]
  go_wp2_with fail;go_ret;exact⟨rfl,HB4.out⟩
 by_cases XO:E2=0
 case neg =>
  have e2:(E2 != 0)=true:=by simp[XO]
  subst VC;go_wp2_with fail;go_ret;exact⟨rfl,HB4.out⟩
 by_cases VD:E3=0
 case neg =>
  have e3:(E3 != 0)=true:=by simp[VD]
  subst VC XO;go_wp2_with fail;go_ret;exact⟨rfl,HB4.out⟩
 subst VC XO VD;obtain⟨V,hV⟩:∃V,V=u3.alloc (.cells #[.int .u8 X3.kind,.string X3.rat,.string X3.name,.int .i64 X3.date,.slice p3 q3 k3] 25):=⟨_,rfl⟩
 have hbu1:=(Zw.block _ (Z8 HBX1'.out)).trans HBX1'.out;have hbu2:=(Zw.block _ (Z8 HBX2.out)).trans HBX2.out;have lu1:=(Z8 hbu1);have lu2:=(Z8 hbu2);have hbv1:=(hB3.block _ lu1).trans hbu1;have hbv2:=(hB3.block _ lu2).trans hbu2;have hbv3:=heap_alloc_new u3 (.cells #[.int .u8 X3.kind,.string X3.rat,.string X3.name,.int .i64 X3.date,.slice p3 q3 k3] 25);have hv1:=ExAt.below Xm HX1'.out;have hv2:=ExAt.below Xm HX2.out;have hv3:=ExAt.below hB3 UA;rw[←hV]at hbv1 hbv2 hbv3 hv1 hv2 hv3 HB4;have HV1:Hid (∀W,Below V.heap.size V W→W.heap[u1.heap.size]?=some (.cells #[.int .u8 X1.kind,.string X1.rat,.string X1.name,.int .i64 X1.date,.slice p1 q1 k1] 25)):=Z9 (fun W hW=>(hW.block _ (Z8 hbv1)).trans hbv1)
 have HV2:Hid (∀W,Below V.heap.size V W→W.heap[u2.heap.size]?=some (.cells #[.int .u8 X2.kind,.string X2.rat,.string X2.name,.int .i64 X2.date,.slice p2 q2 k2] 25)):=Z9 (fun W hW=>(hW.block _ (Z8 hbv2)).trans hbv2);have HV3:Hid (∀W,Below V.heap.size V W→W.heap[u3.heap.size]?=some (.cells #[.int .u8 X3.kind,.string X3.rat,.string X3.name,.int .i64 X3.date,.slice p3 q3 k3] 25)):=Z9 (fun W hW=>(hW.block _ (Z8 hbv3)).trans hbv3);have HY1:Hid (∀W,Below V.heap.size V W→ExAt n1 W [.int .u8 X1.kind,.string X1.rat,.string X1.name,.int .i64 X1.date,.slice p1 q1 k1] X1):=Z9 (fun W hW=>ExAt.below hW hv1);have HY2:Hid (∀W,Below V.heap.size V W→ExAt n2 W [.int .u8 X2.kind,.string X2.rat,.string X2.name,.int .i64 X2.date,.slice p2 q2 k2] X2):=Z9 (fun W hW=>ExAt.below hW hv2)
 have HY3:Hid (∀W,Below V.heap.size V W→ExAt n3 W [.int .u8 X3.kind,.string X3.rat,.string X3.name,.int .i64 X3.date,.slice p3 q3 k3] X3):=Z9 (fun W hW=>ExAt.below hW hv3);have HVV:=Z9 hV;obtain⟨c0,c1,c2,c3,c4⟩:=zad hbu1;obtain⟨d0,d1,d2,d3,d4⟩:=zad hbu2;clear hB3 Xm Zw UA hbu1 hbu2 hbv1 hbv2 hbv3 hv1 hv2 hv3 hV HX1' HX2 HBX1' HBX2 ZY Zx ZT;have HN1:=Z9 (HTA.out.num rfl n1 p1 q1 k1 V HB4.out (HY1.out V (Below.refl _ _)));obtain⟨b1,Wj⟩:∃b,b=numX X1:=⟨_,rfl⟩
 rw[←Wj]at HN1;have HBN1:=Z9 Wj;clear Wj;go_wp2_with fail;rw[←HVV.out];refine HN1.out.mono ?_;rintro e w4 ⟨rfl,Wh⟩;have HC4:=Z9 Wh;clear Wh c0 c1 c2 c3 c4 d0 d1 d2 d3 d4 HN1 lu1 lu2
 cases b1 with
 |false =>
  have HF:=Z9 (HB4.out.trans (HC4.out.mono HB4.out.size));go_wp2_with fail;go_ret;exact⟨rfl,HF.out⟩
 |true =>
 have HN2:=Z9 (HTB.out.num rfl n2 p2 q2 k2 w4 (HB4.out.trans (HC4.out.mono HB4.out.size)) (HY2.out w4 HC4.out));obtain⟨b2,Wj⟩:∃b,b=numX X2:=⟨_,rfl⟩
 rw[←Wj]at HN2;have HBN2:=Z9 Wj;clear Wj;obtain⟨d0,d1,d2,d3,d4⟩:=zad (HV2.out w4 HC4.out);go_wp2_with fail;refine HN2.out.mono ?_;rintro e w5 ⟨rfl,Y9⟩;have HC5:=Z9 (HC4.out.trans (Y9.mono HC4.out.size));clear Y9 d0 d1 d2 d3 d4 HN2 HC4
 cases b2 with
 |false =>
  have HF:=Z9 (HB4.out.trans (HC5.out.mono HB4.out.size));go_wp2_with fail;go_ret;exact⟨rfl,HF.out⟩
 |true =>
 have HN3:=Z9 (HTC.out.num rfl n3 p3 q3 k3 w5 (HB4.out.trans (HC5.out.mono HB4.out.size)) (HY3.out w5 HC5.out));obtain⟨b3,Wj⟩:∃b,b=numX X3:=⟨_,rfl⟩
 rw[←Wj]at HN3;have HBN3:=Z9 Wj;clear Wj;obtain⟨d0,d1,d2,d3,d4⟩:=zad (HV3.out w5 HC5.out);go_wp2_with fail;refine HN3.out.mono ?_;rintro e w6 ⟨rfl,XA⟩;have HC0:=Z9 (HC5.out.trans (XA.mono HC5.out.size));clear XA d0 d1 d2 d3 d4 HN3 HC5
 cases b3 with
 |false =>
  have HF:=Z9 (HB4.out.trans (HC0.out.mono HB4.out.size));go_wp2_with fail;go_ret;exact⟨rfl,HF.out⟩
 |true =>
 have z1:¬9223372036854775807<1+a.size:=by have:=HGT.out.2.2.1;omega
 have z2:¬9223372036854775807<1+a.size+2:=by have:=HGT.out.2.2.1;omega
 have z3:¬9223372036854775807<2+b.size:=by have:=HGT.out.2.2.2.1;omega
 have z4:¬9223372036854775807<2+b.size+3:=by have:=HGT.out.2.2.2.1;omega
 have z5:¬9223372036854775807<1+c.size:=by have:=HGT.out.2.2.2.2;omega
 have z6:¬9223372036854775807<1+c.size+2:=by have:=HGT.out.2.2.2.2;omega
 go_wp2_with fail;clear z1 z2 z3 z4 z5 z6;obtain⟨P,hP⟩:∃P:ByteArray,P=⟨#[40]⟩ ++ a ++ ⟨#[10,41]⟩:=⟨_,rfl⟩
 obtain⟨Q,hQ⟩:∃Q:ByteArray,Q=⟨#[40,40]⟩ ++ b ++ ⟨#[10,41,41]⟩:=⟨_,rfl⟩
 obtain⟨R,hR⟩:∃R:ByteArray,R=⟨#[40]⟩ ++ c ++ ⟨#[10,41]⟩:=⟨_,rfl⟩
 rw[←hP,←hQ,←hR];have HPS:=Z9 (And.intro hP (And.intro hQ hR));clear hP hQ hR
 have HSB:Hid (∀W,Below V.heap.size V W→W.cell? ⟨u1.heap.size,0,none⟩=some (.int .u8 X1.kind)∧W.cell? ⟨u1.heap.size,1,none⟩=some (.string X1.rat)∧W.cell? ⟨u1.heap.size,2,none⟩=some (.string X1.name)∧W.cell? ⟨u1.heap.size,3,none⟩=some (.int .i64 X1.date)∧W.cell? ⟨u1.heap.size,4,none⟩=some (.slice p1 q1 k1)∧W.cell? ⟨u2.heap.size,0,none⟩=some (.int .u8 X2.kind)∧W.cell? ⟨u2.heap.size,1,none⟩=some (.string X2.rat)∧W.cell? ⟨u2.heap.size,2,none⟩=some (.string X2.name)∧W.cell? ⟨u2.heap.size,3,none⟩=some (.int .i64 X2.date)∧W.cell? ⟨u2.heap.size,4,none⟩=some (.slice p2 q2 k2)∧W.cell? ⟨u3.heap.size,0,none⟩=some (.int .u8 X3.kind)∧W.cell? ⟨u3.heap.size,1,none⟩=some (.string X3.rat)∧W.cell? ⟨u3.heap.size,2,none⟩=some (.string X3.name)∧W.cell? ⟨u3.heap.size,3,none⟩=some (.int .i64 X3.date)∧W.cell? ⟨u3.heap.size,4,none⟩=some (.slice p3 q3 k3)):=Z9 (fun W hW=>by
  obtain⟨c0,c1,c2,c3,c4⟩:=zad (HV1.out W hW);obtain⟨d0,d1,d2,d3,d4⟩:=zad (HV2.out W hW);obtain⟨e0,e1,e2,e3,e4⟩:=zad (HV3.out W hW)
  exact⟨c0,c1,c2,c3,c4,d0,d1,d2,d3,d4,e0,e1,e2,e3,e4⟩)
 obtain⟨za,ZD,hXA,TU⟩:=HTA.out.sx rfl HBN1.out.symm;obtain⟨zb,Zg,hXB,hlB⟩:=HTB.out.sx rfl HBN2.out.symm;obtain⟨zc,SG,hXC,hlC⟩:=HTC.out.sx rfl HBN3.out.symm;have HLZ:=Z9 (And.intro ZD (And.intro Zg SG));have HSX:=Z9 (And.intro hXA (And.intro hXB hXC));have HLL:=Z9 (And.intro TU (And.intro hlB hlC));clear ZD Zg SG hXA hXB hXC TU hlB hlC;have HVW:Hid (∀W,Below V.heap.size V W→Below Wg.heap.size Wg W):=Z9 (fun W hW=>HGT.out.2.1.trans ((HB4.out.trans (hW.mono HB4.out.size)).mono HGT.out.2.1.size))
 have HZS:Hid (P.size≤3010∧Q.size≤3010∧R.size≤3010):=Z9 (by
  obtain⟨h1,h2,h3⟩:=HPS.out;have:=HGT.out.2.2;rw[h1,h2,h3];simp only[ByteArray.size_append];refine⟨?_,?_,?_⟩
  ·show 1+a.size+2≤3010;omega
  ·show 2+b.size+3≤3010;omega
  ·show 1+c.size+2≤3010;omega)
 obtain⟨wp1,hwp1⟩:=HZS.out;obtain⟨NN,VF⟩:∃N,N=max n1 (max n2 n3):=⟨_,rfl⟩
 have UV:n1≤NN:=by omega
 have Yr:n2≤NN:=by omega
 have Us:n3≤NN:=by omega
 have y1:¬9223372036854775807<P.size+1:=by omega
 have y2:¬9223372036854775807<P.size+1+Q.size:=by omega
 have y3:¬9223372036854775807<P.size+1+Q.size+1:=by omega
 have y4:¬9223372036854775807<P.size+1+Q.size+1+R.size:=by omega
 have HC:Hid (Below V.heap.size V w6.drew):=Z9 HC0.out.drew
 have UC:Hid (∀W,Below V.heap.size V W→Calls Tryz.prog 42 #[.string P,.agg #[.int .u8 X1.kind,.string X1.rat,.string X1.name,.int .i64 X1.date,.slice p1 q1 k1]] W (BelB W true)):=Z9 (fun W hW=>by
  obtain⟨zs,ZO,ZA⟩:=z12 HLZ.out.1 HSX.out.1 HLL.out.1
  exact zg1 HGT.out.1 P X1 n1 p1 q1 k1 W (by omega) (zs:=zs) (by rw[HPS.out.1,z9w];exact ZO) ZA (HY1.out W hW) (HVW.out W hW))
 have HP2:Hid (∀(W:World),Below V.heap.size V W→Calls Tryz.prog 34 #[.int .u8 5,.agg #[.int .u8 X1.kind,.string X1.rat,.string X1.name,.int .i64 X1.date,.slice p1 q1 k1],.agg #[.int .u8 X2.kind,.string X2.rat,.string X2.name,.int .i64 X2.date,.slice p2 q2 k2]] W (fun e w'=>∃g',e=.returned (.agg #[.int .u8 5,.string ⟨#[]⟩,.string ⟨#[]⟩,.int .i64 0,.slice (some ⟨g',0,none⟩) 2 2])∧(∀W',Below w'.heap.size w' W'→ExAt (NN+1) W' [.int .u8 5,.string ⟨#[]⟩,.string ⟨#[]⟩,.int .i64 0,.slice (some ⟨g',0,none⟩) 2 2] (tEx2 5 X1 X2))∧Below W.heap.size W w')):=Z9 (fun W hW=>zfv 5 W (fun W' hW'=>(HY1.out W' (hW.trans (hW'.mono hW.size))).up (by omega)) (fun W' hW'=>(HY2.out W' (hW.trans (hW'.mono hW.size))).up (by omega)))
 have HP3:Hid (∀(W:World)(g:Nat),Below V.heap.size V W→(∀W',Below W.heap.size W W'→ExAt (NN+1) W' [.int .u8 5,.string ⟨#[]⟩,.string ⟨#[]⟩,.int .i64 0,.slice (some ⟨g,0,none⟩) 2 2] (tEx2 5 X1 X2))→Calls Tryz.prog 34 #[.int .u8 5,.agg #[.int .u8 5,.string ⟨#[]⟩,.string ⟨#[]⟩,.int .i64 0,.slice (some ⟨g,0,none⟩) 2 2],.agg #[.int .u8 X3.kind,.string X3.rat,.string X3.name,.int .i64 X3.date,.slice p3 q3 k3]] W (fun e w'=>∃g',e=.returned (.agg #[.int .u8 5,.string ⟨#[]⟩,.string ⟨#[]⟩,.int .i64 0,.slice (some ⟨g',0,none⟩) 2 2])∧(∀W',Below w'.heap.size w' W'→ExAt (NN+1+1) W' [.int .u8 5,.string ⟨#[]⟩,.string ⟨#[]⟩,.int .i64 0,.slice (some ⟨g',0,none⟩) 2 2] (tEx2 5 (tEx2 5 X1 X2) X3))∧Below W.heap.size W w')):=Z9 (fun W g hW hg=>zfv 5 W (hg) (fun W' hW'=>(HY3.out W' (hW.trans (hW'.mono hW.size))).up (by omega)))
 have HS4:Hid (∀(W:World)(g:Nat),Below V.heap.size V W→(∀W',Below W.heap.size W W'→ExAt (NN+2) W' [.int .u8 5,.string ⟨#[]⟩,.string ⟨#[]⟩,.int .i64 0,.slice (some ⟨g,0,none⟩) 2 2] (tEx2 5 (tEx2 5 X1 X2) X3))→Calls Tryz.prog 42 #[.string (P ++ ⟨#[45]⟩ ++ Q ++ ⟨#[45]⟩ ++ R),.agg #[.int .u8 5,.string ⟨#[]⟩,.string ⟨#[]⟩,.int .i64 0,.slice (some ⟨g,0,none⟩) 2 2]] W (BelB W true)):=Z9 (fun W g hW hg=>by
  obtain⟨zs,ZO,ZA⟩:=zg0 HLZ.out.1 HLZ.out.2.1 HLZ.out.2.2 HLL.out.1 HLL.out.2.1 HLL.out.2.2 45 45 (by decide) (by decide) (tEx2 5 (tEx2 5 X1 X2) X3) (ydj HSX.out.1 HSX.out.2.1 HSX.out.2.2)
  exact zg1 HGT.out.1 (P ++ ⟨#[45]⟩ ++ Q ++ ⟨#[45]⟩ ++ R) (tEx2 5 (tEx2 5 X1 X2) X3) (NN+2) (some ⟨g,0,none⟩) 2 2 W (by rw[zbs,zbs,zbs,zbs];show P.size+1+Q.size+1+R.size≤20000;omega) (zs:=zs) (by rw[HPS.out.1,HPS.out.2.1,HPS.out.2.2,znu];exact ZO) ZA (hg W (Below.refl _ _)) (HVW.out W hW))
 go_region_held3 (fun W=>W.cell? ⟨u1.heap.size,0,none⟩=some (.int .u8 X1.kind)∧W.cell? ⟨u1.heap.size,1,none⟩=some (.string X1.rat)∧W.cell? ⟨u1.heap.size,2,none⟩=some (.string X1.name)∧W.cell? ⟨u1.heap.size,3,none⟩=some (.int .i64 X1.date)∧W.cell? ⟨u1.heap.size,4,none⟩=some (.slice p1 q1 k1)∧W.cell? ⟨u2.heap.size,0,none⟩=some (.int .u8 X2.kind)∧W.cell? ⟨u2.heap.size,1,none⟩=some (.string X2.rat)∧W.cell? ⟨u2.heap.size,2,none⟩=some (.string X2.name)∧W.cell? ⟨u2.heap.size,3,none⟩=some (.int .i64 X2.date)∧W.cell? ⟨u2.heap.size,4,none⟩=some (.slice p2 q2 k2)∧W.cell? ⟨u3.heap.size,0,none⟩=some (.int .u8 X3.kind)∧W.cell? ⟨u3.heap.size,1,none⟩=some (.string X3.rat)∧W.cell? ⟨u3.heap.size,2,none⟩=some (.string X3.name)∧W.cell? ⟨u3.heap.size,3,none⟩=some (.int .i64 X3.date)∧W.cell? ⟨u3.heap.size,4,none⟩=some (.slice p3 q3 k3))
  ((first |with_reducible exact HSB.out _ HC.out |with_reducible exact HSB.out _ HC0.out))
  ((first
   |(
    go_at_call 42
    with_reducible refine(UC.out _ HC.out).mono ?_
    rintro e u ⟨rfl,hb⟩;have HC:=Z9 (HC.out.trans (hb.mono HC.out.size))
    clear hb)
   |(
    go_at_call 34
    with_reducible refine(HP2.out _ HC.out).mono ?_
    rintro e u ⟨g1,rfl,hg,hb⟩;have HC:=Z9 (HC.out.trans (hb.mono HC.out.size));have Hg1:=Z9 hg
    clear hb hg)
   |(
    go_at_call 34
    with_reducible refine(HP3.out _ g1 HC.out (Hg1.out)).mono ?_
    rintro e u ⟨g2,rfl,hg,hb⟩;have HC:=Z9 (HC.out.trans (hb.mono HC.out.size));have Hg2:=Z9 hg
    clear hb hg)
   |(
    go_at_call 42
    with_reducible refine(HS4.out _ g2 HC.out (Hg2.out)).mono ?_
    rintro e u ⟨rfl,hb⟩;have HC:=Z9 (HC.out.trans (hb.mono HC.out.size))
    clear hb)))
 have HC0:=Z9 HC.out;have HC:Hid (Below V.heap.size V u.drew):=Z9 HC0.out.drew;go_wp2_with fail;have HP1:Hid (∀(W:World),Below V.heap.size V W→Calls Tryz.prog 34 #[.int .u8 6,.agg #[.int .u8 X2.kind,.string X2.rat,.string X2.name,.int .i64 X2.date,.slice p2 q2 k2],.agg #[.int .u8 X3.kind,.string X3.rat,.string X3.name,.int .i64 X3.date,.slice p3 q3 k3]] W (fun e w'=>∃g',e=.returned (.agg #[.int .u8 6,.string ⟨#[]⟩,.string ⟨#[]⟩,.int .i64 0,.slice (some ⟨g',0,none⟩) 2 2])∧(∀W',Below w'.heap.size w' W'→ExAt (NN+1) W' [.int .u8 6,.string ⟨#[]⟩,.string ⟨#[]⟩,.int .i64 0,.slice (some ⟨g',0,none⟩) 2 2] (tEx2 6 X2 X3))∧Below W.heap.size W w')):=Z9 (fun W hW=>zfv 6 W (fun W' hW'=>(HY2.out W' (hW.trans (hW'.mono hW.size))).up (by omega)) (fun W' hW'=>(HY3.out W' (hW.trans (hW'.mono hW.size))).up (by omega)))
 have HP2:Hid (∀(W:World)(g:Nat),Below V.heap.size V W→(∀W',Below W.heap.size W W'→ExAt (NN+1) W' [.int .u8 6,.string ⟨#[]⟩,.string ⟨#[]⟩,.int .i64 0,.slice (some ⟨g,0,none⟩) 2 2] (tEx2 6 X2 X3))→Calls Tryz.prog 34 #[.int .u8 4,.agg #[.int .u8 X1.kind,.string X1.rat,.string X1.name,.int .i64 X1.date,.slice p1 q1 k1],.agg #[.int .u8 6,.string ⟨#[]⟩,.string ⟨#[]⟩,.int .i64 0,.slice (some ⟨g,0,none⟩) 2 2]] W (fun e w'=>∃g',e=.returned (.agg #[.int .u8 4,.string ⟨#[]⟩,.string ⟨#[]⟩,.int .i64 0,.slice (some ⟨g',0,none⟩) 2 2])∧(∀W',Below w'.heap.size w' W'→ExAt (NN+1+1) W' [.int .u8 4,.string ⟨#[]⟩,.string ⟨#[]⟩,.int .i64 0,.slice (some ⟨g',0,none⟩) 2 2] (tEx2 4 X1 (tEx2 6 X2 X3)))∧Below W.heap.size W w')):=Z9 (fun W g hW hg=>zfv 4 W (fun W' hW'=>(HY1.out W' (hW.trans (hW'.mono hW.size))).up (by omega)) (hg))
 have HS3:Hid (∀(W:World)(g:Nat),Below V.heap.size V W→(∀W',Below W.heap.size W W'→ExAt (NN+2) W' [.int .u8 4,.string ⟨#[]⟩,.string ⟨#[]⟩,.int .i64 0,.slice (some ⟨g,0,none⟩) 2 2] (tEx2 4 X1 (tEx2 6 X2 X3)))→Calls Tryz.prog 42 #[.string (P ++ ⟨#[43]⟩ ++ Q ++ ⟨#[42]⟩ ++ R),.agg #[.int .u8 4,.string ⟨#[]⟩,.string ⟨#[]⟩,.int .i64 0,.slice (some ⟨g,0,none⟩) 2 2]] W (BelB W true)):=Z9 (fun W g hW hg=>by
  obtain⟨zs,ZO,ZA⟩:=zg0 HLZ.out.1 HLZ.out.2.1 HLZ.out.2.2 HLL.out.1 HLL.out.2.1 HLL.out.2.2 43 42 (by decide) (by decide) (tEx2 4 X1 (tEx2 6 X2 X3)) (ydi HSX.out.1 HSX.out.2.1 HSX.out.2.2)
  exact zg1 HGT.out.1 (P ++ ⟨#[43]⟩ ++ Q ++ ⟨#[42]⟩ ++ R) (tEx2 4 X1 (tEx2 6 X2 X3)) (NN+2) (some ⟨g,0,none⟩) 2 2 W (by rw[zbs,zbs,zbs,zbs];show P.size+1+Q.size+1+R.size≤20000;omega) (zs:=zs) (by rw[HPS.out.1,HPS.out.2.1,HPS.out.2.2,znu];exact ZO) ZA (hg W (Below.refl _ _)) (HVW.out W hW))
 have HP4:Hid (∀(W:World),Below V.heap.size V W→Calls Tryz.prog 34 #[.int .u8 6,.agg #[.int .u8 X1.kind,.string X1.rat,.string X1.name,.int .i64 X1.date,.slice p1 q1 k1],.agg #[.int .u8 X2.kind,.string X2.rat,.string X2.name,.int .i64 X2.date,.slice p2 q2 k2]] W (fun e w'=>∃g',e=.returned (.agg #[.int .u8 6,.string ⟨#[]⟩,.string ⟨#[]⟩,.int .i64 0,.slice (some ⟨g',0,none⟩) 2 2])∧(∀W',Below w'.heap.size w' W'→ExAt (NN+1) W' [.int .u8 6,.string ⟨#[]⟩,.string ⟨#[]⟩,.int .i64 0,.slice (some ⟨g',0,none⟩) 2 2] (tEx2 6 X1 X2))∧Below W.heap.size W w')):=Z9 (fun W hW=>zfv 6 W (fun W' hW'=>(HY1.out W' (hW.trans (hW'.mono hW.size))).up (by omega)) (fun W' hW'=>(HY2.out W' (hW.trans (hW'.mono hW.size))).up (by omega)))
 have HP5:Hid (∀(W:World)(g:Nat),Below V.heap.size V W→(∀W',Below W.heap.size W W'→ExAt (NN+1) W' [.int .u8 6,.string ⟨#[]⟩,.string ⟨#[]⟩,.int .i64 0,.slice (some ⟨g,0,none⟩) 2 2] (tEx2 6 X1 X2))→Calls Tryz.prog 34 #[.int .u8 6,.agg #[.int .u8 6,.string ⟨#[]⟩,.string ⟨#[]⟩,.int .i64 0,.slice (some ⟨g,0,none⟩) 2 2],.agg #[.int .u8 X3.kind,.string X3.rat,.string X3.name,.int .i64 X3.date,.slice p3 q3 k3]] W (fun e w'=>∃g',e=.returned (.agg #[.int .u8 6,.string ⟨#[]⟩,.string ⟨#[]⟩,.int .i64 0,.slice (some ⟨g',0,none⟩) 2 2])∧(∀W',Below w'.heap.size w' W'→ExAt (NN+1+1) W' [.int .u8 6,.string ⟨#[]⟩,.string ⟨#[]⟩,.int .i64 0,.slice (some ⟨g',0,none⟩) 2 2] (tEx2 6 (tEx2 6 X1 X2) X3))∧Below W.heap.size W w')):=Z9 (fun W g hW hg=>zfv 6 W (hg) (fun W' hW'=>(HY3.out W' (hW.trans (hW'.mono hW.size))).up (by omega)))
 have HS6:Hid (∀(W:World)(g:Nat),Below V.heap.size V W→(∀W',Below W.heap.size W W'→ExAt (NN+2) W' [.int .u8 6,.string ⟨#[]⟩,.string ⟨#[]⟩,.int .i64 0,.slice (some ⟨g,0,none⟩) 2 2] (tEx2 6 (tEx2 6 X1 X2) X3))→Calls Tryz.prog 42 #[.string (P ++ ⟨#[42]⟩ ++ Q ++ ⟨#[42]⟩ ++ R),.agg #[.int .u8 6,.string ⟨#[]⟩,.string ⟨#[]⟩,.int .i64 0,.slice (some ⟨g,0,none⟩) 2 2]] W (BelB W true)):=Z9 (fun W g hW hg=>by
  obtain⟨zs,ZO,ZA⟩:=zg0 HLZ.out.1 HLZ.out.2.1 HLZ.out.2.2 HLL.out.1 HLL.out.2.1 HLL.out.2.2 42 42 (by decide) (by decide) (tEx2 6 (tEx2 6 X1 X2) X3) (ydg HSX.out.1 HSX.out.2.1 HSX.out.2.2)
  exact zg1 HGT.out.1 (P ++ ⟨#[42]⟩ ++ Q ++ ⟨#[42]⟩ ++ R) (tEx2 6 (tEx2 6 X1 X2) X3) (NN+2) (some ⟨g,0,none⟩) 2 2 W (by rw[zbs,zbs,zbs,zbs];show P.size+1+Q.size+1+R.size≤20000;omega) (zs:=zs) (by rw[HPS.out.1,HPS.out.2.1,HPS.out.2.2,znu];exact ZO) ZA (hg W (Below.refl _ _)) (HVW.out W hW))
 go_region_held3 (fun W=>W.cell? ⟨u1.heap.size,0,none⟩=some (.int .u8 X1.kind)∧W.cell? ⟨u1.heap.size,1,none⟩=some (.string X1.rat)∧W.cell? ⟨u1.heap.size,2,none⟩=some (.string X1.name)∧W.cell? ⟨u1.heap.size,3,none⟩=some (.int .i64 X1.date)∧W.cell? ⟨u1.heap.size,4,none⟩=some (.slice p1 q1 k1)∧W.cell? ⟨u2.heap.size,0,none⟩=some (.int .u8 X2.kind)∧W.cell? ⟨u2.heap.size,1,none⟩=some (.string X2.rat)∧W.cell? ⟨u2.heap.size,2,none⟩=some (.string X2.name)∧W.cell? ⟨u2.heap.size,3,none⟩=some (.int .i64 X2.date)∧W.cell? ⟨u2.heap.size,4,none⟩=some (.slice p2 q2 k2)∧W.cell? ⟨u3.heap.size,0,none⟩=some (.int .u8 X3.kind)∧W.cell? ⟨u3.heap.size,1,none⟩=some (.string X3.rat)∧W.cell? ⟨u3.heap.size,2,none⟩=some (.string X3.name)∧W.cell? ⟨u3.heap.size,3,none⟩=some (.int .i64 X3.date)∧W.cell? ⟨u3.heap.size,4,none⟩=some (.slice p3 q3 k3))
  ((first |with_reducible exact HSB.out _ HC.out |with_reducible exact HSB.out _ HC0.out))
  ((first
   |(
    go_at_call 34
    with_reducible refine(HP1.out _ HC.out).mono ?_
    rintro e u ⟨g3,rfl,hg,hb⟩;have HC:=Z9 (HC.out.trans (hb.mono HC.out.size));have Hg3:=Z9 hg
    clear hb hg)
   |(
    go_at_call 34
    with_reducible refine(HP2.out _ g3 HC.out (Hg3.out)).mono ?_
    rintro e u ⟨g4,rfl,hg,hb⟩;have HC:=Z9 (HC.out.trans (hb.mono HC.out.size));have Hg4:=Z9 hg
    clear hb hg)
   |(
    go_at_call 42
    with_reducible refine(HS3.out _ g4 HC.out (Hg4.out)).mono ?_
    rintro e u ⟨rfl,hb⟩;have HC:=Z9 (HC.out.trans (hb.mono HC.out.size))
    clear hb)
   |(
    go_at_call 34
    with_reducible refine(HP4.out _ HC.out).mono ?_
    rintro e u ⟨g5,rfl,hg,hb⟩;have HC:=Z9 (HC.out.trans (hb.mono HC.out.size));have Hg5:=Z9 hg
    clear hb hg)
   |(
    go_at_call 34
    with_reducible refine(HP5.out _ g5 HC.out (Hg5.out)).mono ?_
    rintro e u ⟨g6,rfl,hg,hb⟩;have HC:=Z9 (HC.out.trans (hb.mono HC.out.size));have Hg6:=Z9 hg
    clear hb hg)
   |(
    go_at_call 42
    with_reducible refine(HS6.out _ g6 HC.out (Hg6.out)).mono ?_
    rintro e u ⟨rfl,hb⟩;have HC:=Z9 (HC.out.trans (hb.mono HC.out.size))
    clear hb)))
 have HC0:=Z9 HC.out;have HC:Hid (Below V.heap.size V u.drew):=Z9 HC0.out.drew;have v1:¬9223372036854775807<4+a.size:=by have:=HGT.out.2.2.1;omega
 have v2:¬9223372036854775807<4+a.size+2:=by have:=HGT.out.2.2.1;omega
 have v3:¬9223372036854775807<4+a.size+2+b.size:=by have:=HGT.out.2.2;omega
 have v4:¬9223372036854775807<4+a.size+2+b.size+2:=by have:=HGT.out.2.2;omega
 go_wp2_with fail;have HP1:Hid (∀(W:World),Below V.heap.size V W→Calls Tryz.prog 34 #[.int .u8 6,.agg #[.int .u8 X1.kind,.string X1.rat,.string X1.name,.int .i64 X1.date,.slice p1 q1 k1],.agg #[.int .u8 X2.kind,.string X2.rat,.string X2.name,.int .i64 X2.date,.slice p2 q2 k2]] W (fun e w'=>∃g',e=.returned (.agg #[.int .u8 6,.string ⟨#[]⟩,.string ⟨#[]⟩,.int .i64 0,.slice (some ⟨g',0,none⟩) 2 2])∧(∀W',Below w'.heap.size w' W'→ExAt (NN+1) W' [.int .u8 6,.string ⟨#[]⟩,.string ⟨#[]⟩,.int .i64 0,.slice (some ⟨g',0,none⟩) 2 2] (tEx2 6 X1 X2))∧Below W.heap.size W w')):=Z9 (fun W hW=>zfv 6 W (fun W' hW'=>(HY1.out W' (hW.trans (hW'.mono hW.size))).up (by omega)) (fun W' hW'=>(HY2.out W' (hW.trans (hW'.mono hW.size))).up (by omega)))
 have HP2:Hid (∀(W:World)(g:Nat),Below V.heap.size V W→(∀W',Below W.heap.size W W'→ExAt (NN+1) W' [.int .u8 6,.string ⟨#[]⟩,.string ⟨#[]⟩,.int .i64 0,.slice (some ⟨g,0,none⟩) 2 2] (tEx2 6 X1 X2))→Calls Tryz.prog 34 #[.int .u8 4,.agg #[.int .u8 6,.string ⟨#[]⟩,.string ⟨#[]⟩,.int .i64 0,.slice (some ⟨g,0,none⟩) 2 2],.agg #[.int .u8 X3.kind,.string X3.rat,.string X3.name,.int .i64 X3.date,.slice p3 q3 k3]] W (fun e w'=>∃g',e=.returned (.agg #[.int .u8 4,.string ⟨#[]⟩,.string ⟨#[]⟩,.int .i64 0,.slice (some ⟨g',0,none⟩) 2 2])∧(∀W',Below w'.heap.size w' W'→ExAt (NN+1+1) W' [.int .u8 4,.string ⟨#[]⟩,.string ⟨#[]⟩,.int .i64 0,.slice (some ⟨g',0,none⟩) 2 2] (tEx2 4 (tEx2 6 X1 X2) X3))∧Below W.heap.size W w')):=Z9 (fun W g hW hg=>zfv 4 W (hg) (fun W' hW'=>(HY3.out W' (hW.trans (hW'.mono hW.size))).up (by omega)))
 have HS3:Hid (∀(W:World)(g:Nat),Below V.heap.size V W→(∀W',Below W.heap.size W W'→ExAt (NN+2) W' [.int .u8 4,.string ⟨#[]⟩,.string ⟨#[]⟩,.int .i64 0,.slice (some ⟨g,0,none⟩) 2 2] (tEx2 4 (tEx2 6 X1 X2) X3))→Calls Tryz.prog 42 #[.string (P ++ ⟨#[42]⟩ ++ Q ++ ⟨#[43]⟩ ++ R),.agg #[.int .u8 4,.string ⟨#[]⟩,.string ⟨#[]⟩,.int .i64 0,.slice (some ⟨g,0,none⟩) 2 2]] W (BelB W true)):=Z9 (fun W g hW hg=>by
  obtain⟨zs,ZO,ZA⟩:=zg0 HLZ.out.1 HLZ.out.2.1 HLZ.out.2.2 HLL.out.1 HLL.out.2.1 HLL.out.2.2 42 43 (by decide) (by decide) (tEx2 4 (tEx2 6 X1 X2) X3) (ydh HSX.out.1 HSX.out.2.1 HSX.out.2.2)
  exact zg1 HGT.out.1 (P ++ ⟨#[42]⟩ ++ Q ++ ⟨#[43]⟩ ++ R) (tEx2 4 (tEx2 6 X1 X2) X3) (NN+2) (some ⟨g,0,none⟩) 2 2 W (by rw[zbs,zbs,zbs,zbs];show P.size+1+Q.size+1+R.size≤20000;omega) (zs:=zs) (by rw[HPS.out.1,HPS.out.2.1,HPS.out.2.2,znu];exact ZO) ZA (hg W (Below.refl _ _)) (HVW.out W hW))
 have HP4:Hid (∀(W:World),Below V.heap.size V W→Calls Tryz.prog 34 #[.int .u8 7,.agg #[.int .u8 X1.kind,.string X1.rat,.string X1.name,.int .i64 X1.date,.slice p1 q1 k1],.agg #[.int .u8 X2.kind,.string X2.rat,.string X2.name,.int .i64 X2.date,.slice p2 q2 k2]] W (fun e w'=>∃g',e=.returned (.agg #[.int .u8 7,.string ⟨#[]⟩,.string ⟨#[]⟩,.int .i64 0,.slice (some ⟨g',0,none⟩) 2 2])∧(∀W',Below w'.heap.size w' W'→ExAt (NN+1) W' [.int .u8 7,.string ⟨#[]⟩,.string ⟨#[]⟩,.int .i64 0,.slice (some ⟨g',0,none⟩) 2 2] (tEx2 7 X1 X2))∧Below W.heap.size W w')):=Z9 (fun W hW=>zfv 7 W (fun W' hW'=>(HY1.out W' (hW.trans (hW'.mono hW.size))).up (by omega)) (fun W' hW'=>(HY2.out W' (hW.trans (hW'.mono hW.size))).up (by omega)))
 have HS5:Hid (∀(W:World)(g:Nat),Below V.heap.size V W→(∀W',Below W.heap.size W W'→ExAt (NN+1) W' [.int .u8 7,.string ⟨#[]⟩,.string ⟨#[]⟩,.int .i64 0,.slice (some ⟨g,0,none⟩) 2 2] (tEx2 7 X1 X2))→Calls Tryz.prog 42 #[.string (⟨#[109,97,120,40]⟩ ++ a ++ ⟨#[10,44]⟩ ++ b ++ ⟨#[10,41]⟩),.agg #[.int .u8 7,.string ⟨#[]⟩,.string ⟨#[]⟩,.int .i64 0,.slice (some ⟨g,0,none⟩) 2 2]] W (BelB W true)):=Z9 (fun W g hW hg=>by
  obtain⟨zs,ZO,ZA⟩:=z13 HLZ.out.1 HLZ.out.2.1 HSX.out.1 HSX.out.2.1 HLL.out.1 HLL.out.2.1
  exact zg1 HGT.out.1 (⟨#[109,97,120,40]⟩ ++ a ++ ⟨#[10,44]⟩ ++ b ++ ⟨#[10,41]⟩) (tEx2 7 X1 X2) (NN+1) (some ⟨g,0,none⟩) 2 2 W (by rw[zbs,zbs,zbs,zbs];show 4+a.size+2+b.size+2≤20000;have:=HGT.out.2.2;omega) (zs:=zs) (by rw[z9y];exact ZO) ZA (hg W (Below.refl _ _)) (HVW.out W hW))
 go_region_held3 (fun W=>W.cell? ⟨u1.heap.size,0,none⟩=some (.int .u8 X1.kind)∧W.cell? ⟨u1.heap.size,1,none⟩=some (.string X1.rat)∧W.cell? ⟨u1.heap.size,2,none⟩=some (.string X1.name)∧W.cell? ⟨u1.heap.size,3,none⟩=some (.int .i64 X1.date)∧W.cell? ⟨u1.heap.size,4,none⟩=some (.slice p1 q1 k1)∧W.cell? ⟨u2.heap.size,0,none⟩=some (.int .u8 X2.kind)∧W.cell? ⟨u2.heap.size,1,none⟩=some (.string X2.rat)∧W.cell? ⟨u2.heap.size,2,none⟩=some (.string X2.name)∧W.cell? ⟨u2.heap.size,3,none⟩=some (.int .i64 X2.date)∧W.cell? ⟨u2.heap.size,4,none⟩=some (.slice p2 q2 k2)∧W.cell? ⟨u3.heap.size,0,none⟩=some (.int .u8 X3.kind)∧W.cell? ⟨u3.heap.size,1,none⟩=some (.string X3.rat)∧W.cell? ⟨u3.heap.size,2,none⟩=some (.string X3.name)∧W.cell? ⟨u3.heap.size,3,none⟩=some (.int .i64 X3.date)∧W.cell? ⟨u3.heap.size,4,none⟩=some (.slice p3 q3 k3))
  ((first |with_reducible exact HSB.out _ HC.out |with_reducible exact HSB.out _ HC0.out))
  ((first
   |(
    go_at_call 34
    with_reducible refine(HP1.out _ HC.out).mono ?_
    rintro e u ⟨g7,rfl,hg,hb⟩;have HC:=Z9 (HC.out.trans (hb.mono HC.out.size));have Hg7:=Z9 hg
    clear hb hg)
   |(
    go_at_call 34
    with_reducible refine(HP2.out _ g7 HC.out (Hg7.out)).mono ?_
    rintro e u ⟨g8,rfl,hg,hb⟩;have HC:=Z9 (HC.out.trans (hb.mono HC.out.size));have Hg8:=Z9 hg
    clear hb hg)
   |(
    go_at_call 42
    with_reducible refine(HS3.out _ g8 HC.out (Hg8.out)).mono ?_
    rintro e u ⟨rfl,hb⟩;have HC:=Z9 (HC.out.trans (hb.mono HC.out.size))
    clear hb)
   |(
    go_at_call 34
    with_reducible refine(HP4.out _ HC.out).mono ?_
    rintro e u ⟨g9,rfl,hg,hb⟩;have HC:=Z9 (HC.out.trans (hb.mono HC.out.size));have Hg9:=Z9 hg
    clear hb hg)
   |(
    go_at_call 42
    with_reducible refine(HS5.out _ g9 HC.out (Hg9.out)).mono ?_
    rintro e u ⟨rfl,hb⟩;have HC:=Z9 (HC.out.trans (hb.mono HC.out.size))
    clear hb)))
 have HF:=Z9 (HB4.out.trans (HC.out.mono HB4.out.size));go_wp2_with fail;go_ret;exact⟨rfl,HF.out⟩
theorem z14{Wg:World}(hs:zb6 Wg)(Zi:Hid (∀W,Below Wg.heap.size Wg W→Calls Tryz.prog 29 #[] W (BelB W true)))(a b c:ByteArray)(w:World)(hb:Below Wg.heap.size Wg w) :
 Calls Tryz.prog 10 #[.string a,.string b,.string c] w (BelB w true):=by
 by_cases h:a.size≤3000∧b.size≤3000∧c.size≤3000
 ·exact z8e hs Zi a b c w hb h.1 h.2.1 h.2.2
 have HAL2:=Z9 (Zi.out w hb);clear hs Zi hb
 by_cases h1:a.size≤3000
 ·have l1:decide ((3000:Int)<(a.size:Int))=false:=decide_eq_false (by omega)
  by_cases h2:b.size≤3000
  ·have l2:decide ((3000:Int)<(b.size:Int))=false:=decide_eq_false (by omega)
   have l3:decide ((3000:Int)<(c.size:Int))=true:=decide_eq_true (by omega);clear h h1 h2;go_enter Tryz.func10,Tryz.ntmps10;go_wp2_with fail;refine HAL2.out.mono ?_;rintro e w1 ⟨rfl,hb⟩;have ZT:=Z9 hb;clear hb;go_wp2_with fail;go_ret;exact⟨rfl,ZT.out⟩
  ·have l2:decide ((3000:Int)<(b.size:Int))=true:=decide_eq_true (by omega)
   clear h h1 h2;go_enter Tryz.func10,Tryz.ntmps10;go_wp2_with fail;refine HAL2.out.mono ?_;rintro e w1 ⟨rfl,hb⟩;have ZT:=Z9 hb;clear hb;go_wp2_with fail;go_ret;exact⟨rfl,ZT.out⟩
 ·have l1:decide ((3000:Int)<(a.size:Int))=true:=decide_eq_true (by omega)
  clear h h1;go_enter Tryz.func10,Tryz.ntmps10;go_wp2_with fail;refine HAL2.out.mono ?_;rintro e w1 ⟨rfl,hb⟩;have ZT:=Z9 hb;clear hb;go_wp2_with fail;go_ret;exact⟨rfl,ZT.out⟩
theorem zuk(a b c:ByteArray)(W:World)(hs:zb6 W)(hp:zcr W):Calls Tryz.prog 10 #[.string a,.string b,.string c] W (BelB W true) :=
 z14 hs (Z9 fun W' hW=>zsb hs hp W' hW) a b c W (Below.refl _ _)
end Go.Proofs.YtkobkpepgdddeaaGreatDoor
