/-
  Plain reading: the bound of its depth does not matter where it is greater than the number of tokens; what follows does not matter but at the end of a sum or of dates. No condition.
-/
import Derived.Test.YtkobkpepgdddeaaGreatDoorYah
import Derived.Test.YtkobkpepgdddeaaGreatDoorYbc
import Derived.Test.YtkobkpepgdddeaaGreatDoorYaj
import Derived.Test.YtkobkpepgdddeaaGreatDoorYai
import Derived.Test.YtkobkpepgdddeaaGreatDoorYak
import Derived.Test.YtkobkpepgdddeaaGreatDoorYbb
import Derived.Test.YtkobkpepgdddeaaGreatDoorYal
import Derived.Test.YtkobkpepgdddeaaGreatDoorYba
namespace Go.Proofs.YtkobkpepgdddeaaGreatDoor
open Go.RowKit
set_option maxHeartbeats 16000000
set_option maxRecDepth 100000
def Stp(X:List Tk):Prop:=tIs 5 [42] X=false∧tIs 5 [43] X=false∧tIs 5 [45] X=false∧tIs 5 [44] X=false
def Ext{α:Type}(f:List Tk→Rd α):Prop:=∀l X a l',Stp X→f l=.ok a l'→f (l ++ X)=.ok a (l' ++ X)
theorem ztz{α β:Type}{r r':Rd α}{g:α→List Tk→Rd β}{b:β}{l' X:List Tk}(hX:Stp X)(hr:∀a l,r=.ok a l→r'=.ok a (l ++ X))(hg:∀a,Ext (g a))(h:r.bind g=.ok b l'):r'.bind g=.ok b (l' ++ X):=by
 obtain⟨a,l1,e1,e2⟩:=zak h;rw[hr a l1 e1];exact hg a l1 X b l' hX e2
theorem Ext.bind{α β:Type}{f:List Tk→Rd α}{g:α→List Tk→Rd β}(hf:Ext f)(hg:∀a,Ext (g a)):Ext fun l=>(f l).bind g:=fun l X _b _l' hX h=>ztz hX (fun a l1 e=>hf l X a l1 hX e) hg h
theorem Ext.ok{α:Type}(a:α):Ext fun l=>Rd.ok a l:=fun l X b l' _ h=>by injection h with h1 h2;subst h1 h2;rfl
theorem zcb(k:Int)(s:List UInt8):Ext (tEat k s):=fun l X a l' _ h=>by
 cases l with
 |nil=>cases h
 |cons t r =>
  unfold tEat at h ⊢;have e:tIs k s (t :: r ++ X)=tIs k s (t :: r):=rfl;rw[e]
  split at h
  ·rename_i h1;rw[if_pos h1];injection h with _ h;subst h;rfl
  ·cases h
theorem zm8(k:Int):Ext (tOf k):=fun l X a l' _ h=>by
 cases l with
 |nil=>cases h
 |cons t r =>
  show(if t.kind=k then Rd.ok t (r ++ X)else _)=_
  change (if t.kind=k then Rd.ok t r else _)=_ at h
  split at h
  ·rename_i h1;rw[if_pos h1];injection h with h h2;subst h h2;rfl
  ·cases h
theorem tName_ext:Ext zdc:=fun l X a l' _ h=>by
 cases l with
 |nil=>cases h
 |cons t r =>
  show(if t.kind=2∨(t.kind=1∧kwB t.text.data.toList=false)then Rd.ok t.text (r ++ X)else _)=_
  change (if t.kind=2∨(t.kind=1∧kwB t.text.data.toList=false)then Rd.ok t.text r else _)=_ at h
  split at h
  ·rename_i h1;rw[if_pos h1];injection h with h h2;subst h h2;rfl
  ·cases h
theorem zl4:∀(ps:List RdX),(∀p ∈ ps,Ext p)→∀c,Ext (zcg ps c)
 | [],_,_=>Ext.ok _
 |p :: ps,hp,c=>fun l X a l' hX h=>by
  unfold zcg at h ⊢;refine ztz hX (fun u l1 e => ?_) (fun _=>(hp p (by simp)).bind fun x=>(zl4 ps (fun q hq=>hp q (by simp[hq])) true).bind fun xs=>Ext.ok _) h
  cases c with
  |true=>exact zcb _ _ l X u l1 hX e
  |false =>
   have e2:Rd.ok () l=Rd.ok u l1:=e
   injection e2 with _ e2;subst e2;rfl
theorem zdw(k:Int)(ps:List RdX)(hp:∀p ∈ ps,Ext p):Ext (zby k ps) :=
 (zcb _ _).bind fun _=>(zl4 ps hp _).bind fun _=>(zcb _ _).bind fun _=>Ext.ok _
theorem z1y:Ext tFix:=tName_ext.bind fun n=>(zcb _ _).bind fun _=>fun l X a l' hX h=>by
 cases l with
 |nil=>cases h
 |cons t r =>
  have e:tIs 1 [110,111,119] (t :: r ++ X)=tIs 1 [110,111,119] (t :: r):=rfl;rw[e]
  split at h
  ·rename_i h1;rw[if_pos h1];injection h with h h2;subst h h2;rfl
  ·rename_i h1
   rw[if_neg h1];exact((zm8 4).bind fun t=>Ext.ok (Ex.mk 2 tE0 n t.date [])) (t :: r) X a l' hX h
theorem zue(S:RdX)(hS:Ext S):Ext (zdl S):=fun l X a l' hX h=>by
 cases l with
 |nil=>cases h
 |cons t r =>
  unfold zdl at h ⊢;have e:tIs 5 [40] (t :: r ++ X)=tIs 5 [40] (t :: r):=rfl;rw[e]
  split at h
  ·rename_i h1
   rw[if_pos h1];exact(hS.bind fun x=>(zcb 5 [41]).bind fun _=>Ext.ok x) r X a l' hX h
  ·rename_i h1
   rw[if_neg h1]
   show(if t.kind=3 then Rd.ok (Ex.mk 1 t.rat tE0 0 []) (r ++ X)else tFix (t :: r ++ X))=_
   change (if t.kind=3 then Rd.ok (Ex.mk 1 t.rat tE0 0 []) r else tFix (t :: r))=_ at h
   split at h
   ·rename_i h2;rw[if_pos h2];injection h with h h2;subst h h2;rfl
   ·rename_i h2;rw[if_neg h2];exact z1y _ X a l' hX h
theorem zqs(S T:RdX)(hS:Ext S)(hT:Ext T):Ext (zbu S T):=fun l X a l' hX h=>by
 have h2:∀p ∈ [S,S],Ext p:=by simp[hS]
 have h3:∀p ∈ [T,S,S],Ext p:=by simp[hS,hT]
 cases l with
 |nil=>cases h
 |cons t r =>
  unfold zbu at h ⊢;have e:zap (t :: r ++ X)=zap (t :: r):=rfl;rw[e]
  split at h
  ·rename_i h1;rw[if_pos h1];exact zdw _ _ h2 r X a l' hX h
  rename_i n1;rw[if_neg n1]
  split at h
  ·rename_i h1;rw[if_pos h1];exact zdw _ _ h2 r X a l' hX h
  rename_i n2;rw[if_neg n2]
  split at h
  ·rename_i h1;rw[if_pos h1];exact zdw _ _ h3 r X a l' hX h
  rename_i n3;rw[if_neg n3]
  split at h
  ·rename_i h1;rw[if_pos h1];exact zue S hS (t :: r) X a l' hX h
  ·cases h
theorem zop(F:RdX)(hF:Ext F):∀(n:Nat)(x:Ex),Ext (zet F n x)
 |0,_=>fun l X a l' _ h=>by cases h
 |n+1,x=>fun l X a l' hX h=>by
  unfold zet at h ⊢
  cases l with
  |nil =>
   rw[List.nil_append,if_neg (by rw[hX.1];decide)];rw[if_neg (by decide)]at h
   injection h with h h2;subst h h2;rfl
  |cons t r =>
   have e:tIs 5 [42] (t :: r ++ X)=tIs 5 [42] (t :: r):=rfl;rw[e]
   split at h
   ·rename_i h1;rw[if_pos h1];exact(hF.bind fun y=>zop F hF n _) r X a l' hX h
   ·rename_i h1;rw[if_neg h1];injection h with h h2;subst h h2;rfl
theorem zke(F:RdX)(hF:Ext F)(n:Nat):Ext (zda F n):=hF.bind fun x=>zop F hF n x
theorem zna(F:RdX)(hF:Ext F)(m:Nat):∀(n:Nat)(x:Ex),Ext (tAdd F m n x)
 |0,_=>fun l X a l' _ h=>by cases h
 |n+1,x=>fun l X a l' hX h=>by
  unfold tAdd at h ⊢
  cases l with
  |nil =>
   rw[List.nil_append,if_neg (by rw[hX.2.1];decide),if_neg (by rw[hX.2.2.1];decide)];rw[if_neg (by decide),if_neg (by decide)]at h
   injection h with h h2;subst h h2;rfl
  |cons t r =>
   have e:tIs 5 [43] (t :: r ++ X)=tIs 5 [43] (t :: r):=rfl;have e2:tIs 5 [45] (t :: r ++ X)=tIs 5 [45] (t :: r):=rfl;rw[e,e2]
   split at h
   ·rename_i h1;rw[if_pos h1];exact((zke F hF m).bind fun y=>zna F hF m n _) r X a l' hX h
   rename_i h1;rw[if_neg h1]
   split at h
   ·rename_i h1;rw[if_pos h1];exact((zke F hF m).bind fun y=>zna F hF m n _) r X a l' hX h
   ·rename_i h1;rw[if_neg h1];injection h with h h2;subst h h2;rfl
theorem z1t(F:RdX)(hF:Ext F)(n:Nat):Ext (tSum F n):=(zke F hF n).bind fun x=>zna F hF n n x
theorem zub(S T:RdX)(hS:Ext S)(hT:Ext T):Ext (zdk S T):=fun l X a l' hX h=>by
 have h2:∀p ∈ [S,S],Ext p:=by simp[hS]
 have h3:∀p ∈ [T,T],Ext p:=by simp[hT]
 have h4:∀p ∈ [T],Ext p:=by simp[hT]
 cases l with
 |nil=>cases h
 |cons t r =>
  unfold zdk at h ⊢;have e:zap (t :: r ++ X)=zap (t :: r):=rfl;rw[e]
  split at h
  ·rename_i h1;rw[if_pos h1];exact zdw _ _ h2 r X a l' hX h
  rename_i n1;rw[if_neg n1]
  split at h
  ·rename_i h1;rw[if_pos h1];exact zdw _ _ h2 r X a l' hX h
  rename_i n2;rw[if_neg n2]
  split at h
  ·rename_i h1;rw[if_pos h1];exact zdw _ _ h3 r X a l' hX h
  rename_i n3;rw[if_neg n3]
  split at h
  ·rename_i h1;rw[if_pos h1];exact zdw _ _ h3 r X a l' hX h
  rename_i n4;rw[if_neg n4]
  split at h
  ·rename_i h1;rw[if_pos h1];exact zdw _ _ h4 r X a l' hX h
  ·cases h
theorem zi1:∀(n:Nat)(b:Bool),Ext (rdE n b)
 |0,_=>fun l X a l' _ h=>by cases h
 |n+1,true=>z1t _ (zqs _ _ (zi1 n true) (zi1 n false)) _
 |n+1,false=>zub _ _ (zi1 n true) (zi1 n false)
theorem zot:∀n,Ext (zfr n)
 |0=>fun l X a l' _ h=>by cases h
 |n+1=>fun l X a l' hX h=>by
  unfold zfr at h ⊢
  cases l with
  |nil =>
   rw[List.nil_append,if_neg (by rw[hX.2.2.2];decide)];rw[if_neg (by decide)]at h
   injection h with h h2;subst h h2;rfl
  |cons t r =>
   have e:tIs 5 [44] (t :: r ++ X)=tIs 5 [44] (t :: r):=rfl;rw[e]
   split at h
   ·rename_i h1;rw[if_pos h1];exact((zm8 4).bind fun t=>(zot n).bind fun ds=>Ext.ok (t.date :: ds)) r X a l' hX h
   ·rename_i h1;rw[if_neg h1];injection h with h h2;subst h h2;rfl
theorem zuh(n:Nat):Ext (zb9 n):=(zm8 4).bind fun _t=>(zot n).bind fun _ds=>Ext.ok _
theorem ze9(C:RdC)(hC:Ext C):Ext (zbh C):=(zcb _ _).bind fun _=>hC.bind fun _c=>(zcb _ _).bind fun _=>Ext.ok _
theorem zsp(C:RdC)(hC:Ext C):Ext (tTwo C):=(ze9 C hC).bind fun _a=>(zcb _ _).bind fun _=>(ze9 C hC).bind fun _b=>Ext.ok _
theorem tBy_ext:Ext tBy:=tName_ext.bind fun _=>(zcb _ _).bind fun _=>tName_ext.bind fun _=>Ext.ok _
theorem zhm(C:RdC)(hC:Ext C)(n:Nat):Ext (zb0 C n):=(zcb _ _).bind fun _=>(zuh n).bind fun _=>(ze9 C hC).bind fun _=>Ext.ok _
theorem z1w(S:RdX)(hS:Ext S):Ext (tPay S) :=
 tName_ext.bind fun _=>(zcb _ _).bind fun _=>hS.bind fun _=>tName_ext.bind fun _=>(zcb _ _).bind fun _=>tName_ext.bind fun _=>Ext.ok _
theorem zw2(C:RdC)(hC:Ext C):Ext (zfs C) :=
 (zcb _ _).bind fun _=>hC.bind fun _=>(zcb _ _).bind fun _=>hC.bind fun _=>(zcb _ _).bind fun _=>Ext.ok _
theorem z11(S T:RdX)(C:RdC)(hS:Ext S)(hT:Ext T)(hC:Ext C)(n:Nat):Ext (tCon S T C n):=fun l X a l' hX h=>by
 cases l with
 |nil=>cases h
 |cons t r =>
  unfold tCon at h ⊢;have e:zap (t :: r ++ X)=zap (t :: r):=rfl;rw[e]
  split at h
  ·rename_i h1;rw[if_pos h1];exact z1w S hS (t :: r) X a l' hX h
  rename_i n0;rw[if_neg n0]
  split at h
  ·rename_i h1;rw[if_pos h1];exact Ext.ok _ r X a l' hX h
  rename_i n1;rw[if_neg n1]
  split at h
  ·rename_i h1;rw[if_pos h1];exact zw2 C hC r X a l' hX h
  rename_i n2;rw[if_neg n2]
  split at h
  ·rename_i h1;rw[if_pos h1];exact(hS.bind fun x=>(ze9 C hC).bind fun _=>Ext.ok _) r X a l' hX h
  rename_i n3;rw[if_neg n3]
  split at h
  ·rename_i h1;rw[if_pos h1];exact(hT.bind fun x=>(zsp C hC).bind fun _=>Ext.ok _) r X a l' hX h
  rename_i n4;rw[if_neg n4]
  split at h
  ·rename_i h1;rw[if_pos h1];exact((zm8 4).bind fun x=>(ze9 C hC).bind fun _=>Ext.ok _) r X a l' hX h
  rename_i n5;rw[if_neg n5]
  split at h
  ·rename_i h1;rw[if_pos h1];exact(tBy_ext.bind fun x=>(zsp C hC).bind fun _=>Ext.ok _) r X a l' hX h
  rename_i n6;rw[if_neg n6]
  split at h
  ·rename_i h1;rw[if_pos h1];exact(tBy_ext.bind fun x=>(zhm C hC n).bind fun _=>Ext.ok _) r X a l' hX h
  rename_i n7;rw[if_neg n7]
  split at h
  ·rename_i h1;rw[if_pos h1];exact(hT.bind fun x=>(zhm C hC n).bind fun _=>Ext.ok _) r X a l' hX h
  rename_i n8;rw[if_neg n8]
  split at h
  ·rename_i h1;rw[if_pos h1];exact(hT.bind fun x=>(zhm C hC n).bind fun _=>Ext.ok _) r X a l' hX h
  ·cases h
theorem zxx:∀n,Ext (rdC n)
 |0=>fun l X a l' _ h=>by cases h
 |n+1=>z11 _ _ _ (zi1 _ true) (zi1 _ false) (zxx n) _
theorem z49{n:Nat}{w:World}{g:Nat}{y:Ct}{eap dap ap:Option Addr}{elp ecp dlp dcp lenp capp:Nat}(hg:w.heap[g]?=some (.cells #[.int .u8 y.kind,.string y.frm,.string y.too,.string y.name,.int .u8 y.expr.kind,.string y.expr.rat,.string y.expr.name,.int .i64 y.expr.date,.slice eap elp ecp,.int .i64 y.date,.slice dap dlp dcp,.slice ap lenp capp] 40))(hy:CtAt n w [.int .u8 y.kind,.string y.frm,.string y.too,.string y.name,.int .u8 y.expr.kind,.string y.expr.rat,.string y.expr.name,.int .i64 y.expr.date,.slice eap elp ecp,.int .i64 y.date,.slice dap dlp dcp,.slice ap lenp capp] y)(k d:Int)(f t s:ByteArray) :
 CtAt (n+1) w [.int .u8 k,.string f,.string t,.string s,.int .u8 0,.string ⟨#[]⟩,.string ⟨#[]⟩,.int .i64 0,.slice none 0 0,.int .i64 d,.slice none 0 0,.slice (some ⟨g,0,none⟩) 1 1] (.mk k f t s tX0 d [] [y]):=by
 refine⟨none,0,0,none,0,0,some ⟨g,0,none⟩,1,1,rfl,zem n w 0 tE0 tE0 0,⟨rfl,.inl rfl⟩,rfl,.inr ⟨g,0,rfl,(Z8 hg),fun i hi => ?_⟩⟩;obtain rfl:i=0:=by have:i<1:=hi;omega
 refine⟨_,fun j hj => ?_,hy⟩;rw[Lib.cell_of_heap hg,Nat.zero_mul,Nat.zero_add];simp
theorem LZ.blank{c:UInt8}{l:List UInt8}{zs:List Tk}(hc:blQ c=true)(h:LZ l zs):LZ (c :: l) zs:=by
 obtain⟨ts,h1,h2⟩:=h.at (0+1);have:=zih (off:=0) (k:=1) (l:=c :: l) (by simp) (by rw[zh9 hc];simp;omega);exact⟨ts,this.trans h1,h2⟩
theorem z8u{s:ByteArray}{x:Ct}{i:Int}(h:zb2 s=(some x,i,0)):∃zs,LZ s.data.toList zs∧rdC 20001 zs=.ok x []∧chkC x=0:=by
 unfold zb2 at h
 cases hl:lexL 0 s.data.toList with
 |no j er=>rw[hl]at h;injection h with h _;cases h
 |yes ts =>
  rw[hl]at h;dsimp only at h
  cases hw:rdC 20001 ts with
  |no l =>
   rw[hw]at h
   cases l with
   |nil=>injection h with h _;cases h
   |cons t l=>injection h with h _;cases h
  |ok y l =>
   rw[hw]at h
   cases l with
   |cons t l=>injection h with h _;cases h
   |nil =>
    dsimp only at h
    by_cases hc:chkC y=0
    ·rw[if_pos hc]at h
     injection h with h1 h2
     injection h1 with h1
     subst h1;refine⟨ts.map zpT,⟨ts,hl,rfl⟩,?_,hc⟩;rw[rdC0,hw];rfl
    ·rw[if_neg hc]at h;injection h with h _;cases h
theorem z22{s:ByteArray}{zs:List Tk}{x:Ct}(h:LZ s.data.toList zs)(hr:rdC 20001 zs=.ok x []):zb2 s=if chkC x=0 then(some x,(s.size:Int),0)else(none,(s.size:Int),chkC x):=by
 obtain⟨ts,h1,h2⟩:=h;have h3:=rdC0 20001 ts;rw[h2,hr]at h3;unfold zb2;rw[h1];dsimp only
 cases hw:rdC 20001 ts with
 |no l=>rw[hw]at h3;cases h3
 |ok y l =>
  rw[hw]at h3
  injection h3 with h4 h5
  subst h4
  have h6:l=[]:=by
   cases l with
   |nil=>rfl
   |cons t l=>cases h5
  subst h6;rfl
theorem yb9{s:ByteArray}{zs:List Tk}{x:Ct}(VT:s.size≤20000)(h:LZ s.data.toList zs)(hr:rdC 20001 zs=.ok x []):GdC x∧x.size≤40000:=by
 obtain⟨ts,h1,h2⟩:=h;have h3:=rdC0 20001 ts;rw[h2,hr]at h3;have bg:=zfh _ 0 _ (Nat.le.refl) h1;have hl:=zgn h1;rw[zab]at hl
 cases hw:rdC 20001 ts with
 |no l=>rw[hw]at h3;cases h3
 |ok y l =>
  rw[hw]at h3
  injection h3 with h4 h5
  subst h4;have:=zs2 20001 ts bg (by omega) _ l hw;exact⟨this.1,by omega⟩
theorem zvs{x:Ct}(hg:GdC x)(hc:chkC x=0):x.size≤1000∧∃d,CSm d x:=by
 have hz:x.csz≤500:=by
  unfold chkC at hc
  split at hc
  ·cases hc
  ·omega
 have h2:=zn2 x;obtain⟨d,hd,_⟩:=hg;exact⟨by omega,501,CSl.few hd hz (by decide)⟩
def CX(zs:List Tk)(c:Ct):Prop:=∀n,zs.length<n→rdC n zs=.ok c []
theorem CX.of{zs:List Tk}{c:Ct}{n:Nat}(h:rdC n zs=.ok c [])(hn:zs.length<n):CX zs c:=fun m hm=>(zhq m n zs hm hn).trans h
theorem CX.ext{zs:List Tk}{c:Ct}(h:CX zs c){X:List Tk}(hX:Stp X){n:Nat}(hn:zs.length<n):rdC n (zs ++ X)=.ok c X:=by
 have:=zxx n zs X c [] hX (h n hn);simpa using this
theorem zw7{c:UInt8}(h:c≠42∧c≠43∧c≠45∧c≠44)(X:List Tk):Stp (zmk c :: X):=by
 refine⟨?_,?_,?_,?_⟩<;>rw[zed]<;>simp[h.1,h.2.1,h.2.2.1,h.2.2.2]
def zqu(s:List UInt8):Tk:=⟨2,bsL s,bsL [],0,0⟩
def zdt(d:Nat):Tk:=⟨4,bsL [],bsL [],(d:Int),0⟩
theorem zgw{w:List UInt8}(hk:kwB w=true)(X:List Tk):zap (zwd w :: X)=w:=by
 show(if (1:Int)=1∧kwB (bsL w).data.toList=true then(bsL w).data.toList else[])=_
 rw[zcz,if_pos ⟨rfl,hk⟩]
theorem zv6{w:List UInt8}(hk:kwB w=false)(X:List Tk):zap (zwd w :: X)=[]:=by
 show(if (1:Int)=1∧kwB (bsL w).data.toList=true then(bsL w).data.toList else[])=_
 rw[zcz,hk,if_neg (by simp)]
theorem zj8(w:List UInt8)(X:List Tk):tEat 1 w (zwd w :: X)=.ok () X:=zgz (by
 show(decide ((1:Int)=1) && ((bsL w).data.toList == w))=true
 rw[zcz];simp)
theorem zj9(c:UInt8)(X:List Tk):tEat 5 [c] (zmk c :: X)=.ok () X:=zgz (by rw[zed];simp)
theorem zjn{w:List UInt8}(hk:kwB w=false)(X:List Tk):zdc (zwd w :: X)=.ok (bsL w) X:=if_pos (.inr ⟨rfl,hk⟩)
theorem z1e(w:List UInt8)(X:List Tk):zdc (zqu w :: X)=.ok (bsL w) X:=by
 show(if (2:Int)=2∨((2:Int)=1∧kwB (bsL w).data.toList=false)then Rd.ok (bsL w) X else Rd.no (zqu w :: X))=_
 exact if_pos (.inl rfl)
theorem z6r(d:Nat)(X:List Tk):tOf 4 (zdt d :: X)=.ok (zdt d) X:=by
 show(if (4:Int)=4 then Rd.ok (zdt d) X else Rd.no (zdt d :: X))=_
 exact if_pos rfl
theorem zw8(w:List UInt8)(X:List Tk):StpE (zwd w :: X):=⟨rfl,rfl,rfl⟩
theorem zik{za X:List Tk}{c:Ct}{m:Nat}(ha:CX za c)(hn:za.length<m):zbh (rdC m) (zmk 123 :: (za ++ zmk 125 :: X))=.ok c X:=by
 unfold zbh;rw[zj9,Rd.bind_ok,ha.ext (zw7 (by decide) _) hn,Rd.bind_ok,zj9,Rd.bind_ok]
theorem z6t{za zb X:List Tk}{c d:Ct}{m:Nat}(ha:CX za c)(hb:CX zb d)(hn:za.length<m)(hm:zb.length<m) :
 tTwo (rdC m) (zmk 123 :: (za ++ zmk 125 :: zwd [101,108,115,101] :: zmk 123 :: (zb ++ zmk 125 :: X)))=.ok [c,d] X:=by
 unfold tTwo;rw[zik ha hn,Rd.bind_ok,zj8,Rd.bind_ok,zik hb hm,Rd.bind_ok]
theorem zz9{za X:List Tk}{c:Ct}{m:Nat}(t:Nat)(ha:CX za c)(hn:za.length<m):zb0 (rdC m) (m+1) (zwd [111,110] :: zdt t :: zmk 123 :: (za ++ zmk 125 :: X))=.ok ([(t:Int)],c) X:=by
 unfold zb0;rw[zj8,Rd.bind_ok];unfold zb9;rw[z6r,Rd.bind_ok];unfold zfr;rw[zed,if_neg (by decide),Rd.bind_ok,Rd.bind_ok,zik ha hn,Rd.bind_ok];rfl
section
variable {za zb zx:List Tk} {c d:Ct} {x:Ex}
theorem yap(ha:CX za c)(hb:CX zb d):CX (zwd [98,111,116,104] :: zmk 123 :: (za ++ zmk 59 :: (zb ++ [zmk 125]))) (.mk 3 tE0 tE0 tE0 tX0 0 [] [c,d]):=fun n hn=>by
 obtain⟨m,rfl⟩:∃m,n=m+1:=⟨n-1,by omega⟩
 simp only[List.length_cons,List.length_append,List.length_nil]at hn
 show tCon (rdE (m+1) true) (rdE (m+1) false) (rdC m) (m+1) _=_
 unfold tCon;rw[zgw (by decide),if_neg (by decide),if_neg (by decide),if_pos rfl]
 show zfs (rdC m) (zmk 123 :: _)=_
 unfold zfs;rw[zj9,Rd.bind_ok,ha.ext (zw7 (by decide) _) (by omega),Rd.bind_ok,zj9,Rd.bind_ok,hb.ext (zw7 (by decide) _) (by omega),Rd.bind_ok,zj9,Rd.bind_ok]
theorem yao(ha:CX za c)(hb:CX zb d):CX (zwd [99,104,111,105,99,101] :: zqu [111,110] :: zwd [98,121] :: zwd [65] :: zmk 123 :: (za ++ zmk 125 :: zwd [101,108,115,101] :: zmk 123 :: (zb ++ [zmk 125]))) (.mk 7 (bsL [65]) tE0 (bsL [111,110]) tX0 0 [] [c,d]):=fun n hn=>by
 obtain⟨m,rfl⟩:∃m,n=m+1:=⟨n-1,by omega⟩
 simp only[List.length_cons,List.length_append,List.length_nil]at hn
 show tCon (rdE (m+1) true) (rdE (m+1) false) (rdC m) (m+1) _=_
 unfold tCon;rw[zgw (by decide),if_neg (by decide),if_neg (by decide),if_neg (by decide),if_neg (by decide),if_neg (by decide),if_neg (by decide),if_pos rfl]
 show zix (rdC m) (zqu [111,110] :: _)=_
 unfold zix tBy;rw[z1e,Rd.bind_ok,zj8,Rd.bind_ok,zjn (by decide),Rd.bind_ok,Rd.bind_ok,z6t ha hb (by omega) (by omega),Rd.bind_ok]
theorem ydv(t:Nat)(ha:CX za c):CX (zwd [111,110] :: zdt t :: zmk 123 :: (za ++ [zmk 125])) (.mk 6 tE0 tE0 tE0 tX0 (t:Int) [] [c]):=fun n hn=>by
 obtain⟨m,rfl⟩:∃m,n=m+1:=⟨n-1,by omega⟩
 simp only[List.length_cons,List.length_append,List.length_nil]at hn
 show tCon (rdE (m+1) true) (rdE (m+1) false) (rdC m) (m+1) _=_
 unfold tCon;rw[zgw (by decide),if_neg (by decide),if_neg (by decide),if_neg (by decide),if_neg (by decide),if_neg (by decide),if_pos rfl]
 show tOn (rdC m) (zdt t :: _)=_
 unfold tOn;rw[z6r,Rd.bind_ok,zik ha (by omega),Rd.bind_ok];rfl
theorem z48(hx:SX true zx x)(ha:CX za c):CX (zwd [115,99,97,108,101] :: (zx ++ zmk 123 :: (za ++ [zmk 125]))) (.mk 4 tE0 tE0 tE0 x 0 [] [c]):=fun n hn=>by
 obtain⟨m,rfl⟩:∃m,n=m+1:=⟨n-1,by omega⟩
 simp only[List.length_cons,List.length_append,List.length_nil]at hn
 show tCon (rdE (m+1) true) (rdE (m+1) false) (rdC m) (m+1) _=_
 unfold tCon;rw[zgw (by decide),if_neg (by decide),if_neg (by decide),if_neg (by decide),if_pos rfl]
 show zge (rdE (m+1) true) (rdC m) (zx ++ _)=_
 unfold zge;rw[hx.ext (zkk (by decide) _) (by omega),Rd.bind_ok,zik ha (by omega),Rd.bind_ok]
theorem ycv(hx:SX true zx x):CX (zwd [65] :: zwd [112,97,121,115] :: (zx ++ zwd [69,85,82] :: zwd [116,111] :: [zwd [66]])) (.mk 2 (bsL [65]) (bsL [66]) (bsL [69,85,82]) x 0 [] []):=fun n hn=>by
 obtain⟨m,rfl⟩:∃m,n=m+1:=⟨n-1,by omega⟩
 simp only[List.length_cons,List.length_append,List.length_nil]at hn
 show tCon (rdE (m+1) true) (rdE (m+1) false) (rdC m) (m+1) _=_
 unfold tCon;rw[zv6 (by decide),if_pos rfl];unfold tPay;rw[zjn (by decide),Rd.bind_ok,zj8,Rd.bind_ok,hx.ext (zw8 _ _) (by omega),Rd.bind_ok,zjn (by decide),Rd.bind_ok,zj8,Rd.bind_ok,zjn (by decide),Rd.bind_ok]
theorem ydw(hx:SX false zx x)(ha:CX za c)(hb:CX zb d):CX (zwd [105,102] :: (zx ++ zmk 123 :: (za ++ zmk 125 :: zwd [101,108,115,101] :: zmk 123 :: (zb ++ [zmk 125])))) (.mk 5 tE0 tE0 tE0 x 0 [] [c,d]):=fun n hn=>by
 obtain⟨m,rfl⟩:∃m,n=m+1:=⟨n-1,by omega⟩
 simp only[List.length_cons,List.length_append,List.length_nil]at hn
 show tCon (rdE (m+1) true) (rdE (m+1) false) (rdC m) (m+1) _=_
 unfold tCon;rw[zgw (by decide),if_neg (by decide),if_neg (by decide),if_neg (by decide),if_neg (by decide),if_pos rfl]
 show tIf (rdE (m+1) false) (rdC m) (zx ++ _)=_
 unfold tIf;rw[hx.ext (zkk (by decide) _) (by omega),Rd.bind_ok,z6t ha hb (by omega) (by omega),Rd.bind_ok]
theorem yan(t:Nat)(hx:SX false zx x)(ha:CX za c):CX (zwd [119,104,101,110] :: (zx ++ zwd [111,110] :: zdt t :: zmk 123 :: (za ++ [zmk 125]))) (.mk 10 tE0 tE0 tE0 x 0 [(t:Int)] [c]):=fun n hn=>by
 obtain⟨m,rfl⟩:∃m,n=m+1:=⟨n-1,by omega⟩
 simp only[List.length_cons,List.length_append,List.length_nil]at hn
 show tCon (rdE (m+1) true) (rdE (m+1) false) (rdC m) (m+1) _=_
 unfold tCon;rw[zgw (by decide),if_neg (by decide),if_neg (by decide),if_neg (by decide),if_neg (by decide),if_neg (by decide),if_neg (by decide),if_neg (by decide),if_neg (by decide),if_neg (by decide),if_pos rfl]
 show zes 10 (rdE (m+1) false) (rdC m) (m+1) (zx ++ _)=_
 unfold zes;rw[hx.ext (zw8 _ _) (by omega),Rd.bind_ok,zz9 t ha (by omega),Rd.bind_ok]
end
theorem LZ.mk0{c:UInt8}{l:List UInt8}{zs:List Tk}(hc:mkB c=true)(h5:c≠45)(h:LZ l zs):LZ (c :: l) (zmk c :: zs):=LZ.mark hc (fun h=>absurd h.1 (by
 intro e;exact h5 (by rw[←UInt8.toNat_inj];exact e))) h
theorem LZ.wd{w l:List UInt8}{zs:List Tk}{d:UInt8}(hd:wdQ d=false)(hw:(match w with | []=>false |c :: r=>letB c && (spn wdQ r == r.length) && decide (w.length≤40))=true)(h:LZ (d :: l) zs):LZ (w ++ d :: l) (zwd w :: zs):=by
 cases w with
 |nil=>cases hw
 |cons c r =>
  dsimp only at hw;simp only[Bool.and_eq_true,beq_iff_eq,decide_eq_true_eq]at hw;exact LZ.word rfl hw.1.1 hw.1.2 hw.2 (.inr ⟨d,l,rfl,hd⟩) h
theorem LZ.on{l:List UInt8}{zs:List Tk}(h:LZ l zs):LZ (34 :: 111 :: 110 :: 34 :: l) (zqu [111,110] :: zs):=by
 refine LZ.tok (t:=⟨2,bsL [111,110],bsL [],0,0⟩) (n:=4) rfl ?_ rfl h;have hk:spn (fun x=>decide (x.toNat≠34)) (111 :: 110 :: 34 :: l)=2:=rfl;rw[zcn rfl,hk,if_pos ⟨by simp,by show nmB [111,110]=true;decide⟩];rfl
theorem ycu(l:List UInt8):datV (49 :: 57 :: 48 :: 48 :: 45 :: 48 :: 49 :: 45 :: 49 :: 49 :: l)=some 10:=by
 have e:datV (49 :: 57 :: 48 :: 48 :: 45 :: 48 :: 49 :: 45 :: 49 :: 49 :: l)=datV [49,57,48,48,45,48,49,45,49,49]:=by
  unfold datV;simp only[List.take_succ_cons,List.take_zero,List.drop_succ_cons,List.drop_zero]
 exact e.trans (by decide)
theorem LZ.day{l:List UInt8}{zs:List Tk}(h:LZ (32 :: l) zs):LZ (49 :: 57 :: 48 :: 48 :: 45 :: 48 :: 49 :: 45 :: 49 :: 49 :: 32 :: l) (zdt 10 :: zs):=by
 refine LZ.tok (t:=⟨4,bsL [],bsL [],10,0⟩) (n:=10) rfl ?_ rfl h;have h1:dayQ (49 :: 57 :: 48 :: 48 :: 45 :: 48 :: 49 :: 45 :: 49 :: 49 :: 32 :: l)=true:=rfl;have h2:endQ ((49 :: 57 :: 48 :: 48 :: 45 :: 48 :: 49 :: 45 :: 49 :: 49 :: 32 :: l:List UInt8).drop 10)=true:=rfl;unfold oneL;dsimp only;rw[if_neg (by decide),if_neg (by decide),if_pos h1,if_pos h2,ycu];rfl
section
variable {a b t:List UInt8} {za zb zt:List Tk}
theorem z9v(ha:LZ a za)(hb:LZ b zb):LZ ([98,111,116,104,32,123] ++ a ++ [10,59] ++ b ++ [10,125]) (zwd [98,111,116,104] :: zmk 123 :: (za ++ zmk 59 :: (zb ++ [zmk 125]))):=by
 have:=LZ.wd (w:=[98,111,116,104]) (d:=32) (by decide) (by decide) (LZ.blank (by decide) (LZ.mk0 (c:=123) (by decide) (by decide) (LZ.lf ha (LZ.mk0 (c:=59) (by decide) (by decide) (LZ.lf hb (LZ.mk0 (c:=125) (by decide) (by decide) LZ.nil))))));simpa using this
theorem z9t(ha:LZ a za)(hb:LZ b zb):LZ ([99,104,111,105,99,101,32,34,111,110,34,32,98,121,32,65,32,123] ++ a ++ [10,125,32,101,108,115,101,32,123] ++ b ++ [10,125])
 (zwd [99,104,111,105,99,101] :: zqu [111,110] :: zwd [98,121] :: zwd [65] :: zmk 123 :: (za ++ zmk 125 :: zwd [101,108,115,101] :: zmk 123 :: (zb ++ [zmk 125]))):=by
 have h2:=LZ.lf hb (LZ.mk0 (c:=125) (by decide) (by decide) LZ.nil);have h1:=LZ.lf ha (LZ.mk0 (c:=125) (by decide) (by decide) (LZ.blank (c:=32) (by decide) (LZ.wd (w:=[101,108,115,101]) (d:=32) (by decide) (by decide) (LZ.blank (by decide) (LZ.mk0 (c:=123) (by decide) (by decide) h2)))));have:=LZ.wd (w:=[99,104,111,105,99,101]) (d:=32) (by decide) (by decide) (LZ.blank (by decide) (LZ.on (LZ.blank (c:=32) (by decide) (LZ.wd (w:=[98,121]) (d:=32) (by decide) (by decide) (LZ.blank (by decide) (LZ.wd (w:=[65]) (d:=32) (by decide) (by decide) (LZ.blank (by decide) (LZ.mk0 (c:=123) (by decide) (by decide) h1))))))))
 simpa using this
theorem ydp(ha:LZ a za):LZ ([111,110,32,49,57,48,48,45,48,49,45,49,49,32,123] ++ a ++ [10,125]) (zwd [111,110] :: zdt 10 :: zmk 123 :: (za ++ [zmk 125])):=by
 have:=LZ.wd (w:=[111,110]) (d:=32) (by decide) (by decide) (LZ.blank (by decide) (LZ.day (LZ.blank (by decide) (LZ.mk0 (c:=123) (by decide) (by decide) (LZ.lf ha (LZ.mk0 (c:=125) (by decide) (by decide) LZ.nil))))));simpa using this
theorem z33(ht:LZ t zt)(ha:LZ a za):LZ ([115,99,97,108,101,32] ++ t ++ [10,123] ++ a ++ [10,125]) (zwd [115,99,97,108,101] :: (zt ++ zmk 123 :: (za ++ [zmk 125]))):=by
 have:=LZ.wd (w:=[115,99,97,108,101]) (d:=32) (by decide) (by decide) (LZ.blank (by decide) (LZ.lf ht (LZ.mk0 (c:=123) (by decide) (by decide) (LZ.lf ha (LZ.mk0 (c:=125) (by decide) (by decide) LZ.nil)))));simpa using this
theorem yca(ht:LZ t zt):LZ ([65,32,112,97,121,115,32] ++ t ++ [10,69,85,82,32,116,111,32,66]) (zwd [65] :: zwd [112,97,121,115] :: (zt ++ zwd [69,85,82] :: zwd [116,111] :: [zwd [66]])):=by
 have h0:LZ [66] [zwd [66]]:=by
  have:=LZ.word (w:=[66]) (l:=[]) (c:=66) (r:=[]) rfl (by decide) (by decide) (by decide) (.inl rfl) LZ.nil;simpa using this
 have h1:=LZ.lf ht (LZ.wd (w:=[69,85,82]) (d:=32) (by decide) (by decide) (LZ.blank (by decide) (LZ.wd (w:=[116,111]) (d:=32) (by decide) (by decide) (LZ.blank (by decide) h0))));have:=LZ.wd (w:=[65]) (d:=32) (by decide) (by decide) (LZ.blank (by decide) (LZ.wd (w:=[112,97,121,115]) (d:=32) (by decide) (by decide) (LZ.blank (by decide) h1)));simpa using this
theorem ydq(ht:LZ t zt)(ha:LZ a za)(hb:LZ b zb):LZ ([105,102,32] ++ t ++ [10,123] ++ a ++ [10,125,32,101,108,115,101,32,123] ++ b ++ [10,125])
 (zwd [105,102] :: (zt ++ zmk 123 :: (za ++ zmk 125 :: zwd [101,108,115,101] :: zmk 123 :: (zb ++ [zmk 125])))):=by
 have h2:=LZ.lf hb (LZ.mk0 (c:=125) (by decide) (by decide) LZ.nil);have h1:=LZ.lf ha (LZ.mk0 (c:=125) (by decide) (by decide) (LZ.blank (c:=32) (by decide) (LZ.wd (w:=[101,108,115,101]) (d:=32) (by decide) (by decide) (LZ.blank (by decide) (LZ.mk0 (c:=123) (by decide) (by decide) h2)))));have:=LZ.wd (w:=[105,102]) (d:=32) (by decide) (by decide) (LZ.blank (by decide) (LZ.lf ht (LZ.mk0 (c:=123) (by decide) (by decide) h1)));simpa using this
theorem z9s(ht:LZ t zt)(ha:LZ a za):LZ ([119,104,101,110,32] ++ t ++ [10,111,110,32,49,57,48,48,45,48,49,45,49,49,32,123] ++ a ++ [10,125]) (zwd [119,104,101,110] :: (zt ++ zwd [111,110] :: zdt 10 :: zmk 123 :: (za ++ [zmk 125]))):=by
 have h1:=LZ.wd (w:=[111,110]) (d:=32) (by decide) (by decide) (LZ.blank (by decide) (LZ.day (LZ.blank (by decide) (LZ.mk0 (c:=123) (by decide) (by decide) (LZ.lf ha (LZ.mk0 (c:=125) (by decide) (by decide) LZ.nil))))));have:=LZ.wd (w:=[119,104,101,110]) (d:=32) (by decide) (by decide) (LZ.blank (by decide) (LZ.lf ht h1));simpa using this
end
open Go.RowKit
abbrev eC(X:Ex)(p:Option Addr)(q k:Nat):List Value:=[.int .u8 X.kind,.string X.rat,.string X.name,.int .i64 X.date,.slice p q k]
abbrev eO(X:Ex)(p:Option Addr)(q k:Nat):Obj:=.cells #[.int .u8 X.kind,.string X.rat,.string X.name,.int .i64 X.date,.slice p q k] 25
abbrev cC(X:Ct)(ea da a:Option Addr)(el ec dl dc q k:Nat):List Value:=[.int .u8 X.kind,.string X.frm,.string X.too,.string X.name,.int .u8 X.expr.kind,.string X.expr.rat,.string X.expr.name,.int .i64 X.expr.date,.slice ea el ec,.int .i64 X.date,.slice da dl dc,.slice a q k]
abbrev cO(X:Ct)(ea da a:Option Addr)(el ec dl dc q k:Nat):Obj:=.cells #[.int .u8 X.kind,.string X.frm,.string X.too,.string X.name,.int .u8 X.expr.kind,.string X.expr.rat,.string X.expr.name,.int .i64 X.expr.date,.slice ea el ec,.int .i64 X.date,.slice da dl dc,.slice a q k] 40
theorem zhy{Wg:World}(hs:zb6 Wg)(hp:zcr Wg)(t:ByteArray)(x:Ct)(n:Nat)(ea da a:Option Addr)(el ec dl dc l k:Nat)(w:World)(VT:t.size≤20000){zs:List Tk}(UT:LZ t.data.toList zs)(hr:rdC 20001 zs=.ok x [])
 (ZZ:CtAt n w [.int .u8 x.kind,.string x.frm,.string x.too,.string x.name,.int .u8 x.expr.kind,.string x.expr.rat,.string x.expr.name,.int .i64 x.expr.date,.slice ea el ec,.int .i64 x.date,.slice da dl dc,.slice a l k] x) (hb:Below Wg.heap.size Wg w) :
 Calls Tryz.prog 39 #[.string t,.agg #[.int .u8 x.kind,.string x.frm,.string x.too,.string x.name,.int .u8 x.expr.kind,.string x.expr.rat,.string x.expr.name,.int .i64 x.expr.date,.slice ea el ec,.int .i64 x.date,.slice da dl dc,.slice a l k]] w (BelB w true):=by
 obtain⟨hg,ZS⟩:=yb9 VT UT hr;have ho:=z22 UT hr;obtain⟨W0,Z7⟩:∃W0,W0=w.alloc (cO x ea da a el ec dl dc l k):=⟨_,rfl⟩
 have a6:Below w.heap.size w W0:=by rw[Z7];exact zaa w _
 have Z2:W0.heap[w.heap.size]?=some (cO x ea da a el ec dl dc l k):=by rw[Z7];exact heap_alloc_new w _
 have Yc:Hid (∀W,Below w.heap.size w W→Calls Tryz.prog 32 #[.string t] W (RcP W (zb2 t))):=Z9 (fun W hW=>zff t W Wg VT hp hs (hb.trans (hW.mono hb.size)));have aV:Hid (∀W,Below w.heap.size w W→Calls Tryz.prog 56 #[.agg #[.int .u8 x.kind,.string x.frm,.string x.too,.string x.name,.int .u8 x.expr.kind,.string x.expr.rat,.string x.expr.name,.int .i64 x.expr.date,.slice ea el ec,.int .i64 x.date,.slice da dl dc,.slice a l k]] W (IntP W (chkC x))):=Z9 (fun W hW=>zmg (CtAt.below hW ZZ) hg (by omega) hp hs (hb.trans (hW.mono hb.size)));have ZQ:Hid (∀W,Below w.heap.size w W→CtAt n W (cC x ea da a el ec dl dc l k) x):=Z9 (fun W hW=>CtAt.below hW ZZ)
 have aG:Hid (chkC x=0→x.size≤1000∧∃d,CSm d x):=Z9 (fun h=>zvs hg h);obtain⟨K,hK⟩:∃K,K=chkC x:=⟨_,rfl⟩
 rw[←hK]at ho aV aG;rw[ho]at Yc;have aO:=(Z8 Z2);have aY:=Z9 Z2;have aF:=Z9 a6;have a8:=Z9 Z7;clear hs hp UT hr ZZ hb hg ZS ho hK Z2 a6 Z7
 by_cases Xk:K=0
 ·subst Xk
  rw[if_pos rfl]at Yc;go_enter Tryz.func39,Tryz.ntmps39;go_wp2_with fail;change Calls _ _ _ (w.alloc (cO x ea da a el ec dl dc l k)) _;rw[←a8.out];refine(Yc.out _ aF.out).mono ?_;intro e u h1;obtain⟨n2,ea2,el2,ec2,da2,dl2,dc2,a2,l2,k2,rfl,Zu,Z3⟩:=zft h1;change CtAt n2 u (cC x ea2 da2 a2 el2 ec2 dl2 dc2 l2 k2) x at Zu;obtain⟨W2,ZU⟩:∃W2,W2=u.alloc (cO x ea2 da2 a2 el2 ec2 dl2 dc2 l2 k2):=⟨_,rfl⟩
  have aj:Below u.heap.size u W2:=by rw[ZU];exact zaa u _
  have aB:=Z3.trans (aj.mono Z3.size);have ah:=(aB.block _ aO).trans aY.out;have ag:W2.heap[u.heap.size]?=some (cO x ea2 da2 a2 el2 ec2 dl2 dc2 l2 k2):=by rw[ZU];exact heap_alloc_new u _
  have ZY:=Z9 (aF.out.trans (aB.mono aF.out.size));have bi:=Z9 (CtAt.below aj Zu);have aX:=Z9 ah;have aW:=Z9 ag;have Yl:=(Z8 ah);have WX:=(Z8 ag);have aT:=Z9 ZU;have X7:=(Z3.block _ aO).trans aY.out;have bh:=(Z8 X7);obtain⟨c0,c1,c2,c3,c4,c5,c6,c7,c8,c9,ca,cb⟩:=zbz X7;clear h1 Zu Z3 aj aB ah ag ZU X7;go_wp2_with fail;change Calls _ _ _ (u.alloc (cO x ea2 da2 a2 el2 ec2 dl2 dc2 l2 k2)) _;rw[←aT.out];refine(aV.out _ ZY.out).mono ?_;rintro e w3 ⟨rfl,hb⟩;have Zx:=Z9 (ZY.out.trans (hb.mono ZY.out.size));have bj:=Z9 (zgt (max n n2) x _ _ w3 (CtAt.up (Nat.le_max_right _ _) (CtAt.below hb bi.out)) (CtAt.up (Nat.le_max_left _ _) (ZQ.out w3 Zx.out)) (aG.out trivial).1 (aG.out trivial).2)
  have ah:=(hb.block _ Yl).trans aX.out;have ag:=(hb.block _ WX).trans aW.out;clear hb c0 c1 c2 c3 c4 c5 c6 c7 c8 c9 ca cb;obtain⟨c0,c1,c2,c3,c4,c5,c6,c7,c8,c9,ca,cb⟩:=zbz ah;obtain⟨d0,d1,d2,d3,d4,d5,d6,d7,d8,d9,da,db⟩:=zbz ag;clear ah ag;go_wp2_with fail;refine bj.out.mono ?_;rintro e w4 ⟨rfl,hb⟩;have HF:=Z9 (Zx.out.trans (hb.mono Zx.out.size));clear hb;go_wp2_with fail;go_ret;exact⟨rfl,HF.out⟩
 ·rw[if_neg Xk]at Yc
  have e1:(K == K)=true:=by simp
  have e2:(K != 0)=true:=by simp[Xk]
  go_enter Tryz.func39,Tryz.ntmps39;go_wp2_with fail;change Calls _ _ _ (w.alloc (cO x ea da a el ec dl dc l k)) _;rw[←a8.out];refine(Yc.out _ aF.out).mono ?_;intro e u h1;obtain⟨n2,ea2,el2,ec2,da2,dl2,dc2,a2,l2,k2,rfl,Zu,Z3⟩:=zft h1;obtain⟨W2,ZU⟩:∃W2,W2=u.alloc (cO (coC (none,(t.size:Int),K)) ea2 da2 a2 el2 ec2 dl2 dc2 l2 k2):=⟨_,rfl⟩
  have aj:Below u.heap.size u W2:=by rw[ZU];exact zaa u _
  have aB:=Z3.trans (aj.mono Z3.size);have ZY:=Z9 (aF.out.trans (aB.mono aF.out.size));have aT:=Z9 ZU;have X7:=(Z3.block _ aO).trans aY.out;have bh:=(Z8 X7);obtain⟨c0,c1,c2,c3,c4,c5,c6,c7,c8,c9,ca,cb⟩:=zbz X7;clear h1 Zu Z3 aj aB ZU X7;go_wp2_with fail;change Calls _ _ _ (u.alloc (cO (coC (none,(t.size:Int),K)) ea2 da2 a2 el2 ec2 dl2 dc2 l2 k2)) _;rw[←aT.out];refine(aV.out _ ZY.out).mono ?_;rintro e w3 ⟨rfl,hb⟩;have HF:=Z9 (ZY.out.trans (hb.mono ZY.out.size));clear hb;go_wp2_with fail;go_ret;exact⟨rfl,HF.out⟩
theorem z2y{s:ByteArray}(h:(zb2 s).2.2=0):∃x,zb2 s=(some x,(s.size:Int),0):=by
 unfold zb2 at h ⊢
 cases hl:lexL 0 s.data.toList with
 |no j er=>rw[hl]at h;exact absurd h (zi4 hl)
 |yes ts =>
  rw[hl]at h;dsimp only at h ⊢
  cases hw:rdC 20001 ts with
  |no l=>rw[hw]at h;cases l<;>cases h
  |ok y l =>
   rw[hw]at h
   cases l with
   |cons t l=>cases h
   |nil =>
    dsimp only at h ⊢
    by_cases hc:chkC y=0
    ·rw[if_pos hc];exact⟨y,rfl⟩
    ·rw[if_neg hc]at h;exact absurd h hc
def RdCA(X:Ct)(E:Int)(W:World)(e:Ending)(w':World):Prop :=
 ∃n ea el ec da dl dc a q k i,e=.returned (.tuple #[.agg #[.int .u8 X.kind,.string X.frm,.string X.too,.string X.name,.int .u8 X.expr.kind,.string X.expr.rat,.string X.expr.name,.int .i64 X.expr.date,.slice ea el ec,.int .i64 X.date,.slice da dl dc,.slice a q k],.int .i64 i,.int .i64 E]) ∧
  CtAt n w' [.int .u8 X.kind,.string X.frm,.string X.too,.string X.name,.int .u8 X.expr.kind,.string X.expr.rat,.string X.expr.name,.int .i64 X.expr.date,.slice ea el ec,.int .i64 X.date,.slice da dl dc,.slice a q k] X∧Below W.heap.size W w'
structure CtT(w:World)(a:ByteArray)(X:Ct)(E:Int):Prop where
 rd:∀W,Below w.heap.size w W→Calls Tryz.prog 32 #[.string a] W (RdCA X E W)
 cx:E=0→∃zs,LZ a.data.toList zs∧CX zs X∧zs.length≤3000
theorem z0e{Wg w:World}(hs:zb6 Wg)(hp:zcr Wg)(hb:Below Wg.heap.size Wg w)(a:ByteArray)(h:a.size≤3000):∃X E,CtT w a X E:=by
 refine⟨coC (zb2 a),(zb2 a).2.2,fun W hW => ?_,fun hE => ?_⟩
 ·refine(zff a W Wg (by omega) hp hs (hb.trans (hW.mono hb.size))).mono fun e u h => ?_
  obtain⟨n,ea,el,ec,da,dl,dc,a,q,k,h1,h2,h3⟩:=zft h;exact⟨n,ea,el,ec,da,dl,dc,a,q,k,_,h1,h2,h3⟩
 ·obtain⟨x,hx⟩:=z2y hE
  rw[hx];obtain⟨zs,h1,h2,h3⟩:=z8u hx;have hl:=zy9 h1;rw[zab]at hl;exact⟨zs,h1,CX.of (n:=20001) h2 (by omega),by omega⟩
def NumK(f:RdX):Prop:=∀l x l',f l=.ok x l'→1≤x.kind∧x.kind≤9
theorem zk4{k:Int}{ps:List RdX}{l l':List Tk}{x:Ex}(h:zby k ps l=.ok x l'):x.kind=k:=by
 unfold zby at h;obtain⟨u,l1,e1,h⟩:=zak h;obtain⟨xs,l2,e2,h⟩:=zak h;obtain⟨v,l3,e3,h⟩:=zak h
 injection h with h1 h2
 rw[←h1];rfl
theorem ztp:NumK tFix:=fun l x l' h=>by
 unfold tFix at h;obtain⟨u,l1,e1,h⟩:=zak h;obtain⟨v,l2,e2,h⟩:=zak h
 split at h
 ·injection h with h1 h2;rw[←h1];exact⟨by show(1:Int)≤3;decide,by show(3:Int)≤9;decide⟩
 ·obtain⟨t,l3,e3,h⟩:=zak h
  injection h with h1 h2;rw[←h1];exact⟨by show(1:Int)≤2;decide,by show(2:Int)≤9;decide⟩
theorem zuw{S:RdX}(hS:NumK S):NumK (zdl S):=fun l x l' h=>by
 unfold zdl at h
 split at h
 ·obtain⟨y,l1,e1,h⟩:=zak h
  obtain⟨v,l2,e2,h⟩:=zak h
  injection h with h1 h2;rw[←h1];exact hS _ _ _ e1
 ·split at h
  ·exact ztp _ _ _ h
  ·split at h
   ·injection h with h1 h2;rw[←h1];exact⟨by show(1:Int)≤1;decide,by show(1:Int)≤9;decide⟩
   ·exact ztp _ _ _ h
theorem zrv{S T:RdX}(hS:NumK S):NumK (zbu S T):=fun l x l' h=>by
 unfold zbu at h
 split at h
 ·have:=zk4 h;omega
 split at h
 ·have:=zk4 h;omega
 split at h
 ·have:=zk4 h;omega
 split at h
 ·exact zuw hS _ _ _ h
 ·cases h
theorem zo5{F:RdX}:∀(n:Nat)(y:Ex),(1≤y.kind∧y.kind≤9)→NumK (zet F n y)
 |0,_,_=>fun l x l' h=>by cases h
 |n+1,y,hy=>fun l x l' h=>by
  unfold zet at h
  split at h
  ·obtain⟨z,l1,e1,h⟩:=zak h
   exact zo5 n _ ⟨by show(1:Int)≤6;decide,by show(6:Int)≤9;decide⟩ _ _ _ h
  ·injection h with h1 h2;rw[←h1];exact hy
theorem zwv{F:RdX}(hF:NumK F)(n:Nat):NumK (zda F n):=fun l x l' h=>by
 unfold zda at h;obtain⟨z,l1,e1,h⟩:=zak h;exact zo5 n z (hF _ _ _ e1) _ _ _ h
theorem zn9{F:RdX}(m:Nat):∀(n:Nat)(y:Ex),(1≤y.kind∧y.kind≤9)→NumK (tAdd F m n y)
 |0,_,_=>fun l x l' h=>by cases h
 |n+1,y,hy=>fun l x l' h=>by
  unfold tAdd at h
  split at h
  ·obtain⟨z,l1,e1,h⟩:=zak h
   exact zn9 m n _ ⟨by show(1:Int)≤4;decide,by show(4:Int)≤9;decide⟩ _ _ _ h
  ·split at h
   ·obtain⟨z,l1,e1,h⟩:=zak h
    exact zn9 m n _ ⟨by show(1:Int)≤5;decide,by show(5:Int)≤9;decide⟩ _ _ _ h
   ·injection h with h1 h2;rw[←h1];exact hy
theorem zst:∀n,NumK (rdE n true)
 |0=>fun l x l' h=>by cases h
 |n+1=>fun l x l' h=>by
  change tSum (zbu (rdE n true) (rdE n false)) (n+1) l=_ at h;unfold tSum at h;obtain⟨z,l1,e1,h⟩:=zak h;exact zn9 _ _ z (zwv (zrv (zst n)) _ _ _ _ e1) _ _ _ h
theorem z8h{x:Ex}(h:1≤x.kind∧x.kind≤9):x.srt≠2:=by
 rw[Ex.srt_is];obtain⟨k,hk⟩:∃k,k=x.kind:=⟨_,rfl⟩
 rw[←hk]at h ⊢
 have h4:∀(ps:List Int),shpL k=some (ps,1)→srtP k x.rat x.name x.date (x.sub.map Ex.srt)≠2:=fun ps hp=>by
  unfold srtP;rw[hp];dsimp only
  split<;>decide
 have h1:shpL k=none→srtP k x.rat x.name x.date (x.sub.map Ex.srt)≠2:=fun hp=>by
  unfold srtP;rw[hp];dsimp only
  split
  ·unfold zel
   repeat' split
   all_goals decide
  ·decide
 rcases(by omega:k=1∨k=2∨k=3∨k=4∨k=5∨k=6∨k=7∨k=8∨k=9)with rfl |rfl |rfl |rfl |rfl |rfl |rfl |rfl |rfl
 ·exact h1 rfl
 ·exact h1 rfl
 ·exact h1 rfl
 all_goals exact h4 _ rfl
theorem ybd{s:ByteArray}{x:Ex}{i:Int}(hs:s.size≤20000)(h:zf9 s=(some x,i,0))(hn:truX x=true):∃zs,LZ s.data.toList zs∧SX false zs x∧zs.length≤s.size:=by
 obtain⟨zs,h1,h2,_,_⟩:=znh h;have hl:=zy9 h1;rw[zab]at hl;obtain⟨b,e,hb⟩:=zl1 h2
 cases b with
 |false=>exact⟨zs,h1,SX.of (n:=20001) (by rw[←e];exact h2) (by omega),hl⟩
 |true =>
  rw[e]at h2;unfold truX at hn;rw[Bool.and_eq_true]at hn;exact absurd (by simpa using hn.2) (z8h (zst _ _ _ _ h2))
theorem z2p{Wg:World}(hs:zb6 Wg){s:ByteArray}{x:Ex}{i:Int}(h:zf9 s=(some x,i,0)){n:Nat}{a:Option Addr}{len cap:Nat}{w:World}(ZZ:ExAt n w [.int .u8 x.kind,.string x.rat,.string x.name,.int .i64 x.date,.slice a len cap] x)(hb:Below Wg.heap.size Wg w) :
 Calls Tryz.prog 41 #[.agg #[.int .u8 x.kind,.string x.rat,.string x.name,.int .i64 x.date,.slice a len cap]] w (BelB w (truX x)):=by
 obtain⟨zs,h1,h2,h3,_⟩:=znh h;obtain⟨⟨d,g1,g2⟩,g3⟩:=z9u h1 h2
 have hc:x.size≤500∧x.depth≤60:=by
  unfold chkX at h3
  split at h3
  ·cases h3
  ·rename_i q;omega
 exact zeb (max n d) x _ w Wg ⟨ZZ.up (Nat.le_max_left _ _),g2.up (Nat.le_max_right _ _),by omega,zh7 (by omega) g1.tight,hs,hb⟩
structure TxT(w:World)(a:ByteArray)(X:Ex)(E:Int):Prop where
 rd:∀W,Below w.heap.size w W→Calls Tryz.prog 25 #[.string a] W (RdA X E W)
 tru:E=0→∀n p l k W,Below w.heap.size w W→ExAt n W [.int .u8 X.kind,.string X.rat,.string X.name,.int .i64 X.date,.slice p l k] X→Calls Tryz.prog 41 #[.agg #[.int .u8 X.kind,.string X.rat,.string X.name,.int .i64 X.date,.slice p l k]] W (BelB W (truX X))
 sx:E=0→truX X=true→∃zs,LZ a.data.toList zs∧SX false zs X∧zs.length≤3000
theorem z7w{Wg w:World}(hs:zb6 Wg)(hb:Below Wg.heap.size Wg w)(a:ByteArray)(h:a.size≤3000):∃X E,TxT w a X E:=by
 refine⟨xoX (zf9 a),(zf9 a).2.2,fun W hW => ?_,fun hE n p l k W hW ZZ => ?_,fun hE hn => ?_⟩
 ·refine(zkq a W Wg (by omega) hs (hb.trans (hW.mono hb.size))).mono fun e u h => ?_
  obtain⟨n,p,l,k,h1,h2,h3⟩:=zjt h;exact⟨n,p,l,k,_,h1,h2,h3⟩
 ·obtain⟨x,hx⟩:=zng hE
  rw[hx]at ZZ ⊢;exact z2p hs hx ZZ (hb.trans (hW.mono hb.size))
 ·obtain⟨x,hx⟩:=zng hE
  rw[hx]at hn ⊢;obtain⟨zs,h1,h2,h3⟩:=ybd (by omega) hx hn;exact⟨zs,h1,h2,by omega⟩
theorem nxB{n:Nat}(h:n≤20000):¬9223372036854775807<n:=by omega
theorem z1c(a b:ByteArray):(⟨#[98,111,116,104,32,123]⟩ ++ a ++ ⟨#[10,59]⟩ ++ b ++ ⟨#[10,125]⟩:ByteArray).data.toList=[98,111,116,104,32,123] ++ a.data.toList ++ [10,59] ++ b.data.toList ++ [10,125]:=by
 simp only[bap]
theorem z1b(a b:ByteArray):(⟨#[99,104,111,105,99,101,32,34,111,110,34,32,98,121,32,65,32,123]⟩ ++ a ++ ⟨#[10,125,32,101,108,115,101,32,123]⟩ ++ b ++ ⟨#[10,125]⟩:ByteArray).data.toList=[99,104,111,105,99,101,32,34,111,110,34,32,98,121,32,65,32,123] ++ a.data.toList ++ [10,125,32,101,108,115,101,32,123] ++ b.data.toList ++ [10,125]:=by
 simp only[bap]
theorem ya8(a:ByteArray):(⟨#[111,110,32,49,57,48,48,45,48,49,45,49,49,32,123]⟩ ++ a ++ ⟨#[10,125]⟩:ByteArray).data.toList=[111,110,32,49,57,48,48,45,48,49,45,49,49,32,123] ++ a.data.toList ++ [10,125]:=by
 simp only[bap]
theorem zv3(a x:ByteArray):(⟨#[115,99,97,108,101,32]⟩ ++ x ++ ⟨#[10,123]⟩ ++ a ++ ⟨#[10,125]⟩:ByteArray).data.toList=[115,99,97,108,101,32] ++ x.data.toList ++ [10,123] ++ a.data.toList ++ [10,125]:=by
 simp only[bap]
theorem z6n(x:ByteArray):(⟨#[65,32,112,97,121,115,32]⟩ ++ x ++ ⟨#[10,69,85,82,32,116,111,32,66]⟩:ByteArray).data.toList=[65,32,112,97,121,115,32] ++ x.data.toList ++ [10,69,85,82,32,116,111,32,66]:=by
 simp only[bap]
theorem z6o(a b t:ByteArray):(⟨#[105,102,32]⟩ ++ t ++ ⟨#[10,123]⟩ ++ a ++ ⟨#[10,125,32,101,108,115,101,32,123]⟩ ++ b ++ ⟨#[10,125]⟩:ByteArray).data.toList=[105,102,32] ++ t.data.toList ++ [10,123] ++ a.data.toList ++ [10,125,32,101,108,115,101,32,123] ++ b.data.toList ++ [10,125]:=by
 simp only[bap]
theorem z1a(a t:ByteArray):(⟨#[119,104,101,110,32]⟩ ++ t ++ ⟨#[10,111,110,32,49,57,48,48,45,48,49,45,49,49,32,123]⟩ ++ a ++ ⟨#[10,125]⟩:ByteArray).data.toList=[119,104,101,110,32] ++ t.data.toList ++ [10,111,110,32,49,57,48,48,45,48,49,45,49,49,32,123] ++ a.data.toList ++ [10,125]:=by
 simp only[bap]
theorem yas{n:Nat}{w:World}{g:Nat}{y:Ct}{x:Ex}{ea1 da1 a1 p:Option Addr}{el1 ec1 dl1 dc1 q1 k1 q k:Nat}(hg:w.heap[g]?=some (.cells #[.int .u8 y.kind,.string y.frm,.string y.too,.string y.name,.int .u8 y.expr.kind,.string y.expr.rat,.string y.expr.name,.int .i64 y.expr.date,.slice ea1 el1 ec1,.int .i64 y.date,.slice da1 dl1 dc1,.slice a1 q1 k1] 40))(hy:CtAt n w [.int .u8 y.kind,.string y.frm,.string y.too,.string y.name,.int .u8 y.expr.kind,.string y.expr.rat,.string y.expr.name,.int .i64 y.expr.date,.slice ea1 el1 ec1,.int .i64 y.date,.slice da1 dl1 dc1,.slice a1 q1 k1] y)(hx:ExAt (n+1) w [.int .u8 x.kind,.string x.rat,.string x.name,.int .i64 x.date,.slice p q k] x)(kd:Int) :
 CtAt (n+1) w [.int .u8 kd,.string ⟨#[]⟩,.string ⟨#[]⟩,.string ⟨#[]⟩,.int .u8 x.kind,.string x.rat,.string x.name,.int .i64 x.date,.slice p q k,.int .i64 0,.slice none 0 0,.slice (some ⟨g,0,none⟩) 1 1] (.mk kd tE0 tE0 tE0 x 0 [] [y]):=by
 refine⟨p,q,k,none,0,0,some ⟨g,0,none⟩,1,1,rfl,hx,⟨rfl,.inl rfl⟩,rfl,.inr ⟨g,0,rfl,(Z8 hg),fun i hi => ?_⟩⟩;obtain rfl:i=0:=by have:i<1:=hi;omega
 refine⟨_,fun j hj => ?_,hy⟩;rw[Lib.cell_of_heap hg,Nat.zero_mul,Nat.zero_add];simp
theorem yaq{n:Nat}{w:World}{g gd:Nat}{y:Ct}{x:Ex}{ea1 da1 a1 p:Option Addr}{el1 ec1 dl1 dc1 q1 k1 q k:Nat}(hd:w.heap[gd]?=some (.cells #[.int .i64 10] 3))(hg:w.heap[g]?=some (.cells #[.int .u8 y.kind,.string y.frm,.string y.too,.string y.name,.int .u8 y.expr.kind,.string y.expr.rat,.string y.expr.name,.int .i64 y.expr.date,.slice ea1 el1 ec1,.int .i64 y.date,.slice da1 dl1 dc1,.slice a1 q1 k1] 40))(hy:CtAt n w [.int .u8 y.kind,.string y.frm,.string y.too,.string y.name,.int .u8 y.expr.kind,.string y.expr.rat,.string y.expr.name,.int .i64 y.expr.date,.slice ea1 el1 ec1,.int .i64 y.date,.slice da1 dl1 dc1,.slice a1 q1 k1] y)(hx:ExAt (n+1) w [.int .u8 x.kind,.string x.rat,.string x.name,.int .i64 x.date,.slice p q k] x) :
 CtAt (n+1) w [.int .u8 10,.string ⟨#[]⟩,.string ⟨#[]⟩,.string ⟨#[]⟩,.int .u8 x.kind,.string x.rat,.string x.name,.int .i64 x.date,.slice p q k,.int .i64 0,.slice (some ⟨gd,0,none⟩) 1 1,.slice (some ⟨g,0,none⟩) 1 1] (.mk 10 tE0 tE0 tE0 x 0 [10] [y]):=by
 refine⟨p,q,k,some ⟨gd,0,none⟩,1,1,some ⟨g,0,none⟩,1,1,rfl,hx,⟨rfl,.inr ⟨gd,0,rfl,(Z8 hd),fun i hi => ?_⟩⟩,rfl,.inr ⟨g,0,rfl,(Z8 hg),fun i hi => ?_⟩⟩
 ·obtain rfl:i=0:=by have:i<1:=hi;omega
  rw[Lib.cell_of_heap hd];rfl
 ·obtain rfl:i=0:=by have:i<1:=hi;omega
  refine⟨_,fun j hj => ?_,hy⟩;rw[Lib.cell_of_heap hg,Nat.zero_mul,Nat.zero_add];simp
theorem yar{n:Nat}{w:World}{g:Nat}{y z:Ct}{x:Ex}{ea1 da1 a1 ea2 da2 a2 p:Option Addr}{el1 ec1 dl1 dc1 q1 k1 el2 ec2 dl2 dc2 q2 k2 q k:Nat}(hg:w.heap[g]?=some (.cells #[.int .u8 y.kind,.string y.frm,.string y.too,.string y.name,.int .u8 y.expr.kind,.string y.expr.rat,.string y.expr.name,.int .i64 y.expr.date,.slice ea1 el1 ec1,.int .i64 y.date,.slice da1 dl1 dc1,.slice a1 q1 k1,.int .u8 z.kind,.string z.frm,.string z.too,.string z.name,.int .u8 z.expr.kind,.string z.expr.rat,.string z.expr.name,.int .i64 z.expr.date,.slice ea2 el2 ec2,.int .i64 z.date,.slice da2 dl2 dc2,.slice a2 q2 k2] 40))(hy:CtAt n w [.int .u8 y.kind,.string y.frm,.string y.too,.string y.name,.int .u8 y.expr.kind,.string y.expr.rat,.string y.expr.name,.int .i64 y.expr.date,.slice ea1 el1 ec1,.int .i64 y.date,.slice da1 dl1 dc1,.slice a1 q1 k1] y)(hz:CtAt n w [.int .u8 z.kind,.string z.frm,.string z.too,.string z.name,.int .u8 z.expr.kind,.string z.expr.rat,.string z.expr.name,.int .i64 z.expr.date,.slice ea2 el2 ec2,.int .i64 z.date,.slice da2 dl2 dc2,.slice a2 q2 k2] z)(hx:ExAt (n+1) w [.int .u8 x.kind,.string x.rat,.string x.name,.int .i64 x.date,.slice p q k] x)(kd:Int) :
 CtAt (n+1) w [.int .u8 kd,.string ⟨#[]⟩,.string ⟨#[]⟩,.string ⟨#[]⟩,.int .u8 x.kind,.string x.rat,.string x.name,.int .i64 x.date,.slice p q k,.int .i64 0,.slice none 0 0,.slice (some ⟨g,0,none⟩) 2 2] (.mk kd tE0 tE0 tE0 x 0 [] [y,z]):=by
 have h2:=zj3 hg hy hz kd 0 ⟨#[]⟩ ⟨#[]⟩ ⟨#[]⟩;obtain⟨ea,el,ec,da,dl,dc,a,len,cap,he,_,hd,hl,hs⟩:=h2
 injection he with _ he
 injection he with _ he
 injection he with _ he
 injection he with _ he
 injection he with _ he
 injection he with _ he
 injection he with _ he
 injection he with _ he
 injection he with e1 he
 injection he with _ he
 injection he with e2 he
 injection he with e3 he
 injection e2 with f1 f2 f3
 injection e3 with g1 g2 g3
 subst f1 f2 f3 g1 g2 g3;exact⟨p,q,k,none,0,0,some ⟨g,0,none⟩,2,2,rfl,hx,hd,hl,hs⟩
section
variable {Wg:World} {N:Nat}
theorem zvx(hs:zb6 Wg)(hp:zcr Wg){a b:ByteArray}(ha:a.size≤3000)(hb:b.size≤3000){X1:Ct}{za:List Tk}(Zs:LZ a.data.toList za)(Ye:CX za X1)(Xd:za.length≤3000){X2:Ct}{zb:List Tk}(ZH:LZ b.data.toList zb)(YX:CX zb X2)(Zo:zb.length≤3000){ea1 da1 a1:Option Addr}{el1 ec1 dl1 dc1 q1 k1:Nat}{ea2 da2 a2:Option Addr}{el2 ec2 dl2 dc2 q2 k2:Nat}(W:World)(hW:Below Wg.heap.size Wg W)(h1:CtAt N W (cC X1 ea1 da1 a1 el1 ec1 dl1 dc1 q1 k1) X1)(h2:CtAt N W (cC X2 ea2 da2 a2 el2 ec2 dl2 dc2 q2 k2) X2){O:Obj}(hO:O=.cells #[.int .u8 X1.kind,.string X1.frm,.string X1.too,.string X1.name,.int .u8 X1.expr.kind,.string X1.expr.rat,.string X1.expr.name,.int .i64 X1.expr.date,.slice ea1 el1 ec1,.int .i64 X1.date,.slice da1 dl1 dc1,.slice a1 q1 k1,.int .u8 X2.kind,.string X2.frm,.string X2.too,.string X2.name,.int .u8 X2.expr.kind,.string X2.expr.rat,.string X2.expr.name,.int .i64 X2.expr.date,.slice ea2 el2 ec2,.int .i64 X2.date,.slice da2 dl2 dc2,.slice a2 q2 k2] 40) :
 Calls Tryz.prog 39 #[.string (⟨#[98,111,116,104,32,123]⟩ ++ a ++ ⟨#[10,59]⟩ ++ b ++ ⟨#[10,125]⟩),.agg #[.int .u8 3,.string ⟨#[]⟩,.string ⟨#[]⟩,.string ⟨#[]⟩,.int .u8 0,.string ⟨#[]⟩,.string ⟨#[]⟩,.int .i64 0,.slice none 0 0,.int .i64 0,.slice none 0 0,.slice (some ⟨W.heap.size,0,none⟩) 2 2]] (W.alloc O) (BelB (W.alloc O) true):=by
 have ad:=heap_alloc_new W O;have aa:=zaa W O;rw[hO]at ad aa ⊢;refine zhy hs hp _ (.mk 3 tE0 tE0 tE0 tX0 0 [] [X1,X2]) (N+1) none none (some ⟨W.heap.size,0,none⟩) 0 0 0 0 2 2 _ ?_ (zs:=_) (by rw[z1c];exact z9v Zs ZH) (yap Ye YX 20001 ?_) (zj3 ad (CtAt.below aa h1) (CtAt.below aa h2) 3 0 ⟨#[]⟩ ⟨#[]⟩ ⟨#[]⟩) (hW.trans (aa.mono hW.size))
 ·simp only[ByteArray.size_append]
  show 6+a.size+2+b.size+2≤20000
  omega
 ·simp only[List.length_cons,List.length_append,List.length_nil]
  omega
theorem zvw(hs:zb6 Wg)(hp:zcr Wg){a b:ByteArray}(ha:a.size≤3000)(hb:b.size≤3000){X1:Ct}{za:List Tk}(Zs:LZ a.data.toList za)(Ye:CX za X1)(Xd:za.length≤3000){X2:Ct}{zb:List Tk}(ZH:LZ b.data.toList zb)(YX:CX zb X2)(Zo:zb.length≤3000){ea1 da1 a1:Option Addr}{el1 ec1 dl1 dc1 q1 k1:Nat}{ea2 da2 a2:Option Addr}{el2 ec2 dl2 dc2 q2 k2:Nat}(W:World)(hW:Below Wg.heap.size Wg W)(h1:CtAt N W (cC X1 ea1 da1 a1 el1 ec1 dl1 dc1 q1 k1) X1)(h2:CtAt N W (cC X2 ea2 da2 a2 el2 ec2 dl2 dc2 q2 k2) X2){O:Obj}(hO:O=.cells #[.int .u8 X1.kind,.string X1.frm,.string X1.too,.string X1.name,.int .u8 X1.expr.kind,.string X1.expr.rat,.string X1.expr.name,.int .i64 X1.expr.date,.slice ea1 el1 ec1,.int .i64 X1.date,.slice da1 dl1 dc1,.slice a1 q1 k1,.int .u8 X2.kind,.string X2.frm,.string X2.too,.string X2.name,.int .u8 X2.expr.kind,.string X2.expr.rat,.string X2.expr.name,.int .i64 X2.expr.date,.slice ea2 el2 ec2,.int .i64 X2.date,.slice da2 dl2 dc2,.slice a2 q2 k2] 40) :
 Calls Tryz.prog 39 #[.string (⟨#[99,104,111,105,99,101,32,34,111,110,34,32,98,121,32,65,32,123]⟩ ++ a ++ ⟨#[10,125,32,101,108,115,101,32,123]⟩ ++ b ++ ⟨#[10,125]⟩),.agg #[.int .u8 7,.string ⟨#[65]⟩,.string ⟨#[]⟩,.string ⟨#[111,110]⟩,.int .u8 0,.string ⟨#[]⟩,.string ⟨#[]⟩,.int .i64 0,.slice none 0 0,.int .i64 0,.slice none 0 0,.slice (some ⟨W.heap.size,0,none⟩) 2 2]] (W.alloc O) (BelB (W.alloc O) true):=by
 have ad:=heap_alloc_new W O;have aa:=zaa W O;rw[hO]at ad aa ⊢;refine zhy hs hp _ (.mk 7 ⟨#[65]⟩ tE0 ⟨#[111,110]⟩ tX0 0 [] [X1,X2]) (N+1) none none (some ⟨W.heap.size,0,none⟩) 0 0 0 0 2 2 _ ?_ (zs:=_) (by rw[z1b];exact z9t Zs ZH) (yao Ye YX 20001 ?_) (zj3 ad (CtAt.below aa h1) (CtAt.below aa h2) 7 0 ⟨#[65]⟩ ⟨#[]⟩ ⟨#[111,110]⟩) (hW.trans (aa.mono hW.size))
 ·simp only[ByteArray.size_append]
  show 18+a.size+9+b.size+2≤20000
  omega
 ·simp only[List.length_cons,List.length_append,List.length_nil]
  omega
theorem z6f(hs:zb6 Wg)(hp:zcr Wg){a:ByteArray}(ha:a.size≤3000){X1:Ct}{za:List Tk}(Zs:LZ a.data.toList za)(Ye:CX za X1)(Xd:za.length≤3000){ea1 da1 a1:Option Addr}{el1 ec1 dl1 dc1 q1 k1:Nat}(W:World)(hW:Below Wg.heap.size Wg W)(h1:CtAt N W (cC X1 ea1 da1 a1 el1 ec1 dl1 dc1 q1 k1) X1){O:Obj}(hO:O=cO X1 ea1 da1 a1 el1 ec1 dl1 dc1 q1 k1) :
 Calls Tryz.prog 39 #[.string (⟨#[111,110,32,49,57,48,48,45,48,49,45,49,49,32,123]⟩ ++ a ++ ⟨#[10,125]⟩),.agg #[.int .u8 6,.string ⟨#[]⟩,.string ⟨#[]⟩,.string ⟨#[]⟩,.int .u8 0,.string ⟨#[]⟩,.string ⟨#[]⟩,.int .i64 0,.slice none 0 0,.int .i64 10,.slice none 0 0,.slice (some ⟨W.heap.size,0,none⟩) 1 1]] (W.alloc O) (BelB (W.alloc O) true):=by
 have ad:=heap_alloc_new W O;have aa:=zaa W O;rw[hO]at ad aa ⊢;refine zhy hs hp _ (.mk 6 tE0 tE0 tE0 tX0 10 [] [X1]) (N+1) none none (some ⟨W.heap.size,0,none⟩) 0 0 0 0 1 1 _ ?_ (zs:=_) (by rw[ya8];exact ydp Zs) (ydv 10 Ye 20001 ?_) (z49 ad (CtAt.below aa h1) 6 10 ⟨#[]⟩ ⟨#[]⟩ ⟨#[]⟩) (hW.trans (aa.mono hW.size))
 ·simp only[ByteArray.size_append]
  show 15+a.size+2≤20000
  omega
 ·simp only[List.length_cons,List.length_append,List.length_nil]
  omega
theorem zr8(hs:zb6 Wg)(hp:zcr Wg){a x:ByteArray}(ha:a.size≤3000)(hx:x.size≤3000){X1:Ct}{za:List Tk}(Zs:LZ a.data.toList za)(Ye:CX za X1)(Xd:za.length≤3000){X3:Ex}{zx:List Tk}(V5:LZ x.data.toList zx)(V8:SX true zx X3)(YM:zx.length≤3000){ea1 da1 a1:Option Addr}{el1 ec1 dl1 dc1 q1 k1:Nat}{p3:Option Addr}{q3 k3:Nat}(W:World)(hW:Below Wg.heap.size Wg W)(h1:CtAt N W (cC X1 ea1 da1 a1 el1 ec1 dl1 dc1 q1 k1) X1)(h3:ExAt (N+1) W (eC X3 p3 q3 k3) X3){O:Obj}(hO:O=cO X1 ea1 da1 a1 el1 ec1 dl1 dc1 q1 k1) :
 Calls Tryz.prog 39 #[.string (⟨#[115,99,97,108,101,32]⟩ ++ x ++ ⟨#[10,123]⟩ ++ a ++ ⟨#[10,125]⟩),.agg #[.int .u8 4,.string ⟨#[]⟩,.string ⟨#[]⟩,.string ⟨#[]⟩,.int .u8 X3.kind,.string X3.rat,.string X3.name,.int .i64 X3.date,.slice p3 q3 k3,.int .i64 0,.slice none 0 0,.slice (some ⟨W.heap.size,0,none⟩) 1 1]] (W.alloc O) (BelB (W.alloc O) true):=by
 have ad:=heap_alloc_new W O;have aa:=zaa W O;rw[hO]at ad aa ⊢;refine zhy hs hp _ (.mk 4 tE0 tE0 tE0 X3 0 [] [X1]) (N+1) p3 none (some ⟨W.heap.size,0,none⟩) q3 k3 0 0 1 1 _ ?_ (zs:=_) (by rw[zv3];exact z33 V5 Zs) (z48 V8 Ye 20001 ?_) (yas ad (CtAt.below aa h1) (ExAt.below aa h3) 4) (hW.trans (aa.mono hW.size))
 ·simp only[ByteArray.size_append]
  show 6+x.size+2+a.size+2≤20000
  omega
 ·simp only[List.length_cons,List.length_append,List.length_nil]
  omega
theorem z00(hs:zb6 Wg)(hp:zcr Wg){x:ByteArray}(hx:x.size≤3000){X3:Ex}{zx:List Tk}(V5:LZ x.data.toList zx)(V8:SX true zx X3)(YM:zx.length≤3000){p3:Option Addr}{q3 k3:Nat}(W:World)(hW:Below Wg.heap.size Wg W)(h3:ExAt (N+1) W (eC X3 p3 q3 k3) X3) :
 Calls Tryz.prog 39 #[.string (⟨#[65,32,112,97,121,115,32]⟩ ++ x ++ ⟨#[10,69,85,82,32,116,111,32,66]⟩),.agg #[.int .u8 2,.string ⟨#[65]⟩,.string ⟨#[66]⟩,.string ⟨#[69,85,82]⟩,.int .u8 X3.kind,.string X3.rat,.string X3.name,.int .i64 X3.date,.slice p3 q3 k3,.int .i64 0,.slice none 0 0,.slice none 0 0]] W (BelB W true):=by
 have aa:=Below.refl W.heap.size W;refine zhy hs hp _ (.mk 2 ⟨#[65]⟩ ⟨#[66]⟩ ⟨#[69,85,82]⟩ X3 0 [] []) (N+1) p3 none none q3 k3 0 0 0 0 _ ?_ (zs:=_) (by rw[z6n];exact yca V5) (ycv V8 20001 ?_) (zlh (ExAt.below aa h3) ⟨rfl,rfl,rfl,rfl⟩ 2 0 ⟨#[65]⟩ ⟨#[66]⟩ ⟨#[69,85,82]⟩) (hW.trans (aa.mono hW.size))
 ·simp only[ByteArray.size_append]
  show 7+x.size+9≤20000
  omega
 ·simp only[List.length_cons,List.length_append,List.length_nil]
  omega
theorem z02(hs:zb6 Wg)(hp:zcr Wg){a b t:ByteArray}(ha:a.size≤3000)(hb:b.size≤3000)(ht:t.size≤3000){X1:Ct}{za:List Tk}(Zs:LZ a.data.toList za)(Ye:CX za X1)(Xd:za.length≤3000){X2:Ct}{zb:List Tk}(ZH:LZ b.data.toList zb)(YX:CX zb X2)(Zo:zb.length≤3000){X4:Ex}{zx:List Tk}(V5:LZ t.data.toList zx)(V8:SX false zx X4)(YM:zx.length≤3000){ea1 da1 a1:Option Addr}{el1 ec1 dl1 dc1 q1 k1:Nat}{ea2 da2 a2:Option Addr}{el2 ec2 dl2 dc2 q2 k2:Nat}{p4:Option Addr}{q4 k4:Nat}(W:World)(hW:Below Wg.heap.size Wg W)(h1:CtAt N W (cC X1 ea1 da1 a1 el1 ec1 dl1 dc1 q1 k1) X1)(h2:CtAt N W (cC X2 ea2 da2 a2 el2 ec2 dl2 dc2 q2 k2) X2)(h3:ExAt (N+1) W (eC X4 p4 q4 k4) X4){O:Obj}(hO:O=.cells #[.int .u8 X1.kind,.string X1.frm,.string X1.too,.string X1.name,.int .u8 X1.expr.kind,.string X1.expr.rat,.string X1.expr.name,.int .i64 X1.expr.date,.slice ea1 el1 ec1,.int .i64 X1.date,.slice da1 dl1 dc1,.slice a1 q1 k1,.int .u8 X2.kind,.string X2.frm,.string X2.too,.string X2.name,.int .u8 X2.expr.kind,.string X2.expr.rat,.string X2.expr.name,.int .i64 X2.expr.date,.slice ea2 el2 ec2,.int .i64 X2.date,.slice da2 dl2 dc2,.slice a2 q2 k2] 40) :
 Calls Tryz.prog 39 #[.string (⟨#[105,102,32]⟩ ++ t ++ ⟨#[10,123]⟩ ++ a ++ ⟨#[10,125,32,101,108,115,101,32,123]⟩ ++ b ++ ⟨#[10,125]⟩),.agg #[.int .u8 5,.string ⟨#[]⟩,.string ⟨#[]⟩,.string ⟨#[]⟩,.int .u8 X4.kind,.string X4.rat,.string X4.name,.int .i64 X4.date,.slice p4 q4 k4,.int .i64 0,.slice none 0 0,.slice (some ⟨W.heap.size,0,none⟩) 2 2]] (W.alloc O) (BelB (W.alloc O) true):=by
 have ad:=heap_alloc_new W O;have aa:=zaa W O;rw[hO]at ad aa ⊢;refine zhy hs hp _ (.mk 5 tE0 tE0 tE0 X4 0 [] [X1,X2]) (N+1) p4 none (some ⟨W.heap.size,0,none⟩) q4 k4 0 0 2 2 _ ?_ (zs:=_) (by rw[z6o];exact ydq V5 Zs ZH) (ydw V8 Ye YX 20001 ?_) (yar ad (CtAt.below aa h1) (CtAt.below aa h2) (ExAt.below aa h3) 5) (hW.trans (aa.mono hW.size))
 ·simp only[ByteArray.size_append]
  show 3+t.size+2+a.size+9+b.size+2≤20000
  omega
 ·simp only[List.length_cons,List.length_append,List.length_nil]
  omega
theorem zvv(hs:zb6 Wg)(hp:zcr Wg){a t:ByteArray}(ha:a.size≤3000)(ht:t.size≤3000){X1:Ct}{za:List Tk}(Zs:LZ a.data.toList za)(Ye:CX za X1)(Xd:za.length≤3000){X4:Ex}{zx:List Tk}(V5:LZ t.data.toList zx)(V8:SX false zx X4)(YM:zx.length≤3000){ea1 da1 a1:Option Addr}{el1 ec1 dl1 dc1 q1 k1:Nat}{p4:Option Addr}{q4 k4:Nat}(W:World)(hW:Below Wg.heap.size Wg W)(h1:CtAt N W (cC X1 ea1 da1 a1 el1 ec1 dl1 dc1 q1 k1) X1)(h3:ExAt (N+1) W (eC X4 p4 q4 k4) X4){O U:Obj}(hO:O=.cells #[.int .i64 10] 3)(hU:U=cO X1 ea1 da1 a1 el1 ec1 dl1 dc1 q1 k1) :
 Calls Tryz.prog 39 #[.string (⟨#[119,104,101,110,32]⟩ ++ t ++ ⟨#[10,111,110,32,49,57,48,48,45,48,49,45,49,49,32,123]⟩ ++ a ++ ⟨#[10,125]⟩),.agg #[.int .u8 10,.string ⟨#[]⟩,.string ⟨#[]⟩,.string ⟨#[]⟩,.int .u8 X4.kind,.string X4.rat,.string X4.name,.int .i64 X4.date,.slice p4 q4 k4,.int .i64 0,.slice (some ⟨W.heap.size,0,none⟩) 1 1,.slice (some ⟨W.heap.size+1,0,none⟩) 1 1]] ((W.alloc O).alloc U) (BelB ((W.alloc O).alloc U) true):=by
 have ad:=heap_alloc_new (W.alloc O) U;rw[World.size_alloc]at ad;have a5:=zbm (heap_alloc_new W O) (zaa (W.alloc O) U);have aa:=(zaa W O).trans ((zaa (W.alloc O) U).mono (zaa W O).size);rw[hO,hU]at ad a5 aa ⊢;refine zhy hs hp _ (.mk 10 tE0 tE0 tE0 X4 0 [10] [X1]) (N+1) p4 (some ⟨W.heap.size,0,none⟩) (some ⟨W.heap.size+1,0,none⟩) q4 k4 1 1 1 1 _ ?_ (zs:=_) (by rw[z1a];exact z9s V5 Zs) (yan 10 V8 Ye 20001 ?_) (yaq a5 ad (CtAt.below aa h1) (ExAt.below aa h3)) (hW.trans (aa.mono hW.size))
 ·simp only[ByteArray.size_append]
  show 5+t.size+16+a.size+2≤20000
  omega
 ·simp only[List.length_cons,List.length_append,List.length_nil]
  omega
end
theorem z6g{Wg:World}(hs:zb6 Wg)(hp:zcr Wg)(Zi:Hid (∀W,Below Wg.heap.size Wg W→Calls Tryz.prog 29 #[] W (BelB W true)))(a b x t:ByteArray)(w:World)(hb:Below Wg.heap.size Wg w)(ha:a.size≤3000)(VW:b.size≤3000)(hx:x.size≤3000)(ht:t.size≤3000) :
 Calls Tryz.prog 9 #[.string a,.string b,.string x,.string t] w (BelB w true):=by
 obtain⟨X1,E1,hA⟩:=z0e hs hp hb a ha;obtain⟨X2,E2,hB⟩:=z0e hs hp hb b VW;obtain⟨X3,E3,hC⟩:=zm4 hs hb x hx;obtain⟨X4,E4,hD⟩:=z7w hs hb t ht;have bf:=Z9 hA;have be:=Z9 hB;have aI:=Z9 hC;have aU:=Z9 hD;have al:=Z9 (Zi.out w hb);have ae:Hid (zb6 Wg∧zcr Wg∧Below Wg.heap.size Wg w):=Z9 ⟨hs,hp,hb⟩;have aG:Hid (a.size≤3000∧b.size≤3000∧x.size≤3000∧t.size≤3000):=Z9 ⟨ha,VW,hx,ht⟩;have l1:decide ((3000:Int)<(a.size:Int))=false:=decide_eq_false (by omega);have l2:decide ((3000:Int)<(b.size:Int))=false:=decide_eq_false (by omega);have l3:decide ((3000:Int)<(x.size:Int))=false:=decide_eq_false (by omega)
 have l4:decide ((3000:Int)<(t.size:Int))=false:=decide_eq_false (by omega);clear hs hp Zi hb ha VW hx ht hA hB hC hD;go_enter Tryz.func9,Tryz.ntmps9;go_wp2_with fail;refine al.out.mono ?_;rintro e w1 ⟨rfl,hb⟩;have ZT:=Z9 hb;clear hb al;go_wp2_with fail;refine(bf.out.rd _ ZT.out).mono ?_;rintro e u1 ⟨n1,ea1,el1,ec1,da1,dl1,dc1,a1,q1,k1,i1,rfl,ZB,ZJ⟩;have Y7:=zaa u1 (cO X1 ea1 da1 a1 el1 ec1 dl1 dc1 q1 k1);have ZY:Hid (Below w.heap.size w (u1.alloc (cO X1 ea1 da1 a1 el1 ec1 dl1 dc1 q1 k1))):=Z9 (ZT.out.trans ((ZJ.trans (Y7.mono ZJ.size)).mono ZT.out.size));have a7:=Z9 (CtAt.below Y7 ZB);have aA:=Z9 (heap_alloc_new u1 (cO X1 ea1 da1 a1 el1 ec1 dl1 dc1 q1 k1))
 clear ZJ ZB Y7 l1 l2 l3 l4;go_wp2_with fail;refine(be.out.rd _ ZY.out).mono ?_;rintro e u2 ⟨n2,ea2,el2,ec2,da2,dl2,dc2,a2,q2,k2,i2,rfl,Zu,Z3⟩;have aj:=zaa u2 (cO X2 ea2 da2 a2 el2 ec2 dl2 dc2 q2 k2);have ak:=Z3.trans (aj.mono Z3.size);have Zx:Hid (Below w.heap.size w (u2.alloc (cO X2 ea2 da2 a2 el2 ec2 dl2 dc2 q2 k2))):=Z9 (ZY.out.trans (ak.mono ZY.out.size))
 by_cases VC:E1=0
 case neg =>
  have e1:(E1 != 0)=true:=by simp[VC]
  clear VC;go_wp2_with fail;go_ret;exact⟨rfl,Zx.out⟩
 by_cases XO:E2=0
 case neg =>
  have e2:(E2 != 0)=true:=by simp[XO]
  clear XO;subst VC;go_wp2_with fail;go_ret;exact⟨rfl,Zx.out⟩
 subst VC XO;obtain⟨V,hV⟩:∃V,V=u2.alloc (cO X2 ea2 da2 a2 el2 ec2 dl2 dc2 q2 k2):=⟨_,rfl⟩
 have ar:=zbm aA.out ak;have aq:=heap_alloc_new u2 (cO X2 ea2 da2 a2 el2 ec2 dl2 dc2 q2 k2);have aN:=CtAt.below ak a7.out;have aM:=CtAt.below aj Zu;rw[←hV]at ar aq aN aM Zx;have aD:Hid (∀W,Below V.heap.size V W→W.heap[u1.heap.size]?=some (cO X1 ea1 da1 a1 el1 ec1 dl1 dc1 q1 k1)):=Z9 (fun W hW=>zbm ar hW);have bd:Hid (∀W,Below V.heap.size V W→W.heap[u2.heap.size]?=some (cO X2 ea2 da2 a2 el2 ec2 dl2 dc2 q2 k2)):=Z9 (fun W hW=>zbm aq hW);obtain⟨NN,VF⟩:∃N,N=max n1 n2:=⟨_,rfl⟩
 have UV:n1≤NN:=by omega
 have Yr:n2≤NN:=by omega
 have aC:Hid (∀W,Below V.heap.size V W→CtAt NN W (cC X1 ea1 da1 a1 el1 ec1 dl1 dc1 q1 k1) X1):=Z9 (fun W hW=>CtAt.up UV (CtAt.below hW aN));have aS:Hid (∀W,Below V.heap.size V W→CtAt NN W (cC X2 ea2 da2 a2 el2 ec2 dl2 dc2 q2 k2) X2):=Z9 (fun W hW=>CtAt.up Yr (CtAt.below hW aM));obtain⟨za,a4⟩:=bf.out.cx rfl;have ZD:=Z9 a4;clear a4;obtain⟨zb,Ug⟩:=be.out.cx rfl;have Zg:=Z9 Ug;clear Ug;have ay:Hid (∀W,Below V.heap.size V W→Below Wg.heap.size Wg W):=Z9 (fun W hW=>ae.out.2.2.trans ((Zx.out.trans (hW.mono Zx.out.size)).mono ae.out.2.2.size));have am:Hid (∀W,Below V.heap.size V W→Below w.heap.size w W):=Z9 (fun W hW=>Zx.out.trans (hW.mono Zx.out.size))
 have ba:Hid (V.heap.size=u2.heap.size+1):=Z9 (by rw[hV];exact World.size_alloc _ _);have a9:=Z9 hV;have au:=zbm aA.out Z3;have lu1:=(Z8 au);have HC:Hid (Below V.heap.size V V):=Z9 (Below.refl _ _);obtain⟨sa,sb,sx,st⟩:=aG.out;clear aj ak Z3 Zu ar aq aN aM hV VF UV Yr a7 aA;have ac:=Z9 (zvx ae.out.1 ae.out.2.1 sa sb ZD.out.1 ZD.out.2.1 ZD.out.2.2 Zg.out.1 Zg.out.2.1 Zg.out.2.2 (N:=NN) V (ay.out _ HC.out) (aC.out V HC.out) (aS.out V HC.out) rfl);have y0:=@nxB (6+a.size) (by omega);have y1:=@nxB (6+a.size+2) (by omega);have y2:=@nxB (6+a.size+2+b.size) (by omega);have y3:=@nxB (6+a.size+2+b.size+2) (by omega)
 obtain⟨c0,c1,c2,c3,c4,c5,c6,c7,c8,c9,ca,cb⟩:=zbz au;go_wp2_with fail;rw[←a9.out,←ba.out];refine ac.out.mono ?_;rintro e u ⟨rfl,hb⟩;have hg:=(zaa V _).trans (hb.mono (zaa V _).size);have ab:=Z9 (HC.out.trans (hg.mono HC.out.size));clear hb hg ac HC y0 y1 y2 y3 c0 c1 c2 c3 c4 c5 c6 c7 c8 c9 ca cb au lu1 a9 ba;obtain⟨cw,rfl⟩:∃q:World,q=u:=⟨_,rfl⟩
 have HC:=Z9 ab.out;clear ab;have ac:=Z9 (zvw ae.out.1 ae.out.2.1 sa sb ZD.out.1 ZD.out.2.1 ZD.out.2.2 Zg.out.1 Zg.out.2.1 Zg.out.2.2 (N:=NN) cw (ay.out _ HC.out) (aC.out cw HC.out) (aS.out cw HC.out) rfl);have y0:=@nxB (18+a.size) (by omega);have y1:=@nxB (18+a.size+9) (by omega);have y2:=@nxB (18+a.size+9+b.size) (by omega);have y3:=@nxB (18+a.size+9+b.size+2) (by omega);obtain⟨c0,c1,c2,c3,c4,c5,c6,c7,c8,c9,ca,cb⟩:=zbz (aD.out cw HC.out);obtain⟨d0,d1,d2,d3,d4,d5,d6,d7,d8,d9,da,db⟩:=zbz (bd.out cw HC.out);go_wp2_with fail;refine ac.out.mono ?_;rintro e u ⟨rfl,hb⟩;have hg:=(zaa cw _).trans (hb.mono (zaa cw _).size)
 have ab:=Z9 (HC.out.trans (hg.mono HC.out.size));clear hb hg ac HC y0 y1 y2 y3 c0 c1 c2 c3 c4 c5 c6 c7 c8 c9 ca cb d0 d1 d2 d3 d4 d5 d6 d7 d8 d9 da db;obtain⟨cw,rfl⟩:∃q:World,q=u:=⟨_,rfl⟩
 have HC:=Z9 ab.out;clear ab;have ac:=Z9 (z6f ae.out.1 ae.out.2.1 sa ZD.out.1 ZD.out.2.1 ZD.out.2.2 (N:=NN) cw (ay.out _ HC.out) (aC.out cw HC.out) rfl);have y0:=@nxB (15+a.size) (by omega);have y1:=@nxB (15+a.size+2) (by omega);obtain⟨c0,c1,c2,c3,c4,c5,c6,c7,c8,c9,ca,cb⟩:=zbz (aD.out cw HC.out);go_wp2_with fail;refine ac.out.mono ?_;rintro e u ⟨rfl,hb⟩;have hg:=(zaa cw _).trans (hb.mono (zaa cw _).size);have ab:=Z9 (HC.out.trans (hg.mono HC.out.size));clear hb hg ac HC y0 y1 c0 c1 c2 c3 c4 c5 c6 c7 c8 c9 ca cb;obtain⟨cw,rfl⟩:∃q:World,q=u:=⟨_,rfl⟩
 have HC:=Z9 ab.out;clear ab;go_wp2_with fail;refine(aI.out.rd _ (am.out _ HC.out)).mono ?_;rintro e u3 ⟨n3,p3,q3,k3,i3,rfl,UA,Zw⟩;have aQ:=zaa u3 (eO X3 p3 q3 k3);obtain⟨W3,YD⟩:∃W,W=u3.alloc (eO X3 p3 q3 k3):=⟨_,rfl⟩
 have aw:=Zw.trans (aQ.mono Zw.size);have ao:=heap_alloc_new u3 (eO X3 p3 q3 k3);have aL:=ExAt.below aQ UA;rw[←YD]at ao aL aw;have az:=Z9 (HC.out.trans (aw.mono HC.out.size));have bc:Hid (∀W,Below W3.heap.size W3 W→W.heap[u3.heap.size]?=some (eO X3 p3 q3 k3)):=Z9 (fun W hW=>zbm ao hW);have aH:Hid (∀W,Below W3.heap.size W3 W→ExAt n3 W (eC X3 p3 q3 k3) X3):=Z9 (fun W hW=>ExAt.below hW aL);have VB:=Z9 YD;clear Zw UA aQ aw ao aL YD HC
 have U8:(E3=0∧numX X3=true)∨(E3=0∧numX X3=false)∨¬E3=0:=by
  by_cases h:E3=0
  ·cases numX X3
   ·exact .inr (.inl ⟨h,rfl⟩)
   ·exact .inl ⟨h,rfl⟩
  ·exact .inr (.inr h)
 rcases U8 with⟨VD,hn⟩ |⟨VD,hn⟩ |VD
 case' inl =>
  subst VD;have HN:=Z9 (aI.out.num rfl n3 p3 q3 k3 W3 (am.out _ az.out) (aH.out W3 (Below.refl _ _)));rw[hn]at HN;obtain⟨zx,a0⟩:=aI.out.sx rfl hn;have af:=Z9 a0;clear a0;clear hn;go_wp2_with fail;rw[←VB.out];refine HN.out.mono ?_;rintro e u ⟨rfl,hb⟩;have HQ:=Z9 hb;have HC:=Z9 (az.out.trans (hb.mono az.out.size));clear hb HN;obtain⟨cw,rfl⟩:∃q:World,q=u:=⟨_,rfl⟩
  have ac:=Z9 (zr8 ae.out.1 ae.out.2.1 sa sx ZD.out.1 ZD.out.2.1 ZD.out.2.2 af.out.1 af.out.2.1 af.out.2.2 (N:=(max NN n3)) cw (ay.out _ HC.out) (CtAt.up (Nat.le_max_left _ _) (aC.out cw HC.out)) (ExAt.up (Nat.le_trans (Nat.le_max_right _ _) (Nat.le_succ _)) (aH.out cw HQ.out)) rfl);have y0:=@nxB (6+x.size) (by omega);have y1:=@nxB (6+x.size+2) (by omega);have y2:=@nxB (6+x.size+2+a.size) (by omega);have y3:=@nxB (6+x.size+2+a.size+2) (by omega);obtain⟨e0,e1,e2,e3,e4⟩:=zad (bc.out cw HQ.out);obtain⟨c0,c1,c2,c3,c4,c5,c6,c7,c8,c9,ca,cb⟩:=zbz (aD.out cw HC.out);go_wp2_with fail;refine ac.out.mono ?_
  rintro e u ⟨rfl,hb⟩;have hg:=(zaa cw _).trans (hb.mono (zaa cw _).size);have ab:=Z9 (HC.out.trans (hg.mono HC.out.size));have ai:=Z9 (HQ.out.trans (hg.mono HQ.out.size));clear hb hg ac HC HQ y0 y1 y2 y3 e0 e1 e2 e3 e4 c0 c1 c2 c3 c4 c5 c6 c7 c8 c9 ca cb;obtain⟨cw,rfl⟩:∃q:World,q=u:=⟨_,rfl⟩
  have HC:=Z9 ab.out;have HQ:=Z9 ai.out;clear ab ai;have ac:=Z9 (z00 ae.out.1 ae.out.2.1 sx af.out.1 af.out.2.1 af.out.2.2 (N:=(max NN n3)) cw (ay.out _ HC.out) (ExAt.up (Nat.le_trans (Nat.le_max_right _ _) (Nat.le_succ _)) (aH.out cw HQ.out)));have y0:=@nxB (7+x.size) (by omega);have y1:=@nxB (7+x.size+9) (by omega);obtain⟨e0,e1,e2,e3,e4⟩:=zad (bc.out cw HQ.out);go_wp2_with fail;refine ac.out.mono ?_;rintro e u ⟨rfl,hb⟩;have hg:=hb;have ab:=Z9 (HC.out.trans (hg.mono HC.out.size));have ai:=Z9 (HQ.out.trans (hg.mono HQ.out.size));clear hb hg ac HC HQ y0 y1 e0 e1 e2 e3 e4;obtain⟨cw,rfl⟩:∃q:World,q=u:=⟨_,rfl⟩
  have HC:=Z9 ab.out;have HQ:=Z9 ai.out;clear ab ai;go_wp2_with fail;have aE:=Z9 HC.out;clear HC HQ af
 case' inr.inl =>
  subst VD;have HN:=Z9 (aI.out.num rfl n3 p3 q3 k3 W3 (am.out _ az.out) (aH.out W3 (Below.refl _ _)));rw[hn]at HN;clear hn;go_wp2_with fail;rw[←VB.out];refine HN.out.mono ?_;rintro e u ⟨rfl,hb⟩;have aE:=Z9 (az.out.trans (hb.mono az.out.size));clear hb HN;go_wp2_with fail
 case' inr.inr =>
  have e3:(E3 == 0)=false:=by simp[VD]
  clear VD;go_wp2_with fail;rw[←VB.out];have aE:=Z9 az.out
 all_goals
  refine(aU.out.rd _ (am.out _ aE.out)).mono ?_;rintro e u5 ⟨n4,p4,q4,k4,i4,rfl,UB,Wh⟩;have aP:=zaa u5 (eO X4 p4 q4 k4);obtain⟨W5,We⟩:∃W,W=u5.alloc (eO X4 p4 q4 k4):=⟨_,rfl⟩
  have av:=Wh.trans (aP.mono Wh.size);have an:=heap_alloc_new u5 (eO X4 p4 q4 k4);have aK:=ExAt.below aP UB;rw[←We]at an aK av;have aJ:=Z9 (aE.out.trans (av.mono aE.out.size));have bb:Hid (∀W,Below W5.heap.size W5 W→W.heap[u5.heap.size]?=some (eO X4 p4 q4 k4)):=Z9 (fun W hW=>zbm an hW);have aR:Hid (∀W,Below W5.heap.size W5 W→ExAt n4 W (eC X4 p4 q4 k4) X4):=Z9 (fun W hW=>ExAt.below hW aK);have Tf:=Z9 We;clear Wh UB aP av an aK We aE
  by_cases R5:E4=0
  case neg =>
   have e4:(E4 == 0)=false:=by simp[R5]
   have HF:=Z9 (am.out _ aJ.out);clear R5;go_wp2_with fail;rw[←Tf.out];go_ret;exact⟨rfl,HF.out⟩
  subst R5;have HN:=Z9 (aU.out.tru rfl n4 p4 q4 k4 W5 (am.out _ aJ.out) (aR.out W5 (Below.refl _ _)));obtain⟨bt,Wm⟩:∃q,q=truX X4:=⟨_,rfl⟩
  rw[←Wm]at HN;have aZ:=Z9 Wm;clear Wm;go_wp2_with fail;rw[←Tf.out];refine HN.out.mono ?_;rintro e u ⟨rfl,hb⟩;have HQ:=Z9 hb;have HC:=Z9 (aJ.out.trans (hb.mono aJ.out.size));clear hb HN
  cases bt with
  |false =>
   have HF:=Z9 (am.out _ HC.out);go_wp2_with fail;go_ret;exact⟨rfl,HF.out⟩
  |true =>
   obtain⟨zt,a3⟩:=aU.out.sx rfl aZ.out.symm;have af:=Z9 a3;clear a3;obtain⟨cw,rfl⟩:∃q:World,q=u:=⟨_,rfl⟩
   have ac:=Z9 (z02 ae.out.1 ae.out.2.1 sa sb st ZD.out.1 ZD.out.2.1 ZD.out.2.2 Zg.out.1 Zg.out.2.1 Zg.out.2.2 af.out.1 af.out.2.1 af.out.2.2 (N:=(max NN n4)) cw (ay.out _ HC.out) (CtAt.up (Nat.le_max_left _ _) (aC.out cw HC.out)) (CtAt.up (Nat.le_max_left _ _) (aS.out cw HC.out)) (ExAt.up (Nat.le_trans (Nat.le_max_right _ _) (Nat.le_succ _)) (aR.out cw HQ.out)) rfl);have y0:=@nxB (3+t.size) (by omega);have y1:=@nxB (3+t.size+2) (by omega);have y2:=@nxB (3+t.size+2+a.size) (by omega);have y3:=@nxB (3+t.size+2+a.size+9) (by omega);have y4:=@nxB (3+t.size+2+a.size+9+b.size) (by omega);have y5:=@nxB (3+t.size+2+a.size+9+b.size+2) (by omega)
   obtain⟨e0,e1,e2,e3,e4⟩:=zad (bb.out cw HQ.out);obtain⟨c0,c1,c2,c3,c4,c5,c6,c7,c8,c9,ca,cb⟩:=zbz (aD.out cw HC.out);obtain⟨d0,d1,d2,d3,d4,d5,d6,d7,d8,d9,da,db⟩:=zbz (bd.out cw HC.out);go_wp2_with fail;refine ac.out.mono ?_;rintro e u ⟨rfl,hb⟩;have hg:=(zaa cw _).trans (hb.mono (zaa cw _).size);have ab:=Z9 (HC.out.trans (hg.mono HC.out.size));have ai:=Z9 (HQ.out.trans (hg.mono HQ.out.size));clear hb hg ac HC HQ y0 y1 y2 y3 y4 y5 e0 e1 e2 e3 e4 c0 c1 c2 c3 c4 c5 c6 c7 c8 c9 ca cb d0 d1 d2 d3 d4 d5 d6 d7 d8 d9 da db;obtain⟨cw,rfl⟩:∃q:World,q=u:=⟨_,rfl⟩
   have HC:=Z9 ab.out;have HQ:=Z9 ai.out;clear ab ai;have ac:=Z9 (zvv ae.out.1 ae.out.2.1 sa st ZD.out.1 ZD.out.2.1 ZD.out.2.2 af.out.1 af.out.2.1 af.out.2.2 (N:=(max NN n4)) cw (ay.out _ HC.out) (CtAt.up (Nat.le_max_left _ _) (aC.out cw HC.out)) (ExAt.up (Nat.le_trans (Nat.le_max_right _ _) (Nat.le_succ _)) (aR.out cw HQ.out)) rfl rfl);have y0:=@nxB (5+t.size) (by omega);have y1:=@nxB (5+t.size+16) (by omega);have y2:=@nxB (5+t.size+16+a.size) (by omega);have y3:=@nxB (5+t.size+16+a.size+2) (by omega);obtain⟨e0,e1,e2,e3,e4⟩:=zad (bb.out cw HQ.out);obtain⟨c0,c1,c2,c3,c4,c5,c6,c7,c8,c9,ca,cb⟩:=zbz (aD.out cw HC.out)
   have lt1:=(Z8 (aD.out cw HC.out));go_wp2_with fail;refine ac.out.mono ?_;rintro e u ⟨rfl,hb⟩;have hg:=((zaa cw _).trans ((zaa _ _).mono (zaa cw _).size)).trans (hb.mono ((zaa cw _).trans ((zaa _ _).mono (zaa cw _).size)).size);have ab:=Z9 (HC.out.trans (hg.mono HC.out.size));have ai:=Z9 (HQ.out.trans (hg.mono HQ.out.size));clear hb hg ac HC HQ y0 y1 y2 y3 e0 e1 e2 e3 e4 c0 c1 c2 c3 c4 c5 c6 c7 c8 c9 ca cb lt1;obtain⟨cw,rfl⟩:∃q:World,q=u:=⟨_,rfl⟩
   have HC:=Z9 ab.out;have HQ:=Z9 ai.out;clear ab ai;have HF:=Z9 (am.out _ HC.out);go_wp2_with fail;go_ret;exact⟨rfl,HF.out⟩
theorem z01{Wg:World}(hs:zb6 Wg)(hp:zcr Wg)(Zi:Hid (∀W,Below Wg.heap.size Wg W→Calls Tryz.prog 29 #[] W (BelB W true)))(a b x t:ByteArray)(w:World)(hb:Below Wg.heap.size Wg w) :
 Calls Tryz.prog 9 #[.string a,.string b,.string x,.string t] w (BelB w true):=by
 by_cases h:a.size≤3000∧b.size≤3000∧x.size≤3000∧t.size≤3000
 ·exact z6g hs hp Zi a b x t w hb h.1 h.2.1 h.2.2.1 h.2.2.2
 have al:=Z9 (Zi.out w hb);clear hs hp Zi hb
 have key:∀s:ByteArray,(decide ((3000:Int)<(s.size:Int))=true∧¬s.size≤3000)∨(decide ((3000:Int)<(s.size:Int))=false∧s.size≤3000):=fun s=>by
  by_cases h:s.size≤3000
  ·exact .inr ⟨decide_eq_false (by omega),h⟩
  ·exact .inl ⟨decide_eq_true (by omega),h⟩
 have l1:=key a;have l2:=key b;have l3:=key x;have l4:=key t;clear key
 rcases l1 with⟨l1,h1⟩ |⟨l1,h1⟩
 case' inr =>
  rcases l2 with⟨l2,h2⟩ |⟨l2,h2⟩
  case' inr =>
   rcases l3 with⟨l3,h3⟩ |⟨l3,h3⟩
   case' inr =>
    rcases l4 with⟨l4,h4⟩ |⟨l4,h4⟩
    case' inr=>exact absurd ⟨h1,h2,h3,h4⟩ h
 all_goals
  clear h;go_enter Tryz.func9,Tryz.ntmps9;go_wp2_with fail;refine al.out.mono ?_;rintro e w1 ⟨rfl,hb⟩;have ZT:=Z9 hb;clear hb;go_wp2_with fail;go_ret;exact⟨rfl,ZT.out⟩
open Go.RowKit
theorem zr9(a b x t:ByteArray)(W:World)(hs:zb6 W)(hp:zcr W):Calls Tryz.prog 9 #[.string a,.string b,.string x,.string t] W (BelB W true) :=
 z01 hs hp (Z9 fun W' hW=>zsb hs hp W' hW) a b x t W (Below.refl _ _)
end Go.Proofs.YtkobkpepgdddeaaGreatDoor
