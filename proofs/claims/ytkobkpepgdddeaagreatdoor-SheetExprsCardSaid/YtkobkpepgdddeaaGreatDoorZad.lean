/-
  The reference's Digits. No condition.
-/
import Derived.Test.YtkobkpepgdddeaaGreatDoorZab
import Derived.Laws.IdiomStrings
import Derived.Test.YtkobkpepgdddeaaGreatDoorZac
import Derived.RangeFuncBox
import Derived.RangeFuncLeaves
import Derived.RangeFuncWrites
import Derived.Shelf.Abstract
import Derived.OwnWalkIn
import Derived.TacticsInMore
import Derived.LoopNIn
import Derived.LoopIn
import Derived.Maps.AppendAt
namespace Go.Proofs.YtkobkpepgdddeaaGreatDoor
open Go.RowKit
set_option maxHeartbeats 16000000
set_option maxRecDepth 100000
theorem z26{l:List UInt8}(h:l.head?≠some 45)(hc:CanN l):rdZ l=some (dval (za3 l):Int):=by
 unfold rdZ;rw[if_neg h];unfold rdN;rw[if_pos ((zf2 l).2 hc)];rfl
theorem z28{l:List UInt8}(h:l.head?=some 45)(hc:CanN l.tail)(h0:l.tail.head?≠some 48):∃z:Int,rdZ l=some z∧z<0∧z.natAbs=dval (za3 l.tail):=by
 have e:=zbt _ hc;unfold rdZ;rw[if_pos h];unfold rdN;rw[if_pos ((zf2 l.tail).2 hc)]
 cases hd:dval (za3 l.tail)with
 |zero =>
  rw[hd]at e
  exfalso;apply h0;rw[←e];rfl
 |succ n=>exact⟨_,rfl,by omega,by omega⟩
theorem z1p{l:List UInt8}(h:l.head?≠some 45)(hc:¬CanN l):rdZ l=none:=by
 unfold rdZ;rw[if_neg h,zlg hc];rfl
theorem zvk{l:List UInt8}(h:l.head?=some 45)(hc:¬CanN l.tail):rdZ l=none:=by
 unfold rdZ;rw[if_pos h,zlg hc]
theorem z27{l:List UInt8}(h:l.head?=some 45)(h0:l.tail.head?=some 48):rdZ l=none:=by
 unfold rdZ;rw[if_pos h]
 cases e:rdN l.tail with
 |none=>rfl
 |some n =>
  cases n with
  |zero=>rfl
  |succ n =>
   exfalso
   have e:=zic e;have hh:=zg7 (n+1);rw[←e]at hh;have h1:=hh.2.2 h0
   have h2:l.tail=[48]:=by
    match hl:l.tail,h1 with
    | [c],_=>rw[hl]at h0;simp at h0;rw[h0]
   have:txtN (n+1)=txtN 0:=by rw[←e,h2];rfl
   have:=zqd this;omega
theorem zhc(l:List UInt8)(k:Nat)(c:UInt8)(h:l[k]?=some c):za3 (l.drop (k+1)) ++ [c.toNat-48]=za3 (l.drop k):=by
 have hk:k<l.length:=(List.getElem?_eq_some_iff.1 h).1;rw[List.drop_eq_getElem_cons hk];have:l[k]=c:=by rw[List.getElem?_eq_getElem hk]at h;injection h
 unfold za3;rw[this];simp
theorem zkr{l:List UInt8}(h:CanN l):decN (dval (za3 l))=za3 l:=by
 have:=congrArg za3 (zbt l h)
 rwa [zf0]at this
def zfy(w:World)(l:List UInt8)(e:Ending)(w':World):Prop :=
 (∃z a n c,rdZ l=some z∧e=.returned (.tuple #[.slice a n c,.bool (decide (z<0)),.bool true])∧(decN z.natAbs).length=n∧n≤c∧Nums .i64 w' a (decN z.natAbs)∧Below w.heap.size w w') ∨
 (rdZ l=none∧e=.returned (.tuple #[.slice none 0 0,.bool false,.bool false])∧Below w.heap.size w w')
def DgR(w:World)(t:ByteArray)(n:Nat)(o iv:Value)(wr:World):Prop :=
 ∃i:Nat,i≤n∧iv=.int .i64 ((i:Int)-1)∧wr.ownsRow w.heap.size 3 1 o (n-i) (nums .i64 (za3 (t.data.toList.drop i)))∧(∀c ∈ t.data.toList.drop i,48≤c.toNat∧c.toNat≤57)∧Below w.heap.size w wr
theorem zjp(w:World)(t:ByteArray)(n:Nat)(h:t.size=n):DgR w t n (.slice none 0 0) (.int .i64 ((n:Int)-1)) w:=by
 refine⟨n,Nat.le_refl _,rfl,?_,?_,Below.refl _ _⟩
 ·rw[List.drop_eq_nil_of_le (by rw[zab];omega),Nat.sub_self]
  exact World.ownsRow_nil _ _ _ _
 ·rw[List.drop_eq_nil_of_le (by rw[zab];omega)];simp
theorem zbw(s:ByteArray)(k:Nat)(h:k<s.size):s.data.toList.drop k=s[k] :: s.data.toList.drop (k+1):=by
 rw[List.drop_eq_getElem_cons (by rw[zab];exact h)]
 congr 1
theorem zjo(s:ByteArray)(w:World)(hs:s.size≤1000000)(h0:0<s.size)(h1:((s[0].toNat:Int) == 45)=true)
 (h2:0<s.size-1) (a5:(((s.size-1:Nat):Int) == 0)=false) (a3:(((s.extract 1 s.size)[0]'(by simp;omega)).toNat == (48:Int))=false)
 (HT:Hid ((s.extract 1 s.size).size=s.size-1)) (HS:Hid (DgR w (s.extract 1 s.size) (s.size-1) (.slice none 0 0) (.int .i64 (((s.size-1:Nat):Int)-1)) w))
 (HE:Hid (∀c,c ∈ (s.extract 1 s.size).data.toList→¬(48≤c.toNat∧c.toNat≤57)→rdZ s.data.toList=none))
 (HC:Hid ((∀c ∈ (s.extract 1 s.size).data.toList,48≤c.toNat∧c.toNat≤57)→∃z,rdZ s.data.toList=some z∧decN z.natAbs=za3 (s.extract 1 s.size).data.toList∧decide (z<0)=true)) :
 Calls Tryz.prog 175 #[.string s] w (zfy w s.data.toList):=by
 obtain⟨i0,hi,ZN,ZO,ZD⟩:=info_parts zgl;go_enter Tryz.func175,Tryz.ntmps175;go_wp2_with fail;go_loopw [7,8] (DgR w (s.extract 1 s.size) (s.size-1)) (fun _ i _=>(intOf i+1).toNat)
 case atStart=>exact HS.out
 case round =>
  obtain⟨i,VJ,rfl,ho,hd,hb⟩:=hrel;have HD:=Z9 hd;obtain⟨D,hD⟩:∃D,D=za3 ((s.extract 1 s.size).data.toList.drop i):=⟨_,rfl⟩
  rw[←hD]at ho;have HDD:=Z9 hD;have HO:=Z9 ho;have HB:=Z9 hb;clear hd ho hb hD
  by_cases UW:1≤i
  ·obtain⟨k,rfl⟩:∃k,i=k+1:=⟨i-1,by omega⟩
   have Z7:k<s.size-1:=by omega
   have hlt':k<(s.extract 1 s.size).size:=by have:=HT.out;omega
   rw[show(((k+1:Nat):Int)-1)=(k:Int)by omega]
   by_cases hc:48≤(s.extract 1 s.size)[k].toNat∧(s.extract 1 s.size)[k].toNat≤57
   ·have HN:Hid (∀c ∈ (s.extract 1 s.size).data.toList.drop k,48≤c.toNat∧c.toNat≤57):=by
     show ∀c ∈ _,_
     rw[zbw _ k hlt'];intro c X1
     rcases List.mem_cons.1 X1 with rfl |X1
     ·exact hc
     ·exact HD.out c X1
    have HU:=Z9 (zhc (s.extract 1 s.size).data.toList k _ (Lib.data_getElem? _ k hlt'));obtain⟨x,hx⟩:∃x,x=(s.extract 1 s.size)[k].toNat-48:=⟨_,rfl⟩
    rw[←hx]at HU;have ZJ:(((s.extract 1 s.size)[k].toNat:Int)-48)=(x:Int):=by omega
    have Yp:x<10:=by omega
    have HX:=Z9 ZJ;clear hx ZJ;obtain⟨c1,c2⟩:=hc;go_wp2_with (at_builtin;refine zas _ rfl (.tmp 54) (.tmp 60) 37 rfl w.heap.size 3 i0 (.int .i64 0) 8 Tryz.underlying37 hi ZN ZO ZD rfl _ _ _ rfl (HO.out.alloc _) ⟨wr.heap.size,0,none⟩ 1 (.int .i64 x) rfl ?c1 rfl ?c3 ?c4 ?c5 ?_)
    case c1=>rw[←HX.out];simp
    case c3=>unfold maxLen;omega
    case c4=>omega
    case c5=>have:=HB.out.size;simp;omega
    intro v1 w1 Zg Ze YT YL;have n1:Below w.heap.size w w1:=(HB.out.alloc HB.out.size _).grown Ze (by have:=HB.out.size;simp;omega) (fun k hk=>(HO.out.lt k hk).1);rw[zbo,HDD.out,HU.out,show s.size-1-(k+1)+1=s.size-1-k by omega]at Zg;have HO1:=Z9 Zg;have N1:=Z9 n1;clear Zg n1 Ze YT YL;go_wp2_with fail;go_roundw
    case rel=>exact⟨k,by omega,rfl,HO1.out,HN.out,N1.out⟩
    case measure=>simp[intOf]<;>omega
   ·have e4:=Z9 (HE.out _ (zc9 _ k hlt') hc)
    have hc':(s.extract 1 s.size)[k].toNat<48∨57<(s.extract 1 s.size)[k].toNat:=by omega
    clear hc
    rcases hc' with c1 |c1
    ·go_wp2_with fail
     go_ret3;exact .inr ⟨e4.out,rfl,HB.out⟩
    ·go_wp2_with fail
     go_ret3;exact .inr ⟨e4.out,rfl,HB.out⟩
  ·obtain rfl:i=0:=by omega
   have e4:=HC.out (by have:=HD.out;rwa [List.drop_zero]at this);have ho:=HO.out;rw[HDD.out,List.drop_zero,Nat.sub_zero]at ho;have E4:=Z9 e4;have HO2:=Z9 ho;clear e4 ho;go_wp2_with fail;go_ret3;obtain⟨z,e1,e2,e3⟩:=E4.out;obtain⟨a,c,hv,hl,Wp,XA⟩:=zau HO2.out;rw[←e2]at hl XA;exact .inl ⟨z,a,s.size-1,c,e1,by rw[hv,e3];rfl,hl,Wp,XA,HB.out⟩
theorem zjm(s:ByteArray)(w:World)(hs:s.size≤1000000)(h0:0<s.size)(h1:((s[0].toNat:Int) == 45)=false)
 (a5:((s.size:Int) == 0)=false) (a3:((s[0].toNat:Int) == 48)=false)
 (HT:Hid ((s).size=s.size)) (HS:Hid (DgR w (s) (s.size) (.slice none 0 0) (.int .i64 (((s.size:Nat):Int)-1)) w))
 (HE:Hid (∀c,c ∈ (s).data.toList→¬(48≤c.toNat∧c.toNat≤57)→rdZ s.data.toList=none))
 (HC:Hid ((∀c ∈ (s).data.toList,48≤c.toNat∧c.toNat≤57)→∃z,rdZ s.data.toList=some z∧decN z.natAbs=za3 (s).data.toList∧decide (z<0)=false)) :
 Calls Tryz.prog 175 #[.string s] w (zfy w s.data.toList):=by
 obtain⟨i0,hi,ZN,ZO,ZD⟩:=info_parts zgl;go_enter Tryz.func175,Tryz.ntmps175;go_wp2_with fail;go_loopw [7,8] (DgR w (s) (s.size)) (fun _ i _=>(intOf i+1).toNat)
 case atStart=>exact HS.out
 case round =>
  obtain⟨i,VJ,rfl,ho,hd,hb⟩:=hrel;have HD:=Z9 hd;obtain⟨D,hD⟩:∃D,D=za3 ((s).data.toList.drop i):=⟨_,rfl⟩
  rw[←hD]at ho;have HDD:=Z9 hD;have HO:=Z9 ho;have HB:=Z9 hb;clear hd ho hb hD
  by_cases UW:1≤i
  ·obtain⟨k,rfl⟩:∃k,i=k+1:=⟨i-1,by omega⟩
   have Z7:k<s.size:=by omega
   have hlt':k<(s).size:=by have:=HT.out;omega
   rw[show(((k+1:Nat):Int)-1)=(k:Int)by omega]
   by_cases hc:48≤(s)[k].toNat∧(s)[k].toNat≤57
   ·have HN:Hid (∀c ∈ (s).data.toList.drop k,48≤c.toNat∧c.toNat≤57):=by
     show ∀c ∈ _,_
     rw[zbw _ k hlt'];intro c X1
     rcases List.mem_cons.1 X1 with rfl |X1
     ·exact hc
     ·exact HD.out c X1
    have HU:=Z9 (zhc (s).data.toList k _ (Lib.data_getElem? _ k hlt'));obtain⟨x,hx⟩:∃x,x=(s)[k].toNat-48:=⟨_,rfl⟩
    rw[←hx]at HU;have ZJ:(((s)[k].toNat:Int)-48)=(x:Int):=by omega
    have Yp:x<10:=by omega
    have HX:=Z9 ZJ;clear hx ZJ;obtain⟨c1,c2⟩:=hc;go_wp2_with (at_builtin;refine zas _ rfl (.tmp 54) (.tmp 60) 37 rfl w.heap.size 3 i0 (.int .i64 0) 8 Tryz.underlying37 hi ZN ZO ZD rfl _ _ _ rfl (HO.out.alloc _) ⟨wr.heap.size,0,none⟩ 1 (.int .i64 x) rfl ?c1 rfl ?c3 ?c4 ?c5 ?_)
    case c1=>rw[←HX.out];simp
    case c3=>unfold maxLen;omega
    case c4=>omega
    case c5=>have:=HB.out.size;simp;omega
    intro v1 w1 Zg Ze YT YL;have n1:Below w.heap.size w w1:=(HB.out.alloc HB.out.size _).grown Ze (by have:=HB.out.size;simp;omega) (fun k hk=>(HO.out.lt k hk).1);rw[zbo,HDD.out,HU.out,show s.size-(k+1)+1=s.size-k by omega]at Zg;have HO1:=Z9 Zg;have N1:=Z9 n1;clear Zg n1 Ze YT YL;go_wp2_with fail;go_roundw
    case rel=>exact⟨k,by omega,rfl,HO1.out,HN.out,N1.out⟩
    case measure=>simp[intOf]<;>omega
   ·have e4:=Z9 (HE.out _ (zc9 _ k hlt') hc)
    have hc':(s)[k].toNat<48∨57<(s)[k].toNat:=by omega
    clear hc
    rcases hc' with c1 |c1
    ·go_wp2_with fail
     go_ret3;exact .inr ⟨e4.out,rfl,HB.out⟩
    ·go_wp2_with fail
     go_ret3;exact .inr ⟨e4.out,rfl,HB.out⟩
  ·obtain rfl:i=0:=by omega
   have e4:=HC.out (by have:=HD.out;rwa [List.drop_zero]at this);have ho:=HO.out;rw[HDD.out,List.drop_zero,Nat.sub_zero]at ho;have E4:=Z9 e4;have HO2:=Z9 ho;clear e4 ho;go_wp2_with fail;go_ret3;obtain⟨z,e1,e2,e3⟩:=E4.out;obtain⟨a,c,hv,hl,Wp,XA⟩:=zau HO2.out;rw[←e2]at hl XA;exact .inl ⟨z,a,s.size,c,e1,by rw[hv,e3];rfl,hl,Wp,XA,HB.out⟩
theorem zh1(s:ByteArray)(w:World)(hs:s.size≤1)(h0:0<s.size)(h1:((s[0].toNat:Int) == 45)=false)
 (a3:((s[0].toNat:Int) == 48)=true)
 (HT:Hid ((s).size=s.size)) (HS:Hid (DgR w (s) (s.size) (.slice none 0 0) (.int .i64 (((s.size:Nat):Int)-1)) w))
 (HE:Hid (∀c,c ∈ (s).data.toList→¬(48≤c.toNat∧c.toNat≤57)→rdZ s.data.toList=none))
 (HC:Hid ((∀c ∈ (s).data.toList,48≤c.toNat∧c.toNat≤57)→∃z,rdZ s.data.toList=some z∧decN z.natAbs=za3 (s).data.toList∧decide (z<0)=false)) :
 Calls Tryz.prog 175 #[.string s] w (zfy w s.data.toList):=by
 obtain⟨i0,hi,ZN,ZO,ZD⟩:=info_parts zgl;have a5:((s.size:Int) == 0)=false:=by rw[beq_eq_false_iff_ne];omega
 have a4:decide ((1:Int)<(s.size:Int))=false:=by simp;omega
 go_enter Tryz.func175,Tryz.ntmps175;go_wp2_with fail;go_loopw [7,8] (DgR w (s) (s.size)) (fun _ i _=>(intOf i+1).toNat)
 case atStart=>exact HS.out
 case round =>
  obtain⟨i,VJ,rfl,ho,hd,hb⟩:=hrel;have HD:=Z9 hd;obtain⟨D,hD⟩:∃D,D=za3 ((s).data.toList.drop i):=⟨_,rfl⟩
  rw[←hD]at ho;have HDD:=Z9 hD;have HO:=Z9 ho;have HB:=Z9 hb;clear hd ho hb hD
  by_cases UW:1≤i
  ·obtain⟨k,rfl⟩:∃k,i=k+1:=⟨i-1,by omega⟩
   have Z7:k<s.size:=by omega
   have hlt':k<(s).size:=by have:=HT.out;omega
   rw[show(((k+1:Nat):Int)-1)=(k:Int)by omega]
   by_cases hc:48≤(s)[k].toNat∧(s)[k].toNat≤57
   ·have HN:Hid (∀c ∈ (s).data.toList.drop k,48≤c.toNat∧c.toNat≤57):=by
     show ∀c ∈ _,_
     rw[zbw _ k hlt'];intro c X1
     rcases List.mem_cons.1 X1 with rfl |X1
     ·exact hc
     ·exact HD.out c X1
    have HU:=Z9 (zhc (s).data.toList k _ (Lib.data_getElem? _ k hlt'));obtain⟨x,hx⟩:∃x,x=(s)[k].toNat-48:=⟨_,rfl⟩
    rw[←hx]at HU;have ZJ:(((s)[k].toNat:Int)-48)=(x:Int):=by omega
    have Yp:x<10:=by omega
    have HX:=Z9 ZJ;clear hx ZJ;obtain⟨c1,c2⟩:=hc;go_wp2_with (at_builtin;refine zas _ rfl (.tmp 54) (.tmp 60) 37 rfl w.heap.size 3 i0 (.int .i64 0) 8 Tryz.underlying37 hi ZN ZO ZD rfl _ _ _ rfl (HO.out.alloc _) ⟨wr.heap.size,0,none⟩ 1 (.int .i64 x) rfl ?c1 rfl ?c3 ?c4 ?c5 ?_)
    case c1=>rw[←HX.out];simp
    case c3=>unfold maxLen;omega
    case c4=>omega
    case c5=>have:=HB.out.size;simp;omega
    intro v1 w1 Zg Ze YT YL;have n1:Below w.heap.size w w1:=(HB.out.alloc HB.out.size _).grown Ze (by have:=HB.out.size;simp;omega) (fun k hk=>(HO.out.lt k hk).1);rw[zbo,HDD.out,HU.out,show s.size-(k+1)+1=s.size-k by omega]at Zg;have HO1:=Z9 Zg;have N1:=Z9 n1;clear Zg n1 Ze YT YL;go_wp2_with fail;go_roundw
    case rel=>exact⟨k,by omega,rfl,HO1.out,HN.out,N1.out⟩
    case measure=>simp[intOf]<;>omega
   ·have e4:=Z9 (HE.out _ (zc9 _ k hlt') hc)
    have hc':(s)[k].toNat<48∨57<(s)[k].toNat:=by omega
    clear hc
    rcases hc' with c1 |c1
    ·go_wp2_with fail
     go_ret3;exact .inr ⟨e4.out,rfl,HB.out⟩
    ·go_wp2_with fail
     go_ret3;exact .inr ⟨e4.out,rfl,HB.out⟩
  ·obtain rfl:i=0:=by omega
   have e4:=HC.out (by have:=HD.out;rwa [List.drop_zero]at this);have ho:=HO.out;rw[HDD.out,List.drop_zero,Nat.sub_zero]at ho;have E4:=Z9 e4;have HO2:=Z9 ho;clear e4 ho;go_wp2_with fail;go_ret3;obtain⟨z,e1,e2,e3⟩:=E4.out;obtain⟨a,c,hv,hl,Wp,XA⟩:=zau HO2.out;rw[←e2]at hl XA;exact .inl ⟨z,a,s.size,c,e1,by rw[hv,e3];rfl,hl,Wp,XA,HB.out⟩
theorem znz(s:ByteArray)(w:World)(h0:s.size=0)(_a5:((s.size:Int) == 0)=true)(HE:Hid (rdZ s.data.toList=none)):Calls Tryz.prog 175 #[.string s] w (zfy w s.data.toList):=by
 go_enter Tryz.func175,Tryz.ntmps175;go_wp2_with fail;go_ret3;exact .inr ⟨HE.out,rfl,Below.refl _ _⟩
theorem zh3(s:ByteArray)(w:World)(h0:1<s.size)(h1:((s[0].toNat:Int) == 45)=false)(a3:((s[0].toNat:Int) == 48)=true)(HE:Hid (rdZ s.data.toList=none)):Calls Tryz.prog 175 #[.string s] w (zfy w s.data.toList):=by
 have a5:((s.size:Int) == 0)=false:=by rw[beq_eq_false_iff_ne];omega
 go_enter Tryz.func175,Tryz.ntmps175;go_wp2_with fail;go_ret3;exact .inr ⟨HE.out,rfl,Below.refl _ _⟩
theorem zh2(s:ByteArray)(w:World)(h0:0<s.size)(_h2:s.size-1<1)(a5:(((s.size-1:Nat):Int) == 0)=true)(h1:((s[0].toNat:Int) == 45)=true)(HE:Hid (rdZ s.data.toList=none)):Calls Tryz.prog 175 #[.string s] w (zfy w s.data.toList):=by
 go_enter Tryz.func175,Tryz.ntmps175;go_wp2_with fail;go_ret3;exact .inr ⟨HE.out,rfl,Below.refl _ _⟩
theorem zjn(s:ByteArray)(w:World)(h0:0<s.size)(h1:((s[0].toNat:Int) == 45)=true)
 (h2:0<s.size-1) (a5:(((s.size-1:Nat):Int) == 0)=false) (a3:(((s.extract 1 s.size)[0]'(by simp;omega)).toNat == (48:Int))=true) (HE:Hid (rdZ s.data.toList=none)):Calls Tryz.prog 175 #[.string s] w (zfy w s.data.toList):=by
 go_enter Tryz.func175,Tryz.ntmps175;go_wp2_with fail
 all_goals
  go_ret3;exact .inr ⟨HE.out,rfl,Below.refl _ _⟩
theorem zdm(s:ByteArray)(w:World)(hs:s.size≤1000000):Calls Tryz.prog 175 #[.string s] w (zfy w s.data.toList):=by
 by_cases h0:s.size=0
 ·refine znz s w h0 (by rw[h0];rfl) ?_
  have:s.data.toList=[]:=List.eq_nil_of_length_eq_zero (by rw[zab];exact h0)
  show _=_
  rw[this];rfl
 ·have h0:0<s.size:=by omega
  cases h1:((s[0].toNat:Int) == 45)with
  |true =>
   have H45:=zgm h0 (n:=45) (by omega) h1;have HT:(s.extract 1 s.size).size=s.size-1:=by simp
   have ht:=ziu s
   by_cases h2:s.size=1
   ·refine zh2 s w h0 (by omega) (by rw[h2];rfl) h1 (zvk H45 ?_)
    have:s.data.toList.tail=[]:=List.eq_nil_of_length_eq_zero (by rw[List.length_tail,zab];omega)
    rw[this];exact fun h=>h.1 rfl
   ·have h2:0<s.size-1:=by omega
    have a5:(((s.size-1:Nat):Int) == 0)=false:=by rw[beq_eq_false_iff_ne];omega
    have h2':0<(s.extract 1 s.size).size:=by omega
    cases a3:(((s.extract 1 s.size)[0].toNat:Int) == 48)with
    |true =>
     have hd:=zgm h2' (n:=48) (by omega) a3;exact zjn s w h0 h1 h2 a5 a3 (z27 H45 (by rw[←ht];exact hd))
    |false =>
     have hd:=ze2 h2' (n:=48) (by omega) a3
     have ZT:(s.extract 1 s.size).data.toList≠[]:=fun h=>by have:=zab (s.extract 1 s.size);rw[h]at this;simp at this;omega
     refine zjo s w hs h0 h1 h2 a5 a3 HT (zjp w _ _ HT) (fun c hc hn=>zvk H45 (fun h=>hn (h.2.1 c (by rw[←ht];exact hc)))) (fun h => ?_)
     have hcan:CanN s.data.toList.tail:=by rw[←ht];exact⟨ZT,h,fun WH=>absurd WH hd⟩
     obtain⟨z,e1,e2,e3⟩:=z28 H45 hcan (by rw[←ht];exact hd);exact⟨z,e1,by rw[e3,ht,zkr hcan],by simpa using e2⟩
  |false =>
   have hh:=ze2 h0 (n:=45) (by omega) h1
   have ZT:s.data.toList≠[]:=fun h=>by have:=zab s;rw[h]at this;simp at this;omega
   have Zw:∀(h:CanN s.data.toList),∃z,rdZ s.data.toList=some z∧decN z.natAbs=za3 s.data.toList∧decide (z<0)=false:=fun h =>
    ⟨_,z26 hh h,by rw[Int.natAbs_natCast,zkr h],by simp⟩
   have XX:∀c,c ∈ s.data.toList→¬(48≤c.toNat∧c.toNat≤57)→rdZ s.data.toList=none:=fun c hc hn=>z1p hh (fun h=>hn (h.2.1 c hc))
   cases a3:((s[0].toNat:Int) == 48)with
   |true =>
    have hd:=zgm h0 (n:=48) (by omega) a3
    by_cases h2:1<s.size
    ·exact zh3 s w h2 h1 a3 (z1p hh (fun h=>by have:=h.2.2 hd;rw[zab]at this;omega))
    ·exact zh1 s w (by omega) h0 h1 a3 rfl (zjp w _ _ rfl) XX (fun h=>Zw ⟨ZT,h,fun _=>by rw[zab];omega⟩)
   |false =>
    have hd:=ze2 h0 (n:=48) (by omega) a3;exact zjm s w hs h0 h1 (by rw[beq_eq_false_iff_ne];omega) a3 rfl (zjp w _ _ rfl) XX (fun h=>Zw ⟨ZT,h,fun WH=>absurd WH hd⟩)
theorem zh7{n:Nat}(h:0<n):txtZ (-(n:Int))=45 :: txtN n:=by
 unfold txtZ;rw[if_pos (by omega),Int.natAbs_neg,Int.natAbs_natCast]
theorem zdz(n:Nat):txtZ (n:Int)=txtN n:=by
 unfold txtZ;rw[if_neg (by omega),Int.natAbs_natCast]
theorem zue(l:List Nat)(k:Nat)(hk:k+1≤l.length)(d:∀x ∈ l,x<10)(h:dval (l.take (k+1))=dval l)(h0:l.getD k 0≠0):decN (dval l)=l.take (k+1)∧0<dval l:=by
 have hD:Dig (l.take (k+1)):=by
  refine⟨fun x hx=>d x (List.mem_of_mem_take hx),?_⟩;rw[List.take_add_one,List.getElem?_eq_getElem (by omega)];simp only[Option.toList_some,List.getLast?_concat];rw[List.getD_eq_getElem?_getD,List.getElem?_eq_getElem (by omega)]at h0;simpa using h0
 have e:=zg6 _ hD;rw[h]at e
 have ZT:dval l≠0:=by
  intro hz;rw[hz,zce]at e;have:=congrArg List.length e;rw[List.length_take]at this;simp at this;omega
 exact⟨by unfold decN;rw[if_neg ZT,e],by omega⟩
def txtP(neg:Bool)(l:List Nat)(i:Nat):List UInt8:=(if neg then[45]else[]) ++ (l.drop i).reverse.map dgB
theorem zka(neg:Bool)(l:List Nat):txtP neg l l.length=if neg then[45]else[]:=by simp[txtP]
theorem zua(neg:Bool)(l:List Nat)(i:Nat)(h:i<l.length):txtP neg l (i+1) ++ [dgB (l.getD i 0)]=txtP neg l i:=by
 unfold txtP
 have:l.drop i=l.getD i 0 :: l.drop (i+1):=by
  rw[List.drop_eq_getElem_cons h,List.getD_eq_getElem?_getD,List.getElem?_eq_getElem h];rfl
 rw[this];simp
theorem zx2(neg:Bool)(V:Nat)(h:0<V):txtP neg (decN V) 0=txtZ (if neg then -(V:Int)else(V:Int)):=by
 unfold txtP
 cases neg
 ·simp[zdz,txtN]
 ·simp[zh7 h,txtN]
theorem zx1(neg:Bool)(l:List Nat)(i:Nat)(h:i≤l.length):(txtP neg l i).length≤l.length+1-i:=by
 unfold txtP;cases neg<;>simp<;>omega
theorem z1v:(Tryz.prog.info? 5).map (fun i=>(i.zero,i.size,i.bytes))=some (some (.int .u8 0),1,1):=by kernel_rfl
def zby(l:List UInt8):List Value:=l.map fun b:UInt8=>Value.int .u8 (b.toNat:Int)
theorem zdg(l:List UInt8):(zby l).length=l.length:=by simp[zby]
theorem zp4(l:List UInt8)(b:UInt8):zby l ++ [.int .u8 (b.toNat:Int)]=zby (l ++ [b]):=by simp[zby]
theorem zkv(l:List UInt8)(i:Nat)(h:i<l.length):(zby l)[i]?=some (.int .u8 (l[i].toNat:Int)):=by
 simp[zby,List.getElem?_eq_getElem h]
theorem z0h{w:World}{B:Nat}{v:Value}{n:Nat}{l:List UInt8}(h:w.ownsRow B 5 1 v n (zby l))(dst:TypeId)(hd:Tryz.prog.underlying dst=some .string) :
 (convert 77 dst v).run Tryz.prog w=.ok (.string ⟨l.toArray⟩) w:=by
 have hn:l.length=n:=by have:=h.1;rw[zdg]at this;omega
 rcases zbd h with⟨rfl,hz,_⟩ |⟨g,c,rfl,_,hc,_,_,hr⟩
 ·rw[run_convert_bytes_nil w 77 5 Tryz.underlying77 Tryz.underlying5 0 0 dst hd]
  rw[List.eq_nil_of_length_eq_zero (hn.trans hz)];rfl
 ·have:=run_convert_bytes_back (P:=Tryz.prog) w 77 dst 5 ⟨g,0,none⟩ c l Tryz.underlying77 Tryz.underlying5 hd (fun j hj=>by
   rw[zjw,Nat.zero_add,hr.cell (by rw[zdg];exact hj),zkv l j hj])
  rw[hn]at this;exact this
def zl5(w:World)(l:List UInt8)(e:Ending)(w':World):Prop:=e=.returned (.string ⟨l.toArray⟩)∧Below w.heap.size w w'
def z7p(la:List Nat)(n:Nat)(v:Value):Prop:=∃k:Nat,k≤n∧v=.int .i64 (k:Int)∧dval (la.take k)=dval la
def TxtR(w:World)(neg:Bool)(D:List Nat)(o iv:Value)(wr:World):Prop :=
 ∃i:Nat,i≤D.length∧iv=.int .i64 ((i:Int)-1)∧wr.ownsRow w.heap.size 5 1 o (txtP neg D i).length (zby (txtP neg D i))∧Below w.heap.size w wr
theorem zev(a:Option Addr)(n c:Nat)(la:List Nat)(neg:Bool)(w:World)(Zt:la.length=n)(hn:n≤900000)(da:∀x ∈ la,x<10)(ha:Nums .i64 w a la) :
 Calls Tryz.prog 201 #[.slice a n c,.bool neg] w (zl5 w (txtZ (if neg then -(dval la:Int)else(dval la:Int)))):=by
 obtain⟨i0,hi,ZN,ZO,ZD⟩:=info_parts z1v;have HLA:=Z9 Zt;have HA:=Z9 ha;have DA:=Z9 da;clear Zt ha da
 obtain⟨Z,hZ⟩:∃Z,Z=txtZ (if neg then -(dval la:Int)else(dval la:Int)):=⟨_,rfl⟩
 rw[←hZ];have HZ:=Z9 hZ;clear hZ;go_enter Tryz.func201,Tryz.ntmps201;go_wp2_with fail;go_loop [5] (z7p la n) (fun v=>(intOf v).toNat)
 case atStart=>exact⟨n,Nat.le_refl _,rfl,by rw[List.take_of_length_le (by have:=HLA.out;omega)]⟩
 case round =>
  obtain⟨k,hk,rfl,hv⟩:=hrel;have HV:=Z9 hv;clear hv
  by_cases Yt:1≤k
  ·obtain⟨j,rfl⟩:∃j,k=j+1:=⟨k-1,by omega⟩
   obtain⟨g,o,rfl,hg,hc⟩:=HA.out j (by have:=HLA.out;omega);obtain⟨y,hy⟩:∃y,y=la.getD j 0:=⟨_,rfl⟩
   rw[←hy]at hc;rw[show((j+1:Nat):Int)=(j:Int)+1 by omega]
   by_cases Zd:y=0
   ·have hn:=zho la j HV.out (by rw[←hy];exact Zd)
    have t1:((y:Int) == 0)=true:=by rw[beq_iff_eq];omega
    have HN:=Z9 hn;clear hn hy Zd;go_wp2_with fail;go_round
    case rel=>exact⟨j,by omega,rfl,HN.out⟩
    case measure=>simp[intOf]<;>omega
   ·have Zl:=zue la j (by have:=HLA.out;omega) DA.out HV.out (by rw[←hy];exact Zd)
    obtain⟨V,hV⟩:∃V,V=dval la:=⟨_,rfl⟩
    rw[←hV]at Zl;have t1:((y:Int) == 0)=false:=by rw[beq_eq_false_iff_ne];omega
    obtain⟨D,hD⟩:∃D,D=decN V:=⟨_,rfl⟩
    have hDl:D.length=j+1:=by rw[hD,Zl.1,List.length_take];have:=HLA.out;omega
    have hDc:∀e,e<j+1→w.cell? ⟨g,o+e,none⟩=some (.int .i64 ((D.getD e 0:Nat):Int)):=fun e he=>by
     obtain⟨g',o',ee,_,TV⟩:=HA.out e (by have:=HLA.out;omega)
     injection ee with ee;injection ee with e1 e2
     subst e1 e2;rw[TV,hD,Zl.1,List.getD_eq_getElem?_getD,List.getD_eq_getElem?_getD,List.getElem?_take_of_lt he]
    have hD10:∀x ∈ D,x<10:=by rw[hD];exact zcm V
    have HVP:=Z9 Zl.2;have HDD:=Z9 hD;have HDL:=Z9 hDl;have HDC:=Z9 hDc;have HD10:=Z9 hD10;have Zw:=zx2 neg V Zl.2;rw[←hD,hV,←HZ.out]at Zw;have HFIN:=Z9 Zw;have t2:((((j:Nat):Int)+1) == 0)=false:=by rw[beq_eq_false_iff_ne];omega
    have Yr:TxtR w false D (.slice none 0 0) (.int .i64 (j:Int)) w:=⟨D.length,Nat.le_refl _,by rw[hDl];congr 1;omega,by rw[zka];exact World.ownsRow_nil _ _ _ _,Below.refl _ _⟩;have HS0:=Z9 Yr;clear Zl hV hD hDl hDc hD10 Zw Yr Zd hy
    go_upto_if 24 with(fail)
    go_cut [6] (fun v wx=>TxtR w neg D v (.int .i64 (j:Int)) wx)
    case first=>as_aux_lemma =>
     cases neg with
     |false =>
      go_wp2_with fail;go_meet;exact HS0.out
     |true =>
      go_wp2_with (at_builtin;refine zas _ rfl (.tmp 25) (.tmp 26) 77 rfl w.heap.size 5 i0 (.int .u8 0) 1 Tryz.underlying77 hi ZN ZO ZD rfl _ _ _ rfl (World.ownsRow_nil _ _ _ _) ⟨w.heap.size,0,none⟩ 1 (.int .u8 45) rfl ?c1 rfl ?c3 ?c4 ?c5 ?_)
      case c3=>unfold maxLen;omega
      intro v1 w1 Zg Ze YT YL;have n1:Hid (Below w.heap.size w w1):=((Below.refl _ _).alloc (Nat.le_refl _) _).grown Ze (by simp) (fun k hk=>by simp[Value.ownBlock]at hk);have HO1:=Z9 Zg;clear Zg Ze YT YL;go_wp2_with fail;go_meet;exact⟨D.length,Nat.le_refl _,by rw[HDL.out];congr 1;omega,by rw[zka];exact HO1.out,n1.out⟩
    case rest=>as_aux_lemma =>
     have ZA:=Z9 hcut;clear hcut HS0;go_wp2_with fail;go_loopw [6,7] (TxtR w neg D) (fun _ i _=>(intOf i+1).toNat)
     case atStart=>exact ZA.out
     case round =>
      obtain⟨i,VJ,rfl,ho,hb⟩:=hrel;have HO:=Z9 ho;have HB:=Z9 hb;clear ho hb
      by_cases UW:1≤i
      ·obtain⟨e,rfl⟩:∃e,i=e+1:=⟨i-1,by omega⟩
       rw[show(((e+1:Nat):Int)-1)=(e:Int)by omega];have Zq:e<j+1:=by have:=HDL.out;omega
       have TV:=(HB.out.cell (p:=⟨g,o+e,none⟩) hg).trans (HDC.out e Zq);obtain⟨x,hx⟩:∃x,x=D.getD e 0:=⟨_,rfl⟩
       rw[←hx]at TV;have hx10:x<10:=by rw[hx];exact zcl D e HD10.out
       have Zr:=zua neg D e (by omega);rw[←hx]at Zr;have HSTP:=Z9 Zr;have Xg:((dgB x).toNat:Int)=48+(x:Int):=by rw[zdt hx10];omega
       have Yq:=Z9 Xg;have Z5:=zx1 neg D (e+1) VJ;clear hx Zr Xg;obtain⟨Q,hQ⟩:∃Q,Q=txtP neg D (e+1):=⟨_,rfl⟩
       have HO':=HO.out;rw[←hQ]at HO' Z5 HSTP;have HO2:=Z9 HO';clear HO' HO hQ;have Zb:Q.length≤900001:=by have:=HDL.out;omega
       go_wp2_with (at_builtin;refine zas _ rfl (.tmp 34) (.tmp 41) 77 rfl w.heap.size 5 i0 (.int .u8 0) 1 Tryz.underlying77 hi ZN ZO ZD rfl _ _ _ rfl (HO2.out.alloc _) ⟨wr.heap.size,0,none⟩ 1 (.int .u8 ((dgB x).toNat:Int)) rfl ?d1 rfl ?d3 ?d4 ?d5 ?_)
       case d1=>rw[Yq.out];simp
       case d3=>unfold maxLen;omega
       case d4=>omega
       case d5=>have:=HB.out.size;simp;omega
       intro v1 w1 Zg Ze YT YL;have n1:Below w.heap.size w w1:=(HB.out.alloc HB.out.size _).grown Ze (by have:=HB.out.size;simp;omega) (fun k hk=>(HO2.out.lt k hk).1);rw[zp4,HSTP.out]at Zg;have YK:Q.length+1=(txtP neg D e).length:=by rw[←HSTP.out];simp
       rw[YK]at Zg;have HO1:=Z9 Zg;have N1:=Z9 n1;clear Zg n1 Ze YT YL YK;go_wp2_with fail;go_roundw
       case rel=>exact⟨e,by omega,rfl,HO1.out,N1.out⟩
       case measure=>simp[intOf]<;>omega
      ·obtain rfl:i=0:=by omega
       have Vn:=z0h HO.out 183 Tryz.underlying183;rw[HFIN.out]at Vn;go_wp2_with fail;go_ret;exact⟨rfl,HB.out⟩
  ·obtain rfl:k=0:=by omega
   have hz:dval la=0:=by have:=HV.out;simpa[dval]using this.symm
   have e0:txtZ (if neg then -(dval la:Int)else(dval la:Int))=[48]:=by rw[hz];cases neg<;>rfl
   have HE0:Hid (Z=[48]):=by show _=_;rw[HZ.out,e0]
   clear hz e0;go_wp2_with fail;go_ret;exact⟨by rw[HE0.out];rfl,Below.refl _ _⟩
def zh0(l:List UInt8)(i:Nat):List UInt8:=(List.range l.length).map fun k=>if k<i∨l.length≤k+i then l.getD (l.length-1-k) 0 else l.getD k 0
theorem zcr(l:List UInt8)(i:Nat):(zh0 l i).length=l.length:=by simp[zh0]
theorem zek(l:List UInt8)(i k:Nat)(h:k<l.length):(zh0 l i)[k]?=some (if k<i∨l.length≤k+i then l.getD (l.length-1-k) 0 else l.getD k 0):=by
 simp[zh0,h]
theorem zo6(l:List UInt8):zh0 l 0=l:=by
 apply List.ext_getElem?;intro k
 by_cases h:k<l.length
 ·rw[zek l 0 k h,if_neg (by omega),List.getD_eq_getElem?_getD,List.getElem?_eq_getElem h];rfl
 ·rw[List.getElem?_eq_none (by rw[zcr];omega),List.getElem?_eq_none (by omega)]
theorem zvd(l:List UInt8)(i:Nat)(hi:l.length≤i+i+1):zh0 l i=l.reverse:=by
 apply List.ext_getElem?;intro k
 by_cases h:k<l.length
 ·rw[zek l i k h,List.getElem?_reverse h]
  by_cases hk:k<i∨l.length≤k+i
  ·rw[if_pos hk,List.getD_eq_getElem?_getD,List.getElem?_eq_getElem (by omega)];rfl
  ·rw[if_neg hk,List.getD_eq_getElem?_getD,show l.length-1-k=k by omega,List.getElem?_eq_getElem h];rfl
 ·rw[List.getElem?_eq_none (by rw[zcr];omega),List.getElem?_eq_none (by rw[List.length_reverse];omega)]
theorem zsf(l:List UInt8)(i:Nat)(hi:i+i+1<l.length):((zh0 l i).set i (l.getD (l.length-1-i) 0)).set (l.length-1-i) (l.getD i 0)=zh0 l (i+1):=by
 apply List.ext_getElem?;intro k
 by_cases h:k<l.length
 ·rw[zek l (i+1) k h,List.getElem?_set,List.getElem?_set,List.length_set,zcr]
  by_cases h1:l.length-1-i=k
  ·rw[if_pos h1,if_pos (by omega),if_pos (by omega),show l.length-1-k=i by omega]
  ·rw[if_neg h1]
   by_cases h2:i=k
   ·subst h2
    rw[if_pos rfl,if_pos (by omega),if_pos (by omega)]
   ·rw[if_neg h2,zek l i k h]
    by_cases h3:k<i∨l.length≤k+i
    ·rw[if_pos h3,if_pos (by omega)]
    ·rw[if_neg h3,if_neg (by omega)]
 ·rw[List.getElem?_eq_none (by simp[zcr];omega),List.getElem?_eq_none (by rw[zcr];omega)]
theorem zvc(l:List UInt8)(i:Nat)(hi:i+i+1<l.length):(zh0 l i)[i]?=some (l.getD i 0)∧(zh0 l i)[l.length-1-i]?=some (l.getD (l.length-1-i) 0):=by
 rw[zek _ _ _ (by omega),zek _ _ _ (by omega),if_neg (by omega),if_neg (by omega)];exact⟨rfl,rfl⟩
def WrAt(l ds:List Nat)(k:Nat):Prop:=ds.length=9*k∧(∀x ∈ ds,x<10)∧dval ds=val (l.take k)
def WrIn(l ds:List Nat)(k i t:Nat):Prop:=ds.length=9*k+i∧(∀x ∈ ds,x<10)∧t<10 ^ (9-i)∧dval ds+10 ^ (9*k+i)*t=val (l.take (k+1))
theorem zxy(l:List Nat):WrAt l [] 0:=⟨rfl,by simp,by simp[dval,val]⟩
theorem z2a(k:Nat):Bs ^ k=10 ^ (9*k):=by rw[zdd,show 1000000000=10 ^ 9 by rfl,←Nat.pow_mul]
theorem z6y(l ds:List Nat)(k:Nat)(hl:∀x ∈ l,x<Bs)(h:WrAt l ds k):WrIn l ds k 0 (l.getD k 0):=by
 obtain⟨h1,h2,h3⟩:=h;refine⟨h1,h2,?_,?_⟩
 ·have:=zba l k hl;rw[zdd]at this;exact this
 ·rw[h3,zb0,z2a];rfl
theorem z2c(l ds:List Nat)(k i t:Nat)(hi:i<9)(h:WrIn l ds k i t):WrIn l (ds ++ [t % 10]) k (i+1) (t / 10):=by
 obtain⟨h1,h2,h3,h4⟩:=h;refine⟨by simp[h1];omega,?_,?_,?_⟩
 ·intro x hx
  rcases List.mem_append.1 hx with hx |hx
  ·exact h2 x hx
  ·rw[List.mem_singleton.1 hx];omega
 ·rw[show 9-i=(9-(i+1))+1 by omega,Nat.pow_succ]at h3;omega
 ·rw[zft,h1,←h4,←Nat.add_assoc,Nat.pow_succ]
  have:=Nat.div_add_mod t 10;generalize 10 ^ (9*k+i)=P at *;generalize t / 10=q at *;generalize t % 10=r at *;generalize dval ds=D at *
  grind
theorem z48(l ds:List Nat)(k t:Nat)(h:WrIn l ds k 9 t):WrAt l ds (k+1):=by
 obtain⟨h1,h2,h3,h4⟩:=h;have:t=0:=by simpa using h3
 subst this;exact⟨by omega,h2,by simpa using h4⟩
theorem zku(l:List UInt8)(i:Nat)(b:UInt8):(zby l).set i (.int .u8 (b.toNat:Int))=zby (l.set i b):=by simp[zby,List.map_set]
theorem zob(l:List UInt8)(i:Nat)(b:UInt8)(h:l[i]?=some b):(zby l)[i]?=some (.int .u8 (b.toNat:Int)):=by
 unfold zby;rw[List.getElem?_map,h];rfl
def RevR(w:World)(g n:Nat)(l:List UInt8)(iv jv:Value)(wr:World):Prop :=
 ∃i:Nat,i+i≤n∧iv=.int .i64 i∧jv=.int .i64 ((n:Int)-1-i)∧RowAt wr g 5 (zby (zh0 l i))∧w.grownBy wr (some g)
def z44(w:World)(g:Nat)(l:List UInt8)(e:Ending)(w':World):Prop :=
 (∃v,e=.returned v)∧RowAt w' g 5 (zby l.reverse)∧w.grownBy w' (some g)
theorem zo5(g n c:Nat)(l:List UInt8)(w:World)(hl:l.length=n)(hn:n≤1000000)(h:RowAt w g 5 (zby l)) :
 Calls Tryz.prog 251 #[.slice (some ⟨g,0,none⟩) n c] w (z44 w g l):=by
 have Zr:RevR w g n l (.int .i64 0) (.int .i64 ((n:Int)-1)) w:=⟨0,Nat.zero_le _,rfl,by simp,by rw[zo6];exact h,zb5 _ _⟩;have ZA:=Z9 Zr;have HL:=Z9 hl;clear h hl Zr;go_enter Tryz.func251,Tryz.ntmps251;go_wp2_with fail;go_loopw [2,3] (RevR w g n l) (fun i _ _=>n-(intOf i).toNat)
 case atStart=>exact ZA.out
 case round =>
  obtain⟨w1,rfl⟩:∃w1:World,w1=wr:=⟨_,rfl⟩
  obtain⟨i,VJ,rfl,rfl,hr,hg⟩:=hrel
  by_cases Z7:i+i+1<n
  ·obtain⟨k,hk⟩:∃k:Nat,k=n-1-i:=⟨_,rfl⟩
   have hkI:(n:Int)-1-(i:Int)=(k:Int):=by omega
   have hmid:=zvc l i (by rw[HL.out];exact Z7);have hstp:=zsf l i (by rw[HL.out];exact Z7);rw[HL.out,←hk]at hmid hstp;obtain⟨x,hx⟩:∃x,x=l.getD i 0:=⟨_,rfl⟩
   obtain⟨y,hy⟩:∃y,y=l.getD k 0:=⟨_,rfl⟩
   rw[←hx,←hy]at hmid hstp;have Z5:(zby (zh0 l i)).length=n:=by rw[zdg,zcr];exact HL.out
   have hki:i<k:=by omega
   have UC:k<n:=by omega
   have c1:w1.cell? ⟨g,i,none⟩=some (.int .u8 (x.toNat:Int)):=by rw[hr.cell (by omega)];exact zob _ _ _ hmid.1
   have c2:w1.cell? ⟨g,k,none⟩=some (.int .u8 (y.toNat:Int)):=by rw[hr.cell (by omega)];exact zob _ _ _ hmid.2
   have f1:∀e,w1.frozen? ⟨g,e,none⟩=false:=fun e=>hr.frozen e
   have HR:=Z9 hr;have HG:=Z9 hg;have HS:=Z9 hstp;have Yy:n-1-i≤k:=by omega
   rw[hkI];have hkI2:(k:Int)=(n:Int)-1-i:=hkI.symm;have HKI:=Z9 hkI2;clear hr hg hstp hmid hk hx hy Z5 hkI hkI2;go_wp2_with fail;go_region
   all_goals
    go_wp2_with fail;go_roundw
    case measure=>simp[intOf]<;>omega
    case rel =>
     refine⟨i+1,by omega,by go_num,by rw[HKI.out];congr 1;omega,?_,?_⟩
     ·have h1:=(HR.out.set i (.int .u8 (y.toNat:Int))).set k (.int .u8 (x.toNat:Int))
      rw[zku,zku,HS.out]at h1;exact h1
     ·exact zst (za1 (za1 HG.out (.inl rfl) _) (.inl rfl) _) 1
  ·have he:=zvd l i (by rw[HL.out];omega)
   rw[he]at hr;have HR:=Z9 hr;have HG:=Z9 hg;clear hr hg he;have WO:(n:Int)-1-(i:Int)≤i:=by omega
   go_wp2_with fail;go_end0;exact⟨⟨_,rfl⟩,HR.out,HG.out⟩
def zog(w:World)(z:Int)(e:Ending)(w':World):Prop :=
 ((bigZ z=true∧e=.returned (.tuple #[.string ByteArray.empty,.int .i64 14]))∨(bigZ z=false∧e=.returned (.tuple #[.string ⟨(txtZ z).toArray⟩,.int .i64 0])))∧Below w.heap.size w w'
def zec(ds:List Nat):List Value:=zby (ds.map dgB)
theorem zl1(ds:List Nat):(zec ds).length=ds.length:=by simp[zec,zby]
theorem zp6(ds:List Nat)(d:Nat)(h:d<10):zec ds ++ [.int .u8 ((48:Int)+(d:Int))]=zec (ds ++ [d]):=by
 have:((dgB d).toNat:Int)=(48:Int)+(d:Int):=by rw[zdt h];omega
 unfold zec zby;simp[this]
theorem ztu(ds:List Nat)(i:Nat)(hi:i<ds.length)(h:∀x ∈ ds,x<10):(zec ds)[i]?=some (.int .u8 ((48:Int)+((ds.getD i 0:Nat):Int))):=by
 unfold zec zby;have h1:ds.getD i 0<10:=zcl ds i h;have:((dgB (ds.getD i 0)).toNat:Int)=(48:Int)+((ds.getD i 0:Nat):Int):=by rw[zdt h1];omega
 rw[←this,List.getD_eq_getElem?_getD,List.getElem?_eq_getElem hi];simp[hi]
theorem zp5(ds:List Nat)(k:Nat):(zec ds).take k=zec (ds.take k):=by simp[zec,zby,List.map_take]
def WrO(w W0:World)(l:List Nat)(n:Nat)(bv iv:Value)(wr:World):Prop :=
 ∃(k:Nat)(ds:List Nat),k≤n∧iv=.int .i64 k∧wr.ownsRow W0.heap.size 5 1 bv ds.length (zec ds)∧WrAt l ds k∧Below W0.heap.size W0 wr∧Below w.heap.size w wr
def WrJ(w W0:World)(l:List Nat)(k:Nat)(bv tv jv:Value)(wr:World):Prop :=
 ∃(i t:Nat)(ds:List Nat),i≤9∧jv=.int .i64 i∧tv=.int .u32 t∧t<1000000000∧wr.ownsRow W0.heap.size 5 1 bv ds.length (zec ds)∧WrIn l ds k i t∧Below W0.heap.size W0 wr∧Below w.heap.size w wr
def WrT(g c:Nat)(ds:List Nat)(bv:Value):Prop:=∃k:Nat,1≤k∧k≤ds.length∧bv=.slice (some ⟨g,0,none⟩) k c∧dval (ds.take k)=dval ds
def WrC(w:World)(z:Int)(v:Value)(wx:World):Prop :=
 ∃g c bs,v=.slice (some ⟨g,0,none⟩) (bs:List UInt8).length c∧RowAt wx g 5 (zby bs)∧bs.reverse=txtZ z∧bs.length≤460000∧w.heap.size≤g∧Below w.heap.size w wx
theorem z0g{w:World}{g c:Nat}{l:List UInt8}(h:RowAt w g 5 (zby l))(dst:TypeId)(hd:Tryz.prog.underlying dst=some .string) :
 (convert 77 dst (.slice (some ⟨g,0,none⟩) l.length c)).run Tryz.prog w=.ok (.string ⟨l.toArray⟩) w :=
 run_convert_bytes_back (P:=Tryz.prog) w 77 dst 5 ⟨g,0,none⟩ c l Tryz.underlying77 Tryz.underlying5 hd (fun j hj=>by
  rw[zjw,Nat.zero_add,h.cell (by rw[zdg];exact hj),zkv l j hj])
theorem ziq(neg:Bool)(a:Option Addr)(n c N:Nat)(l:List Nat)(w:World)(hl:l.length=n)(hn:n≤50000)(hr:Rep l N)(ha:Nums .u32 w a l) :
 Calls Tryz.prog 228 #[.agg #[.bool neg,.slice a n c]] w (zog w (if neg=true then -(N:Int)else(N:Int))):=by
 obtain⟨i0,hi,ZN,ZO,ZD⟩:=info_parts z1v
 obtain⟨z,hz⟩:∃z,z=(if neg=true then -(N:Int)else(N:Int)):=⟨_,rfl⟩
 rw[←hz];have HZ:=Z9 hz;have HL:=Z9 hl;have HR:=Z9 hr;have HA:=Z9 ha;clear hz hl hr ha
 by_cases h0:n<1
 ·have VQ:z=0:=by
   have hN:N=0:=by
    have h1:=HR.out.2.2;rw[List.eq_nil_of_length_eq_zero (l:=l) (by have:=HL.out;omega)]at h1;simpa[val]using h1.symm
   rw[HZ.out,hN];cases neg<;>rfl
  have t1:((n:Int) == 0)=true:=by rw[beq_iff_eq];omega
  have hzb:bigZ z=false:=by rw[VQ];rfl
  have HZB:=Z9 hzb;have HZ0:=Z9 VQ;clear VQ hzb;go_enter Tryz.func228,Tryz.ntmps228;go_wp2_with fail;go_ret2;exact⟨.inr ⟨HZB.out,by rw[HZ0.out];rfl⟩,(Below.refl _ _).alloc (Nat.le_refl _) _⟩
 ·have t1:((n:Int) == 0)=false:=by rw[beq_eq_false_iff_ne];omega
  obtain⟨W0,Z3⟩:∃W0,W0=w.alloc (.cells #[.bool neg,.slice a n c] 241):=⟨_,rfl⟩
  have ZZ:=zck (w:=w) (c:=#[.bool neg,.slice a n c]) (t:=241) rfl rfl;rw[←Z3]at ZZ;have Zo:w.heap.size<W0.heap.size:=ZZ.lt;have YJ:Below w.heap.size w W0:=by rw[Z3];exact(Below.refl _ _).alloc (Nat.le_refl _) _
  have SW:0<N:=by
   have h1:=HR.out;rw[←h1.2.2];refine zis l h1.2.1 (fun h => ?_);have:=HL.out;rw[h]at this;simp at this;omega
  have Zr:WrO w W0 l n (.slice none 0 0) (.int .i64 0) W0:=⟨0,[],Nat.zero_le _,rfl,World.ownsRow_nil _ _ _ _,zxy l,Below.refl _ _,YJ⟩;have ZA:=Z9 Zr;have HBX:=Z9 ZZ;have HB0:=Z9 YJ;have HW0:=Z9 Z3;have HNP:=Z9 SW;clear Zr ZZ YJ Z3 SW;go_enter Tryz.func228,Tryz.ntmps228;go_wp2_with fail;rw[←HW0.out];go_loopw [4,14] (WrO w W0 l n) (fun _ i _=>n-(intOf i).toNat)
  case atStart=>exact ZA.out
  case round =>
   obtain⟨w1,rfl⟩:∃w1:World,w1=wr:=⟨_,rfl⟩
   obtain⟨k,ds,UC,rfl,ho,ZB,ZL,ZS⟩:=hrel;have HO:=Z9 ho;have HT:=Z9 ZB;have HB1:=Z9 ZL;have HB2:=Z9 ZS;clear ho ZB ZL ZS ZA
   by_cases Z7:k<n
   ·obtain⟨g,og,rfl,hg,hc⟩:=HA.out.below HB2.out k (by have:=HL.out;omega)
    obtain⟨x,hx⟩:∃x,x=l.getD k 0:=⟨_,rfl⟩
    rw[←hx]at hc;have hxb:x<1000000000:=by rw[hx];exact zba l k HR.out.1
    have Zr:WrJ w W0 l k u4 (.int .u32 x) (.int .i64 0) w1:=⟨0,x,ds,by omega,rfl,rfl,hxb,HO.out,by rw[hx];exact z6y l ds k HR.out.1 HT.out,HB1.out,HB2.out⟩;have HST2:=Z9 Zr;clear Zr hx HO HT;go_wp2_with fail;go_loopw [4,6,18] (WrJ w W0 l k) (fun _ _ j _=>9-(intOf j).toNat)
    case atStart=>exact HST2.out
    case round =>
     obtain⟨w2,rfl⟩:∃w2:World,w2=wr:=⟨_,rfl⟩
     obtain⟨i,t,ds,hi9,rfl,rfl,htb,ho,ZB,ZL,ZS⟩:=hrel;have HO:=Z9 ho;have HT:=Z9 ZB;have HB3:=Z9 ZL;have HB4:=Z9 ZS;have hdl:ds.length≤450009:=by have:=ZB.1;omega
     clear ho ZB ZL ZS HST2
     by_cases ZX:i<9
     ·have hstp:=z2c l ds k i t ZX HT.out
      obtain⟨d,hd⟩:∃d,d=t % 10:=⟨_,rfl⟩
      obtain⟨q,hq⟩:∃q,q=t / 10:=⟨_,rfl⟩
      rw[←hd,←hq]at hstp;have hdI:(t:Int) % 10=(d:Int):=by omega
      have hqI:(t:Int) / 10=(q:Int):=by omega
      have WM:d<10:=by omega
      have Te:q<1000000000:=by omega
      have HSTP:=Z9 hstp;have HDI:=Z9 hdI;have HQI:=Z9 hqI;obtain⟨m,hm⟩:∃m,m=ds.length:=⟨_,rfl⟩
      have HO':=HO.out;rw[←hm]at HO' hdl;have HO2:=Z9 HO';have HM:=Z9 hm;clear hstp hd hq hqI HO' HO hm;go_wp2_with (at_builtin;refine zas _ rfl (.tmp 20) (.tmp 25) 77 rfl W0.heap.size 5 i0 (.int .u8 0) 1 Tryz.underlying77 hi ZN ZO ZD rfl _ _ _ rfl (HO2.out.alloc _) ⟨w2.heap.size,0,none⟩ 1 (.int .u8 ((48:Int)+(d:Int))) rfl ?c1 rfl ?c3 ?c4 ?c5 ?_)
      case c1=>simp
      case c3=>unfold maxLen;omega
      case c4=>omega
      case c5=>have:=HB3.out.size;simp;omega
      intro v3 w3 VN ZY VM U6;have n3:Below W0.heap.size W0 w3:=(HB3.out.alloc HB3.out.size _).grown ZY (by have:=HB3.out.size;simp;omega) (fun k hk=>(HO2.out.lt k hk).1);have n4:Below w.heap.size w w3:=(HB4.out.alloc HB4.out.size _).grown ZY (by have:=HB4.out.size;simp;omega) (fun k hk=>by have:=(HO2.out.lt k hk).1;omega);rw[zp6 ds d WM]at VN;have HO3:=Z9 VN;have N3:=Z9 n3;have N4:=Z9 n4;clear VN ZY VM U6 n3 n4 hdI;go_wp2_with fail;go_roundw
      case rel=>exact⟨i+1,q,ds ++ [d],by omega,by go_num,by rw[HQI.out],by omega,by rw[List.length_append,←HM.out];exact HO3.out,HSTP.out,N3.out,N4.out⟩
      case measure=>simp[intOf]<;>omega
     ·obtain rfl:i=9:=by omega
      have hout:=z48 l ds k t HT.out;have HOUT:=Z9 hout;clear hout;go_wp2_with fail;go_roundw
      case rel=>exact⟨k+1,ds,by omega,by go_num,HO.out,HOUT.out,HB3.out,HB4.out⟩
      case measure=>simp[intOf]<;>omega
   ·obtain rfl:k=n:=by omega
    have hdv:dval ds=N:=by rw[HT.out.2.2,List.take_of_length_le (by have:=HL.out;omega)];exact HR.out.2.2
    have hdl:ds.length=9*k:=HT.out.1;have hd10:=HT.out.2.1
    rcases zbd HO.out with⟨_,hz,_⟩ |⟨g,cb,rfl,hg,Yk,X1,_,YU⟩
    ·omega
    obtain⟨m,hm⟩:∃m,m=ds.length:=⟨_,rfl⟩
    rw[←hm]at hdl;have HO':=HO.out;rw[←hm]at HO' Yk ⊢;have HO2:=Z9 HO';have HROW:=Z9 YU;have HDV:=Z9 hdv;have HD10:=Z9 hd10;have HM:=Z9 hm;have Xk:1≤m:=by omega
    have W9:m≤450000:=by omega
    clear HO HO' YU hdv hd10 hdl hm;go_wp2_with fail;go_loop [4] (WrT g cb ds) (fun v=>match v with | .slice _ k _=>k |_=>0)
    case atStart=>exact⟨m,Xk,by rw[HM.out];omega,rfl,by rw[HM.out,List.take_of_length_le (Nat.le_refl _)]⟩
    case round =>
     obtain⟨e,he1,he2,rfl,hv⟩:=hrel;rw[←HM.out]at he2;obtain⟨j,rfl⟩:∃j,e=j+1:=⟨e-1,by omega⟩
     have HV:=Z9 hv
     have TV:w1.cell? ⟨g,j,none⟩=some (.int .u8 ((48:Int)+((ds.getD j 0:Nat):Int))):=by
      rw[HROW.out.cell (by rw[zl1,←HM.out];omega)];exact ztu ds j (by rw[←HM.out];omega) HD10.out
     obtain⟨y,hy⟩:∃y,y=ds.getD j 0:=⟨_,rfl⟩
     rw[←hy]at TV;have hyb:y<10:=by rw[hy];exact zcl ds j HD10.out
     have HY:=Z9 hy;clear hv hy
     by_cases Zd:y<1
     ·have Zr:=zho ds j HV.out (by rw[←HY.out];omega)
      have t2:(((48:Int)+(y:Int)) == 48)=true:=by rw[beq_iff_eq];omega
      have SC:1≤j:=by
       rcases Nat.eq_zero_or_pos j with h |h
       ·exfalso
        rw[h]at Zr;have:=HNP.out;rw[HDV.out]at Zr;simp[dval]at Zr;omega
       ·exact h
      have HSTP:=Z9 Zr;clear Zr;go_wp2_with fail;go_round
      case rel=>exact⟨j,SC,by rw[←HM.out];omega,rfl,HSTP.out⟩
      case measure=>simp
     ·have t2:(((48:Int)+(y:Int)) == 48)=false:=by rw[beq_eq_false_iff_ne];omega
      have Zl:=(zue ds j (by rw[←HM.out];omega) HD10.out HV.out (by rw[←HY.out];omega)).1;rw[HDV.out]at Zl;have Z5:(decN N).length=j+1:=by rw[Zl,List.length_take,←HM.out];omega
      have hbz:bigZ z=decide (1000<j+1):=by
       unfold bigZ;rw[HZ.out]
       cases neg
       ·simp[Z5]
       ·simp[Z5]
      have HTOP:=Z9 Zl;have HBZ:=Z9 hbz;clear Zl Z5 hbz
      by_cases ZW:1000<j+1
      ·have e:bigZ z=true:=by rw[HBZ.out];simpa using ZW
       have E:=Z9 e;have t3:decide ((1000:Int)<(j:Int)+1)=true:=by simp;omega
       clear e;go_wp2_with fail;go_ret2;exact⟨.inl ⟨E.out,rfl⟩,HB2.out⟩
      ·have e:bigZ z=false:=by rw[HBZ.out];simpa using ZW
       have E:=Z9 e;have t3:decide ((1000:Int)<(j:Int)+1)=false:=by simp;omega
       have Yd:w1.cell? ⟨w.heap.size,0,none⟩=some (.bool neg):=(HB1.out.cell (p:=⟨w.heap.size,0,none⟩) Zo).trans (HBX.out.cell (i:=0) (by simp));have ZG:=zhw HO2.out (show j+1≤m by omega);rw[zp5,←HTOP.out]at ZG;have Zj:=Z9 ZG;clear e ZG
       go_upto_if 47 with(fail)
       go_cut [4] (fun v wx=>WrC w z v wx)
       case first=>as_aux_lemma =>
        have UY:(decN N).length=j+1:=by rw[HTOP.out,List.length_take,←HM.out];omega
        cases neg with
        |false =>
         have Zw:WrC w z (.slice (some ⟨g,0,none⟩) (j+1) cb) w1:=by
          refine⟨g,cb,(decN N).map dgB,by rw[List.length_map,UY],?_,?_,by rw[List.length_map,UY];omega,by omega,HB2.out⟩
          ·rcases zbd Zj.out with⟨h,_⟩ |⟨g',c',h,_,_,_,_,hr⟩
           ·injection h with h;cases h
           ·injection h with h;injection h with h;injection h with h
            subst h;exact hr
          ·rw[HZ.out];simp[zdz,txtN]
         have HF:=Z9 Zw;clear Zw UY;go_wp2_with fail;go_meet;exact HF.out
        |true =>
         go_wp2_with (at_builtin;refine zas _ rfl (.tmp 48) (.tmp 49) 77 rfl W0.heap.size 5 i0 (.int .u8 0) 1 Tryz.underlying77 hi ZN ZO ZD rfl _ _ _ rfl (Zj.out.alloc _) ⟨w1.heap.size,0,none⟩ 1 (.int .u8 45) rfl ?d1 rfl ?d3 ?d4 ?d5 ?_)
         case d3=>unfold maxLen;omega
         case d4=>omega
         case d5=>have:=HB1.out.size;simp;omega
         intro v4 w4 UF Vo SJ SN;have n4:Below w.heap.size w w4:=(HB2.out.alloc HB2.out.size _).grown Vo (by have:=HB2.out.size;simp;omega) (fun k hk=>by have:=(Zj.out.lt k hk).1;omega)
         have Zw:WrC w z v4 w4:=by
          rcases zbd UF with⟨_,h,_⟩ |⟨g',c',h,hgB,_,_,_,hr⟩
          ·omega
          ·refine⟨g',c',(decN N).map dgB ++ [45],by rw[h,List.length_append,List.length_map,UY];rfl,?_,?_,by rw[List.length_append,List.length_map,UY];simp;omega,by omega,n4⟩
           ·have:zec (decN N) ++ [.int .u8 45]=zby ((decN N).map dgB ++ [45]):=by simp[zec,zby]
            rw[this]at hr;exact hr
           ·have hzn:z = -(N:Int):=by have:=HZ.out;simpa using this
            rw[hzn,zh7 HNP.out];simp[txtN]
         have HF:=Z9 Zw;clear UF Vo SJ SN n4 Zw UY;go_wp2_with fail;go_meet;exact HF.out
       case rest=>as_aux_lemma =>
        obtain⟨g5,c5,bs,rfl,XQ,Zz,Zu,Y8,Wy⟩:=hcut;have HR5:=Z9 XQ;have HTX:=Z9 Zz;have HB5:=Z9 Wy;have hlt5:=XQ.lt;obtain⟨w5,Tn⟩:∃w5:World,w5=wc:=⟨_,rfl⟩
        subst Tn;have hrev:=zo5 g5 bs.length c5 bs w5 rfl (by omega) XQ;have HREV:=Z9 hrev;clear XQ Zz Wy hrev hlt5;go_wp2_with fail;refine HREV.out.mono ?_;rintro e w6 ⟨⟨v6,rfl⟩,Vv,WN⟩;have Vn:=z0g (c:=c5) Vv 183 Tryz.underlying183;rw[List.length_reverse,HTX.out]at Vn;have hb6:Below w.heap.size w w6:=ztv HB5.out WN HB5.out.size Y8;have HB6:=Z9 hb6;clear Vv WN hb6;go_wp2_with fail;go_ret2;exact⟨.inr ⟨E.out,rfl⟩,HB6.out⟩
open Go.Shelf
attribute [local go_sem] Oper.semAt_some
def zdx(t:ByteArray)(k:Nat):ByteArray:=t.extract (t.size-9*(k+1)) (t.size-9*k)
def zfb(B:Nat)(W W':World):Prop:=W'.heap[B]?=W.heap[B]?
theorem znj{B:Nat}{W1 W2 W3:World}(h:zfb B W1 W2)(k:zfb B W2 W3):zfb B W1 W3:=k.trans h
theorem znk{B:Nat}{w:World}(hB:B<w.heap.size)(W:World)(l:Nat)(o o':Obj)(hl:w.heap.size≤l)(h:W.heap[l]?=some o)(_ho:o.isCells=false)(_:o.isWalk=false):zfb B W (W.putObj l o'):=by
 have Z7:=(Z8 h)
 by_cases hb:B<W.heap.size
 ·exact(grownBy_putObj' W l o').block B hb (by intro e;injection e with e;omega)
 ·unfold zfb
  rw[Array.getElem?_eq_none (by omega),Array.getElem?_eq_none (by have:=(grownBy_putObj' W l o').size;omega)]
theorem zew(k:Nat):List.range k ++ [k]=List.range (k+1):=List.range_succ.symm
theorem zhu{k m:Nat}(h:k≤m):List.range k <+: List.range m:=by
 refine⟨(List.range' k (m-k)),?_⟩;rw[List.range_eq_range',List.range_eq_range'];have:=List.range'_append (s:=0) (m:=k) (n:=m-k) (step:=1);simp only[Nat.zero_add,Nat.one_mul]at this;rw[this];congr 1;omega
theorem zth(F:Fence)(n:Nat)(hF:F.fn 262)(Vw:F.round=none)(hn:1≤n)(l Bs m:Nat)(t:ByteArray)(hs:t.size≤1000000)(Xk:t.size≤9*m)(W9:9*m<t.size+9)(J Jx:List Nat→World→Prop)
 (hY:∀pre x W,J pre W→pre.length<m→YieldAt F (n-1) Tryz.prog l #[.string (zdx t x)] W fun e W' =>
  (e=.returned (.bool true)∧J (pre ++ [x]) W'∧zfb Bs W W')∨(e=.returned (.bool false)∧Jx (pre ++ [x]) W'))
 (W:World) (Up:Boxed W Bs 9 (.string t)) (h0:J [] W) :
 CallsIn F n Tryz.prog 262 #[.func (.yield l) #[] #[],.pointer (some ⟨Bs,0,none⟩)] W fun e W'=>(∃v,e=.returned v) ∧
  ((∃ys,ys=List.range m∧J ys W')∨(∃pre,pre <+: List.range m∧Jx pre W')):=by
 refine callsIn_of_wp Tryz.func262 rfl hF ?_ Vw;simp only[Tryz.ntmps262,List.size_toArray,List.length_cons,List.length_nil,Nat.reduceAdd,Nat.reduceSub,Array.replicate_succ,Array.replicate_zero,List.push_toArray,List.append_toArray,List.nil_append,List.cons_append];have hc0:=Up.cell;gi_wp2;clear hc0
 gi_loopw [3] (fun i wr=>∃k:Nat,k≤m∧i=.int .i64 ((t.size:Int)-9*(k:Int))∧J (List.range k) wr∧Boxed wr Bs 9 (.string t))
  (fun i _=>(intOf i+9).toNat)
 case atStart=>exact⟨0,Nat.zero_le _,by simp,h0,Up⟩
 case round =>
  obtain⟨k,hk,rfl,Sq,YZ⟩:=hrel;have hcx:wr.cell? ⟨Bs,0,none⟩=some (.string t):=YZ.cell
  by_cases Z7:k<m
  ·obtain⟨e,he⟩:∃e,e=t.size-9*k:=⟨_,rfl⟩
   have he1:1≤e:=by omega
   have heI:((t.size:Int)-9*(k:Int))=(e:Int):=by omega
   have hes:e≤t.size:=by omega
   obtain⟨fn,tmps,assign,body,hy,hR⟩:=hY _ k wr Sq (by simpa using Z7);have hch:zdx t k=t.extract (e-9) e:=by unfold zdx;rw[he];congr 1
   rw[hch]at hy;rw[heI];have HCH:=Z9 hch;have HE:=Z9 he;have HEI:=Z9 heI;clear hch he heI Sq
   by_cases h9:10≤e
   ·obtain⟨f,rfl⟩:∃f,e=f+9:=⟨e-9,by omega⟩
    rw[Nat.add_sub_cancel]at hy;have hf:((f+9:Nat):Int)=(f:Int)+9:=by omega
    have hf1:1≤f:=by omega
    rw[hf];clear hf h9;gi_wp2;refine hR.mono ?_;rintro ee W3 (⟨rfl,UL,V1⟩ |⟨rfl,V6⟩)
    ·gi_wp2
     go_roundw
     case rel=>exact⟨k+1,by omega,by congr 1;have:=HEI.out;omega,by rw[←zew];exact UL,V1.trans YZ⟩
     case measure=>simp[intOf]<;>omega
    ·gi_wp2
     refine bodyPost_ret (results_none rfl _ _ _) rfl ?_;exact⟨⟨_,rfl⟩,.inr ⟨_,by rw[zew];exact zhu (by omega),V6⟩⟩
   ·rw[show e-9=0 by omega]at hy
    gi_wp2;refine hR.mono ?_;rintro ee W3 (⟨rfl,UL,V1⟩ |⟨rfl,V6⟩)
    ·gi_wp2
     go_roundw
     case rel=>exact⟨k+1,by omega,by congr 1;have:=HEI.out;omega,by rw[←zew];exact UL,V1.trans YZ⟩
     case measure=>simp[intOf]<;>omega
    ·gi_wp2
     refine bodyPost_ret (results_none rfl _ _ _) rfl ?_;exact⟨⟨_,rfl⟩,.inr ⟨_,by rw[zew];exact zhu (by omega),V6⟩⟩
  ·obtain rfl:k=m:=by omega
   have YW:((t.size:Int)-9*(k:Int))≤0:=by omega
   gi_wp2;go_end0;exact⟨⟨_,rfl⟩,.inl ⟨_,rfl,Sq⟩⟩
theorem znl(F:Fence)(n:Nat)(hF:F.fn 257)(Vw:F.round=none)(t:ByteArray)(w:World) :
 CallsIn F n Tryz.prog 257 #[.string t] w fun e w'=>e=.returned (.func (.func 262) #[] #[.pointer (some ⟨w.heap.size,0,none⟩)])∧w'=w.alloc (.cells #[.string t] 9):=by
 refine callsIn_of_wp Tryz.func257 rfl hF ?_ Vw;simp only[Tryz.ntmps257,List.size_toArray,List.length_cons,List.length_nil,Nat.reduceAdd,Nat.reduceSub,Array.replicate_succ,Array.replicate_zero,List.push_toArray,List.append_toArray,List.nil_append,List.cons_append];gi_wp2;go_ret;exact⟨rfl,rfl⟩
theorem zhx(F:Fence)(n:Nat)(hF:F.fn 262)(Vw:F.round=none)(hn:1≤n)(Bs m:Nat)(t:ByteArray)(hs:t.size≤1000000)(Xk:t.size≤9*m)(W9:9*m<t.size+9)(w:World)(hc:Boxed w Bs 9 (.string t)) :
 SeqStopsK F n Tryz.prog 262 #[.pointer (some ⟨Bs,0,none⟩)] (fun x:Nat=>#[Value.string (zdx t x)]) (zfb Bs) (fun ys=>ys=List.range m) (fun pre=>pre <+: List.range m) m w:=fun l J Jx W hW _ _ hY h0 =>
 zth F n hF Vw hn l Bs m t hs Xk W9 J Jx hY W ((hW.block Bs hc.lt).trans hc) h0
end Go.Proofs.YtkobkpepgdddeaaGreatDoor
