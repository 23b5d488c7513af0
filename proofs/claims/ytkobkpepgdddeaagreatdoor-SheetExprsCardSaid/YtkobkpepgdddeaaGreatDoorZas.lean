/-
  The lexer's iterator: starts. No condition.
-/
import Derived.Test.YtkobkpepgdddeaaGreatDoorZar
import Derived.Deep.RegionHeld3
import Derived.Test.YtkobkpepgdddeaaGreatDoorZai
import Derived.Test.YtkobkpepgdddeaaGreatDoorZao
import Derived.Outline
import Derived.RegionIn
import Derived.Test.YtkobkpepgdddeaaGreatDoorZaa
namespace Go.Proofs.YtkobkpepgdddeaaGreatDoor
open Go.RowKit Go.Shelf
set_option maxHeartbeats 16000000
set_option maxRecDepth 100000
attribute [local go_sem] Oper.semAt_some
theorem z4g{x:UInt8}{p:UInt8→Bool}(Ue:∀c:UInt8,p c=true↔c≠x)(l:List UInt8):Lib.indexByte l x=if spn p l<l.length then(spn p l:Int)else -1:=by
 induction l with
 |nil=>rfl
 |cons c l ih =>
  unfold Lib.indexByte
  by_cases h:c=x
  ·have e2:spn p (c :: l)=0:=by unfold spn;rw[if_neg (fun a=>(Ue c).1 a h)]
   rw[e2,if_pos (by rw[h];simp),if_pos (by simp)];rfl
  ·have e2:spn p (c :: l)=spn p l+1:=by
    show(if p c=true then spn p l+1 else 0)=_
    rw[if_pos ((Ue c).2 h)]
   have e3:¬(c == x)=true:=fun a=>h (beq_iff_eq.1 a)
   rw[e2,if_neg e3,ih,List.length_cons]
   by_cases h2:spn p l<l.length
   ·have e4:¬(((spn p l:Nat):Int) == -1)=true:=fun a=>by have:=beq_iff_eq.1 a;omega
    rw[if_pos h2,if_neg e4,if_pos (by omega)];omega
   ·rw[if_neg h2,if_pos (by decide),if_neg (by omega)]
theorem zuq(l:List UInt8):skS false l=spn blQ l+skS false (l.drop (spn blQ l)):=by
 induction l with
 |nil=>rfl
 |cons c l ih =>
  by_cases h:blQ c=true
  ·have e:spn blQ (c :: l)=spn blQ l+1:=by show(if blQ c=true then _ else _)=_;rw[if_pos h]
   rw[zqp h,e,ih,List.drop_succ_cons];have:=skS_spn_aux l;omega
  ·have e:spn blQ (c :: l)=0:=by show(if blQ c=true then _ else _)=_;rw[if_neg h]
   rw[e,List.drop_zero,Nat.zero_add]
where
 skS_spn_aux (l:List UInt8):True:=trivial
def nlQ(c:UInt8):Bool := !decide (c=10)
theorem zll(c:UInt8):nlQ c=true↔c≠10:=by unfold nlQ;simp
theorem zye(r:List UInt8):skS true r=if spn nlQ r<r.length then spn nlQ r+1+skS false (r.drop (spn nlQ r+1))else r.length:=by
 induction r with
 |nil=>rfl
 |cons c r ih =>
  by_cases h:c=10
  ·have e:spn nlQ (c :: r)=0:=by show(if nlQ c=true then _ else _)=_;rw[if_neg (fun a=>(zll c).1 a h)]
   rw[e,if_pos (by simp),z1l (by rw[h];rfl)]
   show _=0+1+skS false r
   omega
  ·have e:spn nlQ (c :: r)=spn nlQ r+1:=by show(if nlQ c=true then _ else _)=_;rw[if_pos ((zll c).2 h)]
   rw[e,zur (by intro a;exact h (by rw[←UInt8.toNat_inj];exact a)),ih,List.length_cons,List.drop_succ_cons]
   by_cases h2:spn nlQ r<r.length
   ·rw[if_pos h2,if_pos (by omega)];omega
   ·rw[if_neg h2,if_neg (by omega)]
theorem zwt{c:UInt8}{r:List UInt8}(h:c.toNat=35) :
 (spn nlQ r<r.length∧Lib.indexByte (c :: r) 10=((spn nlQ r+1:Nat):Int)∧skS false (c :: r)=spn nlQ r+1+skS false ((c :: r).drop (spn nlQ r+1))∧((c :: r).drop (spn nlQ r+1)).head?=some 10) ∨
 (Lib.indexByte (c :: r) 10 = -1∧skS false (c :: r)=(c :: r).length):=by
 have hc:c≠10:=by rintro rfl;exact absurd h (by decide)
 have e:spn nlQ (c :: r)=spn nlQ r+1:=by show(if nlQ c=true then _ else _)=_;rw[if_pos ((zll c).2 hc)]
 have hi:=z4g zll (c :: r);rw[e,List.length_cons]at hi;have hs:=zye r
 by_cases h2:spn nlQ r<r.length
 ·left
  rw[if_pos (by omega)]at hi;rw[if_pos h2]at hs
  have hd:∃x t,r.drop (spn nlQ r)=x :: t∧nlQ x=false:=by
   clear hi hs e
   induction r with
   |nil=>simp at h2
   |cons x r ih =>
    by_cases hx:nlQ x=true
    ·have e:spn nlQ (x :: r)=spn nlQ r+1:=by show(if nlQ x=true then _ else _)=_;rw[if_pos hx]
     rw[e]at h2 ⊢;rw[List.drop_succ_cons];exact ih (by simpa using h2)
    ·have e:spn nlQ (x :: r)=0:=by show(if nlQ x=true then _ else _)=_;rw[if_neg hx]
     rw[e];exact⟨x,r,rfl,by simpa using hx⟩
  obtain⟨x,t,hd,hx⟩:=hd
  have hx10:x=10:=by
   cases hq:decide (x=10)with
   |true=>simpa using hq
   |false=>unfold nlQ at hx;rw[hq]at hx;cases hx
  refine⟨h2,hi,?_,?_⟩
  ·rw[zk5 h,hs,List.drop_succ_cons,hd,hx10,zqp (by decide)]
   have:r.drop (spn nlQ r+1)=t:=by rw[←List.drop_drop,hd];rfl
   rw[this];omega
  ·rw[List.drop_succ_cons,hd,hx10];rfl
 ·right
  rw[if_neg (by omega)]at hi;rw[if_neg h2]at hs;exact⟨hi,by rw[zk5 h,hs,List.length_cons]⟩
theorem ztx(s:ByteArray)(i0 k:Nat)(hs:s.size≤1000000)(hi:i0≤s.size)(W:World) :
 Calls Tryz.prog 140 #[.string s,.int .i64 (i0:Int),.slice (some ⟨W.heap.size,0,none⟩) 1 1] (W.alloc (.cells #[.int .i64 (k:Int)] 3)).drew (RetI (W.alloc (.cells #[.int .i64 (k:Int)] 3)).drew ((i0+spn (clsB [k]) (s.data.toList.drop i0):Nat):Int)) :=
 zha s i0 1 1 _ [k] _ hs hi rfl (by omega) (Nums.drewN (fun j hj=>⟨W.heap.size,0,rfl,by simp,by
  have UX:j=0:=by simp at hj;exact hj
  subst UX;have:=World.alloc_heap_new W (.cells #[.int .i64 (k:Int)] 3)
  show(match (W.alloc (.cells #[.int .i64 (k:Int)] 3)).heap[W.heap.size]? with |some (.cells c _ _)=>c[0]? |_=>none)=_
  rw[this];rfl⟩) 1)
theorem zty(s:ByteArray)(i0 k:Nat)(hs:s.size≤1000000)(hi:i0≤s.size)(W:World) :
 Calls Tryz.prog 140 #[.string s,.int .i64 (i0:Int),.slice (some ⟨W.heap.size,0,none⟩) 1 1] (W.alloc (.cells #[.int .i64 (k:Int)] 3)) (RetI (W.alloc (.cells #[.int .i64 (k:Int)] 3)) ((i0+spn (clsB [k]) (s.data.toList.drop i0):Nat):Int)) :=
 zha s i0 1 1 _ [k] _ hs hi rfl (by omega) (fun j hj=>⟨W.heap.size,0,rfl,by simp,by
  have UX:j=0:=by simp at hj;exact hj
  subst UX;have:=World.alloc_heap_new W (.cells #[.int .i64 (k:Int)] 3)
  show(match (W.alloc (.cells #[.int .i64 (k:Int)] 3)).heap[W.heap.size]? with |some (.cells c _ _)=>c[0]? |_=>none)=_
  rw[this];rfl⟩)
theorem zqk(s:ByteArray)(k:Nat):∀c l,s.data.toList.drop (k+spn blQ (s.data.toList.drop k))=c :: l→¬blQ c=true:=by
 intro c l h;rw[←List.drop_drop]at h;generalize s.data.toList.drop k=m at h
 induction m with
 |nil=>simp[spn]at h
 |cons x m ih =>
  by_cases hx:blQ x=true
  ·have e:spn blQ (x :: m)=spn blQ m+1:=by show(if blQ x=true then _ else _)=_;rw[if_pos hx]
   rw[e,List.drop_succ_cons]at h;exact ih h
  ·have e:spn blQ (x :: m)=0:=by show(if blQ x=true then _ else _)=_;rw[if_neg hx]
   rw[e,List.drop_zero]at h
   injection h with h1 _;rw[←h1];exact hx
theorem z16:clsB [1]=blQ:=by
 funext c
 obtain⟨_,_,_,_,h,_⟩:=zc0 c;unfold clsB;rw[Bool.eq_iff_iff,←h];simp
theorem zr4(s:ByteArray)(b:Nat)(w:World):Calls Tryz.prog 83 #[.string s,.pointer (some ⟨b,0,none⟩)] w fun e w' =>
 e=.returned (.func (.func 139) #[] #[.pointer (some ⟨w.heap.size,0,none⟩),.pointer (some ⟨w.heap.size+1,0,none⟩)])∧w'=(w.alloc (.cells #[.string s] 9)).alloc (.cells #[.pointer (some ⟨b,0,none⟩)] 111):=by
 go_enter Tryz.func83,Tryz.ntmps83;go_wp2_with fail;go_ret;exact⟨rfl,rfl⟩
def z6v(s:ByteArray)(Bt Bp Be:Nat)(k:Nat)(W:World):Prop :=
 k≤s.size∧Boxed W Bt 9 (.string s)∧Boxed W Bp 111 (.pointer (some ⟨Be,0,none⟩))∧Boxed W Be 3 (.int .i64 (k:Int))
def z4l(Be:Nat)(W:World):Nat:=match W.cell? ⟨Be,0,none⟩with
 |some (.int _ n)=>n.toNat
 |_=>0
theorem zrl{s:ByteArray}{Bt Bp Be k:Nat}{W:World}(h:z6v s Bt Bp Be k W):z4l Be W=k:=by
 unfold z4l;rw[h.2.2.2.cell];simp
def zmy(s:ByteArray)(k:Nat):Value:=.int .i64 ((k+skS false (s.data.toList.drop k):Nat):Int)
theorem zum(s:ByteArray)(hs:s.size≤100000)(n Bt Bp Be:Nat)(hn:2≤n)(w:World):z6u Tryz.prog n 139 #[.pointer (some ⟨Bt,0,none⟩),.pointer (some ⟨Bp,0,none⟩)] (zmy s) (z6v s Bt Bp Be)
 (fun k=>k+skS false (s.data.toList.drop k)<s.size) (fun k=>k+skS false (s.data.toList.drop k)=s.size) w:=by
 intro l J Jx W s0 hJ hJx hE hY Z6 h0;have Wo:1≤n:=by omega
 have hfw:∀f,Fence.wide.fn f:=fun _=>trivial
 refine callsIn_of_wp Tryz.func139 rfl trivial ?_ rfl;simp only[Tryz.ntmps139,List.size_toArray,List.length_cons,List.length_nil,Nat.reduceAdd,Nat.reduceSub,Array.replicate_succ,Array.replicate_zero,List.push_toArray,List.append_toArray,List.nil_append,List.cons_append];gi_wp2;gi_loopw [4] (fun _ wr=>∃k:Nat,J k wr) (fun _ wr=>s.size-z4l Be wr)
 case atStart=>exact⟨s0,h0⟩
 case round =>
  obtain⟨k,hk⟩:=hrel;have hek:=hE k wr hk;obtain⟨Wh,VU,VH,TQ⟩:=hek;have ct:=VU.cell;have cp:=VH.cell;have ce:=TQ.cell;have Wk:=(VU:Boxed _ _ _ _).lt;have ZX:=VH.lt;have hlt3:=TQ.lt;obtain⟨p,hp⟩:∃p,p=k+spn blQ (s.data.toList.drop k):=⟨_,rfl⟩
  have Vi:Hid (∀W:World,Calls Tryz.prog 140 #[.string s,.int .i64 (k:Int),.slice (some ⟨W.heap.size,0,none⟩) 1 1] (W.alloc (.cells #[.int .i64 1] 3)).drew (RetI (W.alloc (.cells #[.int .i64 1] 3)).drew (p:Int))):=fun W=>by
   have:=ztx s k 1 (by omega) Wh W;rw[z16,←hp]at this;exact this
  have HALL:Hid (∀W:World,Below wr.heap.size wr W→W.cell? ⟨Bt,0,none⟩=some (.string s)∧W.cell? ⟨Bp,0,none⟩=some (.pointer (some ⟨Be,0,none⟩))∧W.cell? ⟨Be,0,none⟩=some (.int .i64 (k:Int))):=fun W h=>⟨((zfx h).1 _ _ Wk).trans ct,((zfx h).1 _ _ ZX).trans cp,((zfx h).1 _ _ hlt3).trans ce⟩
  have HA0:Hid (∀O:Obj,Below wr.heap.size wr (wr.alloc O).drew):=fun O=>(zaf wr O).drew
  have HD0:Hid (Below wr.heap.size wr wr.drew):=(Below.refl _ wr).drew;have HY:=Z9 hY;have HE:=Z9 hE;have HJ:=Z9 hJ;have HP:=Z9 hp;clear hY hE hJ hJx hp VU VH TQ;gi_wp2;refine wpIn_wide.2 ?_
  go_region_held3 (fun W=>W.cell? ⟨Bt,0,none⟩=some (.string s)∧W.cell? ⟨Bp,0,none⟩=some (.pointer (some ⟨Be,0,none⟩))∧W.cell? ⟨Be,0,none⟩=some (.int .i64 (k:Int)))
   ((first |with_reducible exact HALL.out _ HD0.out |with_reducible exact HALL.out _ (HA0.out _)))
   ((first |(go_at_call 140;refine(Vi.out _).mono ?_;rintro e w' ⟨rfl,rfl⟩)))
  obtain⟨U,hU⟩:∃U,U=(wr.alloc (.cells #[.int .i64 1] 3)).drew:=⟨_,rfl⟩
  have hjU:J k U:=by
   refine HJ.out k wr U hk ?_;rw[hU];have g:=World.grownBy_alloc wr (.cells #[.int .i64 1] 3) none;exact⟨g.os,g.tape,g.output,g.size,g.block⟩
  rw[←hU];obtain⟨T,hT⟩:∃T,T=k+skS false (s.data.toList.drop k):=⟨_,rfl⟩
  have hpT:T=p+skS false (s.data.toList.drop p):=by
   rw[hT,zuq,HP.out,←List.drop_drop];omega
  have Wt:p≤s.size:=by
   have:=zd4 blQ (s.data.toList.drop k);rw[List.length_drop,zab]at this;have:=HP.out;omega
  have Zf:∀c l,s.data.toList.drop p=c :: l→¬blQ c=true:=by
   rw[HP.out];exact zqk s k
  have HT:=Z9 hT
  have Vk:Hid (T≤s.size):=by
   show T≤s.size
   have:=ziz false (s.data.toList.drop k);rw[List.length_drop,zab]at this;omega
  have ZA:Hid (p≤s.size∧T=p+skS false (s.data.toList.drop p)∧(∀c l,s.data.toList.drop p=c :: l→¬blQ c=true)∧J k U):=⟨Wt,hpT,Zf,hjU⟩;clear hU hT hpT Zf hjU ct cp ce HALL HA0 HD0;have ek:=zrl (HE.out k wr hk);have HEK:=Z9 ek;clear ek;obtain⟨W0x,hW0x⟩:∃W0x:World,W0x=wr:=⟨_,rfl⟩
  gi_wp2;gi_loopw [4,5] (fun iv _ W=>∃j:Nat,iv=.int .i64 (j:Int)∧j≤s.size∧T=j+skS false (s.data.toList.drop j)∧(∀c l,s.data.toList.drop j=c :: l→¬blQ c=true)∧J k W) (fun iv _ _=>s.size-(intOf iv).toNat)
  case atStart=>exact⟨p,rfl,ZA.out.1,ZA.out.2.1,ZA.out.2.2.1,ZA.out.2.2.2⟩
  case round =>
   obtain⟨j,rfl,hj,Uv,SK,UM⟩:=hrel;obtain⟨_,VU,VH,TQ⟩:=HE.out k _ UM;have ct:=VU.cell;have Wk:=VU.lt;obtain⟨A,hA⟩:∃A,A=atN (s.data.toList.drop j):=⟨_,rfl⟩
   have ZI:Hid (∀W,Calls Tryz.prog 141 #[.string s,.int .i64 (j:Int)] W (RetI W A)):=fun W=>by rw[hA];exact zje s j W
   clear VH TQ VU
   by_cases TA:A=7
   ·obtain⟨c,r,VW,Sv⟩:∃c r,s.data.toList.drop j=c :: r∧c.toNat=35:=by
     cases hd:s.data.toList.drop j with
     |nil=>rw[TA,hd]at hA;exact absurd hA (by decide)
     |cons c r =>
      rw[TA,hd]at hA;obtain⟨_,_,_,_,_,h7,_⟩:=zc0 c;exact⟨c,r,rfl,h7.1 hA.symm⟩
    have Z5:(c :: r).length=s.size-j:=by rw[←VW,List.length_drop,zab]
    have SD:j<s.size:=by simp at Z5;omega
    subst TA
    have HIXg:∀V,Lib.indexByte (c :: r) 10=V→Hid (∀W,Calls Tryz.prog 142 #[.string (s.extract j s.size),.int .u8 10] W fun e w'=>e=.returned (.int .i64 V)∧W=w'):=fun V hV W=>by
     have:=Tryz.strings_IndexByte (s.extract j s.size) 10 W;rw[zcb,List.take_of_length_le (by rw[List.length_drop,zab];exact Nat.le_refl _),VW,show(Int.toNat 10).toUInt8=10 from rfl,hV]at this;exact this.mono (fun _ _ h=>⟨h.1,h.2.symm⟩)
    rcases zwt (r:=r) Sv with⟨h1,h2,h3,h4⟩ |⟨h2,h3⟩
    ·have Xp:=HIXg _ h2
     obtain⟨q,hq⟩:∃q,q=spn nlQ r+1:=⟨_,rfl⟩
     rw[←hq]at Xp h3 h4;have Te:j+q<s.size:=by simp at Z5;omega
     have hqi:((j:Int)+(q:Int))=((j+q:Nat):Int):=by omega
     obtain⟨p2,Wr⟩:∃p2,p2=j+q+spn blQ (s.data.toList.drop (j+q)):=⟨_,rfl⟩
     have V4:Hid (∀W:World,Calls Tryz.prog 140 #[.string s,.int .i64 ((j:Int)+(q:Int)),.slice (some ⟨W.heap.size,0,none⟩) 1 1] (W.alloc (.cells #[.int .i64 1] 3)) (RetI (W.alloc (.cells #[.int .i64 1] 3)) (p2:Int))):=fun W=>by
      have:=zty s (j+q) 1 (by omega) (by omega) W;rw[z16,←Wr]at this;rw[hqi];exact this
     have hNX:Hid (p2≤s.size∧j<p2∧T=p2+skS false (s.data.toList.drop p2)∧(∀c l,s.data.toList.drop p2=c :: l→¬blQ c=true)):=by
      refine⟨?_,by omega,?_,?_⟩
      ·have:=zd4 blQ (s.data.toList.drop (j+q))
       rw[List.length_drop,zab]at this;omega
      ·rw[Uv,VW,h3,←VW,List.drop_drop,zuq,Wr,List.drop_drop]
       omega
      ·rw[Wr];exact zqk s (j+q)
     clear hq h1 h2 h3 h4 Wr HIXg hqi hA Uv SK Z5;gi_wp2_with (first |(gi_at_call 141;refine(callsIn_wide.2 (ZI.out _)).mono ?_;rintro e w' ⟨rfl,rfl⟩) |(gi_at_call 142;refine(callsIn_wide.2 (Xp.out _)).mono ?_;rintro e w' ⟨rfl,rfl⟩) |(gi_at_call 140;refine(callsIn_wide.2 (V4.out _)).mono ?_;rintro e w' ⟨rfl,rfl⟩));go_roundw
     case rel =>
      obtain⟨n1,n2,n3,n4⟩:=hNX.out;exact⟨p2,rfl,n1,n3,n4,HJ.out k _ _ UM (World.grownBy_alloc _ _ none)⟩
     case measure =>
      obtain⟨n1,n2,n3,n4⟩:=hNX.out
      simp[intOf]<;>omega
    ·have Xp:=HIXg _ h2
     gi_wp2_with (first |(gi_at_call 141;refine(callsIn_wide.2 (ZI.out _)).mono ?_;rintro e w' ⟨rfl,rfl⟩) |(gi_at_call 142;refine(callsIn_wide.2 (Xp.out _)).mono ?_;rintro e w' ⟨rfl,rfl⟩));refine bodyPost_ret (results_none rfl _ _ _) rfl ?_;refine⟨⟨_,rfl⟩,.inl ⟨k,?_,UM⟩⟩;rw[←HT.out,Uv,VW,h3,Z5];omega
   ·have hAb:(A == 7)=false:=by rw[beq_eq_false_iff_ne];exact TA
    by_cases SD:j<s.size
    ·have hTj2:T=j:=by
      have e:=zbw s j SD
      rw[Uv,e,zup (SK _ _ e) (by
       intro VT;obtain⟨_,_,_,_,_,h7,_⟩:=zc0 s[j]
       exact TA (by rw[hA,e];exact h7.2 VT))]
      omega
     have hTk:zmy s k=.int .i64 (j:Int):=by unfold zmy;rw[←HT.out,hTj2]
     obtain⟨fn,tmps,assign,body,hy,hR⟩:=HY.out k wr UM (by rw[←HT.out,hTj2];exact SD);rw[hTk]at hy;have HJJ:=Z9 UM;clear hTk hTj2 hA Uv SK UM;gi_wp2_with (first |(gi_at_call 141;refine(callsIn_wide.2 (ZI.out _)).mono ?_;rintro e w' ⟨rfl,rfl⟩));refine hR.mono ?_;rintro ee W3 (⟨rfl,s2,YP,UL⟩ |⟨rfl,V6⟩)
     ·gi_wp2
      go_roundw
      case rel=>exact⟨s2,UL⟩
      case measure =>
       have e1:=zrl (HE.out s2 W3 UL);have e2:=(HE.out s2 W3 UL).1;have e3:=HEK.out;rw[e1,e3];omega
     ·gi_wp2
      refine bodyPost_ret (results_none rfl _ _ _) rfl ?_;exact⟨⟨_,rfl⟩,.inr V6⟩
    ·gi_wp2_with (first |(gi_at_call 141;refine(callsIn_wide.2 (ZI.out _)).mono ?_;rintro e w' ⟨rfl,rfl⟩))
     refine bodyPost_ret (results_none rfl _ _ _) rfl ?_;refine⟨⟨_,rfl⟩,.inl ⟨k,?_,UM⟩⟩;rw[←HT.out,Uv,List.drop_eq_nil_of_le (by rw[zab];omega)]
     show j+0=_
     omega
def zg3(x:Tk):List Value:=[.int .u8 x.kind,.string x.text,.string x.rat,.int .i64 x.date,.int .i64 x.place]
def tks(l:List Tk):List Value:=l.flatMap zg3
theorem zfr(x:Tk):(zg3 x).length=5:=rfl
attribute [local go_sem] Oper.semAt_some
def zt1:Value:=.agg #[.int .u8 0,.string ByteArray.empty,.string ByteArray.empty,.int .i64 0,.int .i64 0]
theorem z1w:(Tryz.prog.info? 100).map (fun i=>(i.zero,i.size,i.bytes))=some (some zt1,5,56):=by kernel_rfl
theorem zjg{P:Program}{e:TypeId}{z:Value}{s b:Nat}(h:(P.info? e).map (fun i=>(i.zero,i.size,i.bytes))=some (some z,s,b)):∃i,P.info? e=some i∧i.zero=some z∧i.size=s∧i.bytes=b:=by
 obtain⟨i,hi,he⟩:=Option.map_eq_some_iff.1 h;simp only[Prod.mk.injEq]at he;exact⟨i,hi,he.1,he.2.1,he.2.2⟩
theorem zli{l:List UInt8}{e:Int}(h:oneL l=.no e):e≠0:=by
 rintro rfl
 cases l with
 |nil=>cases h
 |cons c r =>
  rcases zfn c r with w |w |w |⟨w,v⟩ |⟨w,v⟩ |⟨w1,w2,w3,w4⟩
  ·rw[zem w]at h;split at h<;>cases h
  ·rw[zdk w]at h;(repeat' split at h)<;>cases h
  ·rw[zf4 w]at h;(repeat' split at h)<;>cases h
  ·rw[zez w v]at h;exact absurd (zzf h) (by decide)
  ·rw[zdo w v]at h;cases h
  ·rw[zen w1 w2 w3 w4]at h;cases h
theorem zm1{W:World}{base e n z:Nat}{v:Value}{xs:List Value}(h:W.ownsRow base e z v n xs){row:Option Nat}{C:Nat}(hr:∀r,row=some r→C≤r∧∃o:Obj,W.heap[r]?=some o∧o.isCells=false):v.ownBlock=none∨v.ownBlock≠row:=by
 rcases h.2 with⟨rfl,_⟩ |⟨g,cap,cur,rfl,_,hg,_⟩
 ·exact .inl rfl
 ·right
  intro e;obtain⟨_,o,ho,hc⟩:=hr g e.symm;rw[hg]at ho
  injection ho with ho
  subst ho
  cases hc
structure LexB(b:Nat)(s:ByteArray)(k:Nat)(v:Value)(W:World):Prop where
 t:Boxed W b 9 (.string s)
 r0:Boxed W (b+1) 67 (.slice none 0 0)
 r1:Boxed W (b+2) 3 (.int .i64 0)
 r2:Boxed W (b+3) 28 (.int .i64 0)
 l:Boxed W (b+4) 67 v
 e:Boxed W (b+5) 3 (.int .i64 (k:Int))
 c0:Boxed W (b+6) 9 (.string s)
 c1:Boxed W (b+7) 111 (.pointer (some ⟨b+5,0,none⟩))
theorem LexB.kept{b k:Nat}{s:ByteArray}{v:Value}{W W':World}{row:Option Nat}(h:LexB b s k v W)(hg:W.grownBy W' row)(hr:∀j,j<b+8→some j≠row):LexB b s k v W' :=
 ⟨h.t.kept hg (hr _ (by omega)),h.r0.kept hg (hr _ (by omega)),h.r1.kept hg (hr _ (by omega)),h.r2.kept hg (hr _ (by omega)),h.l.kept hg (hr _ (by omega)),h.e.kept hg (hr _ (by omega)),h.c0.kept hg (hr _ (by omega)),h.c1.kept hg (hr _ (by omega))⟩
theorem LexB.lt{b k:Nat}{s:ByteArray}{v:Value}{W:World}(h:LexB b s k v W):b+8≤W.heap.size:=h.c1.lt
theorem LexB.setL{b k:Nat}{s:ByteArray}{v:Value}{W:World}(h:LexB b s k v W)(v':Value):LexB b s k v' (W.setCell ⟨b+4,0,none⟩ v') :=
 ⟨h.t.other (by omega) _,h.r0.other (by omega) _,h.r1.other (by omega) _,h.r2.other (by omega) _,h.l.set _,h.e.other (by omega) _,h.c0.other (by omega) _,h.c1.other (by omega) _⟩
theorem LexB.setE{b k:Nat}{s:ByteArray}{v:Value}{W:World}(h:LexB b s k v W)(k':Nat):LexB b s k' v (W.setCell ⟨b+5,0,none⟩ (.int .i64 (k':Int))) :=
 ⟨h.t.other (by omega) _,h.r0.other (by omega) _,h.r1.other (by omega) _,h.r2.other (by omega) _,h.l.other (by omega) _,h.e.set _,h.c0.other (by omega) _,h.c1.other (by omega) _⟩
def LexI(w:World)(s:ByteArray)(R:LexR)(k:Nat)(W:World):Prop :=
 ∃ts v,k≤s.size∧(ts:List Tk).length≤k∧preL ts (lexL k (s.data.toList.drop k))=R∧LexB w.heap.size s k v W∧W.ownsRow (w.heap.size+8) 100 5 v ts.length (tks ts)∧Below w.heap.size w W
def LexX(w:World)(R:LexR)(W:World):Prop :=
 ∃i e,R=.no i e∧Boxed W (w.heap.size+1) 67 (.slice none 0 0)∧Boxed W (w.heap.size+2) 3 (.int .i64 (i:Int))∧Boxed W (w.heap.size+3) 28 (.int .i64 e)∧Below w.heap.size w W
theorem zzn(w:World)(s:ByteArray)(R:LexR)(B:Nat)(hB:w.heap.size+8≤B):OwnFrom B (LexI w s R):=by
 intro k W W' row ⟨ts,v,h1,h2,h3,h4,h5,h6⟩ hg hr;exact⟨ts,v,h1,h2,h3,h4.kept hg (fun j hj e=>by have:=(hr j e.symm).1;omega),h5.kept hg (zm1 h5 hr),h6.grown hg h6.size (fun k hk=>by have:=(hr k hk).1;omega)⟩
theorem zzm(w:World)(R:LexR)(B:Nat)(hB:w.heap.size+8≤B):OwnFrom B (fun(_:Unit) W=>LexX w R W):=by
 intro k W W' row ⟨i,e,h1,h2,h3,h4,h6⟩ hg hr
 have ZT:∀j,j<w.heap.size+8→some j≠row:=fun j hj e=>by have:=(hr j e.symm).1;omega
 exact⟨i,e,h1,h2.kept hg (ZT _ (by omega)),h3.kept hg (ZT _ (by omega)),h4.kept hg (ZT _ (by omega)),h6.grown hg h6.size (fun k hk=>by have:=(hr k hk).1;omega)⟩
theorem zss{w:World}{B B' e n z:Nat}{v:Value}{xs:List Value}(h:w.ownsRow B e z v n xs)(hB:B'≤B):w.ownsRow B' e z v n xs:=by
 obtain⟨h1,h2⟩:=h;refine⟨h1,?_⟩
 rcases h2 with h |⟨g,cap,cur,e1,e2,e3⟩
 ·exact .inl h
 ·exact .inr ⟨g,cap,cur,e1,Nat.le_trans hB e2,e3⟩
theorem zbi{W W':World}(h:Below W.heap.size W W'):W.grownBy W' none:=⟨h.os,h.tape,h.output,h.size,fun k hk _=>h.block k hk⟩
theorem zqg(l:List Tk)(x:Tk):tks l ++ zg3 x=tks (l ++ [x]):=by simp[tks]
theorem zqh(W:World)(B:Nat)(hB:W.heap.size=B)(x:Tk)(t:TypeId):∀(j:Nat) u,(zg3 x)[j]?=some u→(W.alloc (.cells (zg3 x).toArray t)).cell? ((⟨B,0,none⟩:Addr).add j)=some u:=by
 intro j u hj;rw[show(⟨B,0,none⟩:Addr).add j=⟨B,j,none⟩by simp[Addr.add]<;>omega,←hB];have:=World.alloc_heap_new W (.cells (zg3 x).toArray t)
 show(match (W.alloc (.cells (zg3 x).toArray t)).heap[W.heap.size]? with |some (.cells c _ _)=>c[j]? |_=>none)=_
 rw[this];simpa using hj
theorem zw0(x:Tk):∀u ∈ zg3 x,u.oneCell'=true:=by
 intro u hu;simp only[zg3,List.mem_cons,List.not_mem_nil,or_false]at hu
 rcases hu with rfl |rfl |rfl |rfl |rfl<;>rfl
theorem zwn{W W':World}{base e z n:Nat}{v:Value}{xs:List Value}(h:W.ownsRow base e z v n xs)(hg:W.grownBy W' v.ownBlock):KeepsOthers W W' :=
 KeepsOthers.of_grownBy hg fun j o ej hj=>by
  rcases h.2 with⟨rfl,_⟩ |⟨g,cap,cur,rfl,_,Ya,_⟩
  ·simp[Value.ownBlock]at ej
  ·obtain rfl:g=j:=by simpa[Value.ownBlock]using ej
   rw[Ya]at hj;cases hj;rfl
def zl8(w:World)(len:Nat)(R:LexR)(e:Ending)(w':World):Prop :=
 (∃i er,R=.no i er∧e=.returned (.tuple #[.slice none 0 0,.int .i64 ((i:Nat):Int),.int .i64 er])∧Below w.heap.size w w') ∨
 (∃ts v,R=.yes ts∧e=.returned (.tuple #[v,.int .i64 (len:Int),.int .i64 0])∧w'.ownsRow w.heap.size 100 5 v (ts:List Tk).length (tks ts)∧Below w.heap.size w w')
theorem z4a(s:ByteArray)(w:World)(hs:s.size≤20000):Calls Tryz.prog 43 #[.string s] w (zl8 w s.size (lexL 0 s.data.toList)):=by
 obtain⟨R,hR⟩:∃R,R=lexL 0 s.data.toList:=⟨_,rfl⟩
 rw[←hR];have HR:=Z9 hR;clear hR;refine(callsIn_wide (n:=6)).1 ?_;refine callsIn_of_wp_marks Tryz.func43 rfl trivial ?_ rfl;simp only[Tryz.ntmps43,List.size_toArray,List.length_cons,List.length_nil,Nat.reduceAdd,Nat.reduceSub,Array.replicate_succ,Array.replicate_zero,List.push_toArray,List.append_toArray,List.nil_append,List.cons_append]
 have hT:∀f,Fence.wide.fn f:=fun _=>trivial
 have hgt:decide ((20000:Int)<(s.size:Int))=false:=by simp;omega
 gi_wp2_with (gi_at_call 83;refine(callsIn_wide.2 (zr4 s _ _)).mono ?_;rintro e w' ⟨rfl,rfl⟩);obtain⟨W0,Z3⟩:∃W0,W0=(((((((w.alloc (.cells #[.string s] 9)).alloc (.cells #[.slice none 0 0] 67)).alloc (.cells #[.int .i64 0] 3)).alloc (.cells #[.int .i64 0] 28)).alloc (.cells #[.slice none 0 0] 67)).alloc (.cells #[.int .i64 0] 3)).alloc (.cells #[.string s] 9)).alloc (.cells #[.pointer (some ⟨w.heap.size+5,0,none⟩)] 111):=⟨_,rfl⟩
 have Zo:W0.heap.size=w.heap.size+8:=by rw[Z3];simp
 have ZP:LexB w.heap.size s 0 (.slice none 0 0) W0:=by
  rw[Z3]
  have e:∀(u:World)(t:TypeId)(v:Value)(B:Nat),u.heap.size=B→Boxed (u.alloc (.cells #[v] t)) B t v:=fun u t v B h=>by rw[←h];exact Boxed.new u t v
  refine⟨?_,?_,?_,?_,?_,?_,?_,?_⟩
  ·exact((((((((e w _ _ _ rfl).alloc _).alloc _).alloc _).alloc _).alloc _).alloc _).alloc _)
  ·exact(((((((e _ _ _ _ (by simp)).alloc _).alloc _).alloc _).alloc _).alloc _).alloc _)
  ·exact((((((e _ _ _ _ (by simp)).alloc _).alloc _).alloc _).alloc _).alloc _)
  ·exact(((((e _ _ _ _ (by simp)).alloc _).alloc _).alloc _).alloc _)
  ·exact((((e _ _ _ _ (by simp)).alloc _).alloc _).alloc _)
  ·exact(((e _ _ _ _ (by simp)).alloc _).alloc _)
  ·exact((e _ _ _ _ (by simp)).alloc _)
  ·exact(e _ _ _ _ (by simp))
 have Z6:Below w.heap.size w W0:=by rw[Z3];exact((((((((Below.refl _ w).alloc (Nat.le_refl _) _).alloc (by simp) _).alloc (by simp;omega) _).alloc (by simp;omega) _).alloc (by simp;omega) _).alloc (by simp;omega) _).alloc (by simp;omega) _).alloc (by simp;omega) _
 rw[←Z3];clear Z3;simp only[Nat.add_assoc,Nat.reduceAdd];have HB0:=Z9 ZP;have hS:=zum s (by omega) 5 (w.heap.size+6) (w.heap.size+7) (w.heap.size+5) (by omega) W0;have HSZ:=Z9 Zo;obtain⟨i0,hi,ZN,ZO,ZD⟩:=zjg z1w
 refine zy2 (by omega) (gf:=139) (lb:=#[.pointer (some ⟨w.heap.size+6,0,none⟩),.pointer (some ⟨w.heap.size+7,0,none⟩)]) rfl (enters_of Tryz.func139 (by kernel_rfl) rfl) hS (Below.refl _ _) rfl
  (LexI w s R) (LexX w R) (zzn w s R _ (by omega)) (zzm w R _ (by omega)) (fun k W h=>by
   obtain⟨ts,v,h1,_,_,h4,_⟩:=h
   exact⟨h1,h4.c0,h4.c1,h4.e⟩) 0 ⟨[],.slice none 0 0,Nat.zero_le _,Nat.zero_le _,by rw[List.drop_zero,zqz,HR.out],ZP,World.ownsRow_nil _ _ _ _,Z6⟩ ?a1 ?assign ?body ?done ?stop
 case assign =>
  intro l x W K hK;gi_wp2;exact hK
 case body =>
  rintro l k W ⟨ts,v,hk,Z5,Ws,hB,ZG,Zu⟩ VZ;obtain⟨T,TI⟩:∃T,T=k+skS false (s.data.toList.drop k):=⟨_,rfl⟩
  have hTs:T<s.size:=by rw[TI];exact VZ
  have hTI:T<20000:=by omega
  have Yg:zmy s k=.int .i64 (T:Int):=by unfold zmy;rw[←TI]
  simp only[Yg];have hone:=Z9 (z3k s T W (by omega) hTs);have hct:=hB.t.cell
  have hT2:∀f,(Fence.wide.inRound l).fn f:=fun _=>trivial
  have Xr:1≤6-1-1:=by omega
  have hsk:skS false (s.data.toList.drop k)<(s.data.toList.drop k).length:=by rw[List.length_drop,zab];omega
  have WB:(s.data.toList.drop k).drop (skS false (s.data.toList.drop k))=s.data.toList.drop T:=by rw[List.drop_drop,TI]
  have HB:=Z9 hB;have Zj:=Z9 ZG;have HBL:=Z9 Zu;have HTD:=Z9 TI;have HPRE:=Z9 Ws;have HSK:=Z9 hsk;have HDD:=Z9 WB;clear hB ZG Zu TI Ws hsk WB VZ Yg hT
  cases XH:oneL (s.data.toList.drop T)with
  |no er =>
   have he:(er != 0)=true:=by simpa using zli XH
   have Y6:=Z9 XH;rw[XH]at hone;clear XH;gi_wp2_with (gi_at_call 84;refine(CallsIn.inRound l (callsIn_wide.2 hone.out)).mono ?_;rintro e w1 ⟨⟨K,TT,Q,D,en,rfl⟩,ZL⟩;have X7:=(HB.out.kept (zbi ZL) (by simp)).kept (World.grownBy_alloc w1 (.cells #[.int .u8 K,.string TT,.string Q,.int .i64 D,.int .i64 (T:Int)] 100) none) (by simp);have f1:=X7.r0.cell;have f2:=X7.r1.cell;have f3:=X7.r2.cell;have f4:=X7.r0.frozen;have f5:=X7.r1.frozen;have f6:=X7.r2.frozen;have f7:=X7.lt;have HB1:=Z9 X7;have HBE:=Z9 ZL;clear X7 ZL);refine⟨KeepsOthers.from ?_ _,T,er,?_,?_,?_,?_,?_⟩
   ·exact((((KeepsOthers.of_grownBy (zbi HBE.out) (by simp)).trans (KeepsOthers.alloc _ _)).trans (KeepsOthers.setCell _ _ _)).trans (KeepsOthers.setCell _ _ _)).trans (KeepsOthers.setCell _ _ _)
   ·have h1:=zhi (off:=k) HSK.out (by rw[HDD.out];exact Y6.out)
    rw[←HPRE.out,h1,←HTD.out];rfl
   ·exact((HB1.out.r0.set _).other (by omega) _).other (by omega) _
   ·exact((HB1.out.r1.other (by omega) _).set _).other (by omega) _
   ·exact((HB1.out.r2.other (by omega) _).other (by omega) _).set _
   ·have hW:Below w.heap.size w w1:=HBL.out.grown (zbi HBE.out) HBL.out.size (by simp)
    exact(((hW.alloc hW.size _).setCell (by simp) _).setCell (by simp) _).setCell (by simp) _
  |yes t m =>
   have Xk:=zey XH;have W9:T+m≤s.size:=by have:=zpd XH;rw[List.length_drop,zab]at this;omega
   have Y6:=Z9 XH;rw[XH]at hone;clear XH
   obtain⟨x,hx⟩:∃x:Tk,x={ t with place:=(T:Int) }:=⟨_,rfl⟩
   obtain⟨O,hO⟩:∃O:Obj,O=.cells #[.int .u8 t.kind,.string t.text,.string t.rat,.int .i64 t.date,.int .i64 (T:Int)] 100:=⟨_,rfl⟩
   have hxO:O=.cells (zg3 x).toArray 100:=by rw[hO,hx];rfl
   have HX:=Z9 hx;have HXO:=Z9 hxO;have HO:=Z9 hO;have hktT:k≤T:=by have:=HTD.out;omega
   have ZC:ts.length<20000:=by omega
   have HTT:=Z9 hktT;clear hx hxO hO hktT
   gi_wp2_with (first
    |(
     gi_at_call 84
     refine(CallsIn.inRound l (callsIn_wide.2 hone.out)).mono ?_;rintro e w1 ⟨rfl,ZL⟩;have X7:=(HB.out.kept (zbi ZL) (by simp)).kept (World.grownBy_alloc w1 (.cells #[.int .u8 t.kind,.string t.text,.string t.rat,.int .i64 t.date,.int .i64 (T:Int)] 100) none) (by simp);have f1:=X7.l.cell;have f2:=X7.e.cell;have f4:=X7.l.frozen;have f5:=X7.e.frozen;have f7:=X7.lt;have HB1:=Z9 X7;have HBE:=Z9 ZL
     clear X7 ZL)
    |(
     gi_at_builtin
     have HOA:=Z9 (((Zj.out.kept (zbi HBE.out) (Classical.em _)).alloc (.cells #[.int .u8 t.kind,.string t.text,.string t.rat,.int .i64 t.date,.int .i64 (T:Int)] 100)).alloc (.cells #[.int .u8 t.kind,.string t.text,.string t.rat,.int .i64 t.date,.int .i64 (T:Int)] 100))
     refine wpListIn_append_own _ rfl (.tmp 28) (.tmp 30) 67 rfl (w.heap.size+8) 100 i0 zt1 5 56 Tryz.underlying67 hi ZN ZO ZD rfl (by decide) _ _ _ rfl HOA.out ⟨w1.heap.size+1,0,none⟩ 1 1 (zg3 x) rfl rfl ?c1 ?c2 ?c3 ?c4 ?c5 ?_))
   case c1=>rw[←HO.out,HXO.out];exact zqh _ _ (by simp) x _
   case c2=>exact zw0 x
   case c3=>unfold maxLen;omega
   case c4=>omega
   case c5=>simp;simp at f7;omega
   intro v' w2 ZV Z2 _
   obtain⟨g',cap',rfl⟩:∃g cap,v'=.slice (some ⟨g,0,none⟩) (ts.length+1) cap:=by
    rcases ZV.2 with⟨_,h0⟩ |⟨g,cap,cur,rfl,_⟩
    ·omega
    ·exact⟨g,cap,rfl⟩
   have HOA:=Z9 (((Zj.out.kept (zbi HBE.out) (Classical.em _)).alloc (.cells #[.int .u8 t.kind,.string t.text,.string t.rat,.int .i64 t.date,.int .i64 (T:Int)] 100)).alloc (.cells #[.int .u8 t.kind,.string t.text,.string t.rat,.int .i64 t.date,.int .i64 (T:Int)] 100))
   have Zf:∀j,j<w.heap.size+8→some j≠v.ownBlock:=fun j hj e=>by have:=(HOA.out.lt j e.symm).1;omega
   have ZS:=(HB1.out.kept (World.grownBy_alloc _ (.cells #[.int .u8 t.kind,.string t.text,.string t.rat,.int .i64 t.date,.int .i64 (T:Int)] 100) none) (by simp)).kept Z2 Zf;have g1:=ZS.l.cell;have g2:=ZS.e.cell;have g3:=ZS.l.frozen;have g4:=ZS.e.frozen;have HB2:=Z9 ZS;have KO:Hid (KeepsOthers W w2):=((((KeepsOthers.of_grownBy (zbi HBE.out) (by simp)).trans (KeepsOthers.alloc _ _)).trans (KeepsOthers.alloc _ _)).trans (zwn HOA.out Z2))
   have BL2:Hid (Below w.heap.size w w2):=by
    have hW:Below w.heap.size w w1:=HBL.out.grown (zbi HBE.out) HBL.out.size (by simp);have Z4:=(hW.alloc hW.size (.cells #[.int .u8 t.kind,.string t.text,.string t.rat,.int .i64 t.date,.int .i64 (T:Int)] 100));have V7:=Z4.alloc Z4.size (.cells #[.int .u8 t.kind,.string t.text,.string t.rat,.int .i64 t.date,.int .i64 (T:Int)] 100);exact V7.grown Z2 V7.size (fun k hk=>by have:=(HOA.out.lt k hk).1;omega)
   have HOWN2:=Z9 ZV;clear ZV Z2 Zf ZS;gi_wp2;have Ya:w.heap.size+8≤g':=(HOWN2.out.lt g' rfl).1;refine⟨KeepsOthers.from ((KO.out.trans (KeepsOthers.setCell _ _ _)).trans (KeepsOthers.setCell _ _ _)) _,T+m,by have:=HTT.out;omega,ts ++ [x],.slice (some ⟨g',0,none⟩) (ts.length+1) cap',W9,by rw[List.length_append];show ts.length+1≤_;have:=HTT.out;omega,?_,?_,?_,?_⟩
   ·have h1:=zf6 (off:=k) HSK.out (by rw[HDD.out];exact Y6.out)
    rw[←HTD.out,←HX.out]at h1;rw[←HPRE.out,h1,zmu,List.drop_drop,←Nat.add_assoc,←HTD.out]
   ·have:=(HB2.out.setL (.slice (some ⟨g',0,none⟩) (ts.length+1) cap')).setE (T+m)
    rw[Int.natCast_add]at this;exact this
   ·have h1:=HOWN2.out
    rw[zqg]at h1;rw[List.length_append];exact(h1.kept (grownBy_setCell' _ _ _) (.inr (fun e=>by simp[Value.ownBlock]at e;omega))).kept (grownBy_setCell' _ _ _) (.inr (fun e=>by simp[Value.ownBlock]at e;omega))
   ·exact(BL2.out.setCell (by simp) _).setCell (by simp) _
 case done =>
  rintro D k W hD hF ⟨ts,v,hk,Z5,Ws,hB,ZG,Zu⟩ hK
  obtain⟨va,vn,vc,rfl⟩:∃a n c,v=.slice a n c:=by
   rcases ZG.2 with⟨rfl,_⟩ |⟨g,cap,cur,rfl,_⟩
   ·exact⟨_,_,_,rfl⟩
   ·exact⟨_,_,_,rfl⟩
  have c0:=hB.t.cell;have c1:=hB.r0.cell;have c2:=hB.r1.cell;have c3:=hB.r2.cell;have c4:=hB.l.cell;have c5:=hB.r0.frozen;have c6:=hB.r1.frozen;have c7:=hB.r2.frozen;have HB:=Z9 hB;have Zj:=Z9 ZG;have HBL:=Z9 Zu;have HPRE:=Z9 Ws;have HF:=Z9 hF;have HK:=Z9 hK;have HW:=HB.out.lt;clear hB ZG Zu Ws hF hK;gi_wp2;refine wpIn_wide.2 ?_;go_region;obtain⟨FW,XE⟩:∃FW,FW=(((W.setCell ⟨w.heap.size+1,0,none⟩ (.slice va vn vc)).setCell ⟨w.heap.size+2,0,none⟩ (.int .i64 (s.size:Int))).setCell ⟨w.heap.size+3,0,none⟩ (.int .i64 0)).drew:=⟨_,rfl⟩
  rw[←XE];have b1:Boxed FW (w.heap.size+1) 67 (.slice va vn vc):=by rw[XE];exact((HB.out.r0.set _).other (by omega) _).other (by omega) _
  have b2:Boxed FW (w.heap.size+2) 3 (.int .i64 (s.size:Int)):=by rw[XE];exact((HB.out.r1.other (by omega) _).set _).other (by omega) _
  have b3:Boxed FW (w.heap.size+3) 28 (.int .i64 0):=by rw[XE];exact((HB.out.r2.other (by omega) _).other (by omega) _).set _
  have bK:FW.heap[D]?=some (.deferred (some [])):=by
   rw[XE]
   show(((W.setCell ⟨w.heap.size+1,0,none⟩ (.slice va vn vc)).setCell ⟨w.heap.size+2,0,none⟩ (.int .i64 (s.size:Int))).setCell ⟨w.heap.size+3,0,none⟩ (.int .i64 0)).heap[D]?=_
   rw[Below.heap_setCell _ ⟨w.heap.size+3,0,none⟩ _ D (by show D≠w.heap.size+3;omega),Below.heap_setCell _ ⟨w.heap.size+2,0,none⟩ _ D (by show D≠w.heap.size+2;omega),Below.heap_setCell _ ⟨w.heap.size+1,0,none⟩ _ D (by show D≠w.heap.size+1;omega)];exact HK.out
  have bB:Below w.heap.size w FW:=by rw[XE];exact(((HBL.out.setCell (by simp) _).setCell (by simp) _).setCell (by simp) _).drew
  have ZT:∀B,B<w.heap.size+8→(Value.slice va vn vc).ownBlock=none∨(Value.slice va vn vc).ownBlock≠some B:=fun B hB=>.inr (fun e=>by have:=(Zj.out.lt B e).1;omega)
  have bO:FW.ownsRow (w.heap.size+8) 100 5 (.slice va vn vc) ts.length (tks ts):=by
   rw[XE];have o1:=Zj.out.kept (grownBy_setCell' W (w.heap.size+1) (.slice va vn vc)) (ZT (w.heap.size+1) (by omega));have o2:=o1.kept (grownBy_setCell' _ (w.heap.size+2) (.int .i64 (s.size:Int))) (ZT (w.heap.size+2) (by omega));have o3:=o2.kept (grownBy_setCell' _ (w.heap.size+3) (.int .i64 0)) (ZT (w.heap.size+3) (by omega));exact o3
  clear XE c0 c1 c2 c3 c4 c5 c6 c7;gi_wp2;have e1:Boxed (FW.putObj D (.deferred none)) (w.heap.size+1) 67 (.slice va vn vc):=b1.kept (grownBy_putObj' FW D (.deferred none)) (fun e=>by injection e with e;omega);have e2:Boxed (FW.putObj D (.deferred none)) (w.heap.size+2) 3 (.int .i64 (s.size:Int)):=b2.kept (grownBy_putObj' FW D (.deferred none)) (fun e=>by injection e with e;omega);have e3:Boxed (FW.putObj D (.deferred none)) (w.heap.size+3) 28 (.int .i64 0):=b3.kept (grownBy_putObj' FW D (.deferred none)) (fun e=>by injection e with e;omega);have q1:=e1.cell;have q2:=e2.cell;have q3:=e3.cell
  have YW:skS false (s.data.toList.drop k)=(s.data.toList.drop k).length:=by
   have:=HF.out;rw[List.length_drop,zab];omega
  have Y4:R=.yes ts:=by
   rw[←HPRE.out,zc8 YW];simp[preL]
  have oP:(FW.putObj D (.deferred none)).ownsRow (w.heap.size+8) 100 5 (.slice va vn vc) ts.length (tks ts):=bO.kept (grownBy_putObj' FW D (.deferred none)) (zm1 bO (C:=0) (fun r e=>by injection e with e;exact⟨Nat.zero_le _,_,by rw[←e];exact bK,rfl⟩));refine⟨by simp,.inl ⟨_,_,rfl,run_takeDeferred bK,?_⟩⟩;refine⟨.tuple #[.slice va vn vc,.int .i64 (s.size:Int),.int .i64 0],?_,.inr ⟨ts,.slice va vn vc,Y4,rfl,?_,bB.grown (grownBy_putObj' FW D (.deferred none)) bB.size (fun k e=>by injection e with e;omega)⟩⟩
  ·simp[results,Tryz.results43,go_sem,q1,q2,q3]
  ·exact zss oP (by omega)
 case stop =>
  rintro D W hD ⟨i,er,hRe,h1,h2,h3,Zu⟩ hK;have c1:=h1.cell;have c2:=h2.cell;have c3:=h3.cell;gi_wp2;have e1:Boxed (W.putObj D (.deferred none)) (w.heap.size+1) 67 (.slice none 0 0):=h1.kept (grownBy_putObj' W D (.deferred none)) (fun e=>by injection e with e;omega);have e2:Boxed (W.putObj D (.deferred none)) (w.heap.size+2) 3 (.int .i64 (i:Int)):=h2.kept (grownBy_putObj' W D (.deferred none)) (fun e=>by injection e with e;omega);have e3:Boxed (W.putObj D (.deferred none)) (w.heap.size+3) 28 (.int .i64 er):=h3.kept (grownBy_putObj' W D (.deferred none)) (fun e=>by injection e with e;omega);have q1:=e1.cell
  have q2:=e2.cell;have q3:=e3.cell;refine⟨by simp,.inl ⟨_,_,rfl,run_takeDeferred hK,?_⟩⟩;refine⟨.tuple #[.slice none 0 0,.int .i64 (i:Int),.int .i64 er],?_,.inl ⟨i,er,hRe,rfl,Zu.grown (grownBy_putObj' W D (.deferred none)) Zu.size (fun k e=>by injection e with e;omega)⟩⟩;simp[results,Tryz.results43,go_sem,q1,q2,q3]
theorem z1f{W:World}{base n rb:Nat}{v:Value}{ts:List Tk}(h:W.ownsRow base 100 5 v n (tks ts))(hn:ts.length=n):∃a cap,v=.slice a ts.length cap∧ts.length≤cap∧cap≤maxLen∧(∀W':World,W.heap.size≤rb→W.heap.size≤W'.heap.size→(∀g,base≤g→g<W.heap.size→W'.heap[g]?=W.heap[g]?)→TksAt W' rb a ts):=by
 rcases h.2 with⟨rfl,h0⟩ |⟨g,cap,cur,rfl,hg,hc,YW,hm,X5,ht⟩
 ·subst h0
  have:ts=[]:=List.length_eq_zero_iff.1 hn;subst this;exact⟨none,0,rfl,Nat.le_refl _,by decide,fun _ _ _ _=>.inl rfl⟩
 ·subst hn
  have XL:g<W.heap.size:=(Z8 hc);refine⟨_,cap,rfl,YW,hm,fun W' Zi hz hk=>.inr ⟨g,0,rfl,by omega,by omega,fun i hi j hj => ?_⟩⟩;have h1:(cur.toList.take (ts.length*5))[i*5+j]?=(tks ts)[i*5+j]?:=by rw[ht]
  have Z7:i*5+j<ts.length*5:=by
   have:(i+1)*5≤ts.length*5:=Nat.mul_le_mul_right 5 hi;omega
  rw[List.getElem?_take_of_lt Z7]at h1
  have h2:∀(l:List Tk)(i:Nat)(hi:i<l.length)(j:Nat),j<5→(tks l)[i*5+j]?=(tkC l[i])[j]?:=by
   intro l
   induction l with
   |nil=>intro i hi;exact absurd hi (Nat.not_lt_zero _)
   |cons t l ih =>
    intro i hi j hj;have e:tks (t :: l)=zg3 t ++ tks l:=by simp[tks]
    rw[e]
    match i,hi with
    |0,_=>rw[Nat.zero_mul,Nat.zero_add,List.getElem?_append_left (by rw[zfr];exact hj)];rfl
    |i+1,hi=>rw[List.getElem?_append_right (by rw[zfr];omega),zfr,show(i+1)*5+j-5=i*5+j by omega];exact ih i (by simpa using hi) j hj
  rw[Nat.zero_add]
  show(match W'.heap[g]? with |some (.cells c _ _)=>c[i*5+j]? |_=>none)=_
  rw[hk g hg XL,hc,←h2 ts i hi j hj,←h1];simp
theorem zpk{l:List UInt8}{ts:List Tk}(h:lexL 0 l=.yes ts):ts.length≤l.length:=by
 have key:∀(n off:Nat)(l:List UInt8),l.length≤n→∀{ts:List Tk},lexL off l=.yes ts→ts.length≤l.length:=by
  intro n
  induction n with
  |zero =>
   intro off l hl ts h;have:l=[]:=List.length_eq_zero_iff.1 (by omega);subst this;rw[zc8 (by rfl)]at h
   injection h with h;subst h;exact Nat.le_refl _
  |succ n ih =>
   intro off l hl ts h
   by_cases hs:skS false l<l.length
   ·cases ho:oneL (l.drop (skS false l))with
    |no e=>rw[zhi hs ho]at h;cases h
    |yes t k =>
     have hk:=zey ho;have YW:=zpd ho;rw[zf6 hs ho]at h
     cases hr:lexL (off+skS false l+k) (l.drop (skS false l+k))with
     |no i e=>rw[hr]at h;cases h
     |yes us =>
      rw[hr]at h;have:=ih _ _ (by rw[List.length_drop]at YW ⊢;omega) hr
      injection h with h
      rw[←h,List.length_cons];rw[List.length_drop]at this YW;omega
   ·have:=ziz false l
    rw[zc8 (by omega)]at h
    injection h with h;subst h;exact Nat.zero_le _
 exact key _ 0 l (Nat.le_refl _) h
def zxu(w:World)(e:Ending)(w':World):Prop:=e=.returned (.tuple #[.slice none 0 0,.int .i64 0,.int .i64 4])∧Below w.heap.size w w'
theorem zzl(s:ByteArray)(w:World)(hs:20000<s.size)(YP:s.size≤1000000):Calls Tryz.prog 43 #[.string s] w (zxu w):=by
 have hgt:decide ((20000:Int)<(s.size:Int))=true:=by simp;omega
 refine(callsIn_wide (n:=6)).1 ?_;refine callsIn_of_wp_marks Tryz.func43 rfl trivial ?_ rfl;simp only[Tryz.ntmps43,List.size_toArray,List.length_cons,List.length_nil,Nat.reduceAdd,Nat.reduceSub,Array.replicate_succ,Array.replicate_zero,List.push_toArray,List.append_toArray,List.nil_append,List.cons_append];gi_wp2;refine⟨.tuple #[.slice none 0 0,.int .i64 0,.int .i64 4],?_,rfl,((((Below.refl _ _).alloc (Nat.le_refl _) _).alloc (by simp) _).alloc (by simp;omega) _).alloc (by simp;omega) _⟩;simp[results,Tryz.results43,go_sem]
def RdFP{α:Type}(rb cb:Nat)(O:Obj)(CB:Nat→α→World→Prop)(r:Rd α)(W:World)(e:Ending)(W':World):Prop :=
 match r with
 | .ok x l'=>e=.returned (.tuple #[])∧CB W.heap.size x W'∧RAt rb W' l'∧Kp2 rb cb W W'
 | .no l'=>e=zl9∧RAt rb W' l'∧Kp2 rb cb W W'∧W'.heap[cb]?=some O
def RdF{α:Type}(F cb:Nat)(O:Obj)(CB:Nat→α→World→Prop)(f:List Tk→Rd α):Prop :=
 ∀(rb:Nat)(W:World)(l:List Tk),RAt rb W l→cb<rb→W.heap[cb]?=some O→l.length≤20000→Calls Tryz.prog F #[.pointer (some ⟨rb,0,none⟩),.pointer (some ⟨cb,0,none⟩)] W (RdFP rb cb O CB (f l) W)
def WhP{α:Type}(w:World)(cb:Nat)(O:Obj)(CB:Nat→α→World→Prop)(f:List Tk→Rd α)(len:Nat)(R:LexR)(e:Ending)(w':World):Prop :=
 match R with
 | .no i er=>e=.returned (.tuple #[.int .i64 (i:Int),.int .i64 er])∧Kp2 cb cb w w'∧w'.heap[cb]?=some O
 | .yes ts=>match f ts with
  | .ok x l=>∃lo,e=.returned (.tuple #[.int .i64 (zff l (len:Int) 0).1,.int .i64 (zff l (len:Int) 0).2])∧w.heap.size≤lo∧CB lo x w'∧Kp2 cb cb w w'
  | .no l=>e=.returned (.tuple #[.int .i64 (zff l (len:Int) 12).1,.int .i64 (zff l (len:Int) 12).2])∧Kp2 cb cb w w'∧w'.heap[cb]?=some O
theorem Kp2.new{a b c:Nat}{w W:World}(h:Kp2 a b w W)(hc:w.heap.size≤c)(v:Value):Kp2 a b w (W.setCell ⟨c,0,none⟩ v) :=
 ⟨h.1,h.2.1,h.2.2.1,by simpa[World.setCell]using h.2.2.2.1,fun k hk h1 h2=>(Below.heap_setCell _ _ _ _ (by show k≠c;omega)).trans (h.2.2.2.2 k hk h1 h2)⟩
theorem Kp2.drew{a b:Nat}{w W:World}(h:Kp2 a b w W):Kp2 a b w W.drew:=h
theorem Kp2.more{a b:Nat}{w W W':World}(h:Kp2 a b w W)(hb:W.grownBy W' none):Kp2 a b w W' :=
 ⟨hb.os.trans h.1,hb.tape.trans h.2.1,hb.output.trans h.2.2.1,Nat.le_trans h.2.2.2.1 hb.size,fun k hk h1 h2=>(hb.block k (Nat.lt_of_lt_of_le hk h.2.2.2.1) (by simp)).trans (h.2.2.2.2 k hk h1 h2)⟩
theorem zf8{c b:Nat}{W:World}{O:Obj}(h:W.heap[c]?=some O)(ZT:c≠b)(v:Value):(W.setCell ⟨b,0,none⟩ v).heap[c]?=some O:=(Below.heap_setCell _ _ _ _ (by show c≠b;exact ZT)).trans h
theorem z2f{rb b c:Nat}{w:World}{l:List Tk}{v x v' x':Int}(h:RAt rb w l)(hb:Boxed w b 3 (.int .i64 v))(hc:Boxed w c 28 (.int .i64 x))(hr:rb≠b)(hrc:rb≠c):RAt rb ((w.setCell ⟨b,0,none⟩ (.int .i64 v')).setCell ⟨c,0,none⟩ (.int .i64 x')) l:=by
 obtain⟨a,cap,hx,h1,h2,ht⟩:=h;refine⟨a,cap,(hx.other hr _).other hrc _,h1,h2,?_⟩
 rcases ht with ht |⟨g,o,ha,Z7,hg,Z1⟩
 ·exact .inl ht
 ·by_cases hl:l=[]
  ·exact .inl hl
  ·have h0:0<l.length:=List.length_pos_iff.2 hl
   have hc0:=Z1 0 h0 0 (by omega);rw[Nat.zero_mul,Nat.add_zero]at hc0;have ng:g≠b:=zkw hb hc0;have nc:g≠c:=zkw hc hc0
   have hk:((w.setCell ⟨b,0,none⟩ (.int .i64 v')).setCell ⟨c,0,none⟩ (.int .i64 x')).heap[g]?=w.heap[g]?:=by
    rw[Below.heap_setCell _ _ _ _ (by show g≠c;exact nc),Below.heap_setCell _ _ _ _ (by show g≠b;exact ng)]
   exact .inr ⟨g,o,ha,Z7,by simpa[World.setCell]using hg,fun i hi j hj=>(World.cell?_of_block (w:=w) (w':=(w.setCell ⟨b,0,none⟩ (.int .i64 v')).setCell ⟨c,0,none⟩ (.int .i64 x')) (a:=⟨g,o+i*5+j,none⟩) hk).trans (Z1 i hi j hj)⟩
theorem z6z{α:Type}{w w':World}{cb:Nat}{O:Obj}{CB:Nat→α→World→Prop}{f:List Tk→Rd α}{len:Nat}{ts l:List Tk}{x:α}{e:Ending}(hq:f ts=.ok x l)(h:∃lo,e=.returned (.tuple #[.int .i64 (zff l (len:Int) 0).1,.int .i64 (zff l (len:Int) 0).2])∧w.heap.size≤lo∧CB lo x w'∧Kp2 cb cb w w'):WhP w cb O CB f len (.yes ts) e w':=by
 show(match f ts with | .ok x l=>_ | .no l=>_)
 rw[hq];exact h
theorem z60{α:Type}{w w':World}{cb:Nat}{O:Obj}{CB:Nat→α→World→Prop}{f:List Tk→Rd α}{len:Nat}{ts l:List Tk}{e:Ending}(hq:f ts=.no l)(h:e=.returned (.tuple #[.int .i64 (zff l (len:Int) 12).1,.int .i64 (zff l (len:Int) 12).2])∧Kp2 cb cb w w'∧w'.heap[cb]?=some O):WhP w cb O CB f len (.yes ts) e w':=by
 show(match f ts with | .ok x l=>_ | .no l=>_)
 rw[hq];exact h
theorem zpl{l:List UInt8}{i:Nat}{e:Int}(h:lexL 0 l=.no i e):e≠0:=by
 obtain⟨p,ts,_,_,ho⟩:=ztc l.length 0 l (Nat.le_refl _) h;exact zli ho
theorem zmb{α:Type}(F cb:Nat)(O:Obj)(CB:Nat→α→World→Prop)(f:List Tk→Rd α)(hF:RdF F cb O CB f)(TW:∀(args:Array Value) (W:World),(callFunc F args).run Tryz.prog W=.ok (.enter F args) W)
 (Zr:∀lo x W W',CB lo x W→W.heap.size≤W'.heap.size→(∀g,(lo≤g∨g=cb)→g<W.heap.size→W'.heap[g]?=W.heap[g]?)→CB lo x W') (s:ByteArray) (w:World) (R:LexR) (hlx:∀W,Calls Tryz.prog 43 #[.string s] W (zl8 W s.size R)) (Xl:∀i er,R=.no i er→er≠0) (Xu:∀ts,R=.yes ts→ts.length≤20000) (Yk:w.heap[cb]?=some O) :
 Calls Tryz.prog 60 #[.string s,.func (.func F) #[] #[.pointer (some ⟨cb,0,none⟩)]] w (WhP w cb O CB f s.size R):=by
 have hmf:∀(fn:Fn)(first cap:Array Value)(w:World),(Instr.makeFunc fn first cap).run Tryz.prog w=.ok (.func fn first cap) w:=fun _ _ _ _=>rfl
 have Zv:=(Z8 Yk);have HLX:=Z9 hlx;have HNO:=Z9 Xl;have HYS:=Z9 Xu;have HF:=Z9 hF;have ZA:=Z9 Zr;have HCB:=Z9 Yk;clear hF Zr hlx Xl Xu Yk;go_enter_defers Tryz.func60,Tryz.ntmps60;go_wp2_with fail;obtain⟨W3,V7⟩:∃W3,W3=((w.alloc (.cells #[.string s] 9)).alloc (.cells #[.int .i64 0] 3)).alloc (.cells #[.int .i64 0] 28):=⟨_,rfl⟩
 have ZL:Boxed W3 w.heap.size 9 (.string s):=by rw[V7];exact((Boxed.new w _ _).alloc _).alloc _
 have ZS:Boxed W3 (w.heap.size+1) 3 (.int .i64 0):=by
  rw[V7];have:=(Boxed.new (w.alloc (.cells #[.string s] 9)) 3 (.int .i64 0)).alloc (.cells #[.int .i64 0] 28)
  rwa [World.size_alloc]at this
 have Z0:Boxed W3 (w.heap.size+1+1) 28 (.int .i64 0):=by
  rw[V7];have:=Boxed.new ((w.alloc (.cells #[.string s] 9)).alloc (.cells #[.int .i64 0] 3)) 28 (.int .i64 0)
  rwa [World.size_alloc,World.size_alloc]at this
 have V1:Kp2 cb cb w W3:=by rw[V7];exact(((Kp2.refl cb cb w).alloc _).alloc _).alloc _
 have hc3:W3.heap[cb]?=some O:=by rw[V7,Below.heap_alloc _ _ _ (by simp;omega),Below.heap_alloc _ _ _ (by simp;omega),Below.heap_alloc _ _ _ Zv];exact HCB.out
 have hz3:W3.heap.size=w.heap.size+1+1+1:=by rw[V7];simp
 rw[←V7];have HB1:=Z9 ZL;have HB2:=Z9 ZS;have HB3:=Z9 Z0;have HK3:=Z9 V1;have HC3:=Z9 hc3;have HZ3:=Z9 hz3;clear ZL ZS Z0 V1 hc3 V7 hz3;refine(HLX.out W3).mono ?_;rintro e u (⟨i,er,rfl,rfl,hb⟩ |⟨ts,v,rfl,rfl,ZG,hb⟩)
 ·have ZT:=HNO.out i er rfl
  have hg:=zah hb;have t2:=HB2.out.kept hg (by simp);have t3:=HB3.out.kept hg (by simp);have p2:=t2.cell;have q2:=t2.frozen;have p3:=t3.cell;have q3:=t3.frozen;have l2:=t2.lt;have l3:=t3.lt;have Yc:(er != 0)=true:=by simp[ZT]
  have HV:Hid (Boxed ((u.setCell ⟨w.heap.size+1,0,none⟩ (.int .i64 (i:Int))).setCell ⟨w.heap.size+1+1,0,none⟩ (.int .i64 er)) (w.heap.size+1) 3 (.int .i64 (i:Int))∧Boxed ((u.setCell ⟨w.heap.size+1,0,none⟩ (.int .i64 (i:Int))).setCell ⟨w.heap.size+1+1,0,none⟩ (.int .i64 er)) (w.heap.size+1+1) 28 (.int .i64 er) ∧
   Kp2 cb cb w ((u.setCell ⟨w.heap.size+1,0,none⟩ (.int .i64 (i:Int))).setCell ⟨w.heap.size+1+1,0,none⟩ (.int .i64 er))∧((u.setCell ⟨w.heap.size+1,0,none⟩ (.int .i64 (i:Int))).setCell ⟨w.heap.size+1+1,0,none⟩ (.int .i64 er)).heap[cb]?=some O) :=
   Z9 ⟨(t2.set _).other (by omega) _,(t3.other (by omega) _).set _,((HK3.out.more hg).new (by omega) _).new (by omega) _,zf8 (zf8 ((hg.block cb (Z8 HC3.out) (by simp)).trans HC3.out) (by omega) _) (by omega) _⟩
  clear hb hg t2 t3;go_wp2_with fail;obtain⟨V,hV⟩:∃V,V=(u.setCell ⟨w.heap.size+1,0,none⟩ (.int .i64 (i:Int))).setCell ⟨w.heap.size+1+1,0,none⟩ (.int .i64 er):=⟨_,rfl⟩
  rw[←hV]at HV ⊢;obtain⟨v2,v3,vk,vc⟩:=HV.out;have x2:=v2.cell;have y2:=v2.frozen;have x3:=v3.cell;have y3:=v3.frozen;have z2:=v2.lt;have z3:=v3.lt;have HVV:=Z9 (And.intro v2 (And.intro v3 (And.intro vk vc)));clear v2 v3 vk vc HV hV p2 q2 p3 q3 l2 l3;go_region
  all_goals
   go_wp2_with fail;obtain⟨w2,w3,wk,wc⟩:=HVV.out;refine⟨.tuple #[.int .i64 (i:Int),.int .i64 er],?_,rfl,?_,?_⟩
   ·have r2:=(w2.set (.int .i64 (i:Int))).cell
    have r3:=((w3.other (B':=w.heap.size+1) (by omega) (.int .i64 (i:Int))).set (.int .i64 er)).cell;simp only[results,Tryz.results60];simp[go_sem,r2,r3]
   ·first
     |exact((wk.new (by omega) _).new (by omega) _).drew
     |exact(wk.drew.new (by omega) _).new (by omega) _
   ·first
     |exact zf8 (zf8 wc (by omega) _) (by omega) _
     |exact zf8 (zf8 (W:=V.drew) wc (by omega) _) (by omega) _
 ·have hl20:=HYS.out ts rfl
  obtain⟨ta,tc,rfl,UI,WE,Vb⟩:=z1f (rb:=u.heap.size) ZG rfl;have hg:=zah hb;have t1:=HB1.out.kept hg (by simp);have t2:=HB2.out.kept hg (by simp);have t3:=HB3.out.kept hg (by simp);have p1:=t1.cell;have p2:=t2.cell;have q2:=t2.frozen;have p3:=t3.cell;have q3:=t3.frozen;have l1:=t1.lt;have l2:=t2.lt;have l3:=t3.lt;have hz3:=HZ3.out;have hgz:=hg.size;obtain⟨W4,WJ⟩:∃W4,W4=(u.setCell ⟨w.heap.size+1,0,none⟩ (.int .i64 (s.size:Int))).setCell ⟨w.heap.size+1+1,0,none⟩ (.int .i64 0):=⟨_,rfl⟩
  obtain⟨W5,Xf⟩:∃W5,W5=(W4.alloc (.cells #[.slice ta ts.length tc] 134)).alloc (.cells #[.pointer (some ⟨u.heap.size,0,none⟩)] 91):=⟨_,rfl⟩
  have s4:W4.heap.size=u.heap.size:=by rw[WJ];simp[World.setCell]
  have s5:W5.heap.size=u.heap.size+1+1:=by rw[Xf];simp[s4]
  have k4:∀g,g≠w.heap.size+1→g≠w.heap.size+1+1→W4.heap[g]?=u.heap[g]?:=fun g h1 h2=>by
   rw[WJ,Below.heap_setCell _ _ _ _ (by show g≠w.heap.size+1+1;exact h2),Below.heap_setCell _ _ _ _ (by show g≠w.heap.size+1;exact h1)]
  have k5:∀g,g<u.heap.size→W5.heap[g]?=W4.heap[g]?:=fun g h1=>by
   rw[Xf,Below.heap_alloc _ _ _ (by simp[s4];omega),Below.heap_alloc _ _ _ (by rw[s4];exact h1)]
  have b5r:Boxed W5 u.heap.size 134 (.slice ta ts.length tc):=by
   have:=(Boxed.new W4 134 (.slice ta ts.length tc)).alloc (.cells #[.pointer (some ⟨u.heap.size,0,none⟩)] 91);rw[s4,←Xf]at this;exact this
  have b5p:Boxed W5 (u.heap.size+1) 91 (.pointer (some ⟨u.heap.size,0,none⟩)):=by
   have:=Boxed.new (W4.alloc (.cells #[.slice ta ts.length tc] 134)) 91 (.pointer (some ⟨u.heap.size,0,none⟩));rw[World.size_alloc,s4,←Xf]at this;exact this
  have b5t:Boxed W5 w.heap.size 9 (.string s):=(k5 _ l1).trans ((k4 _ (by omega) (by omega)).trans t1);have b4a:Boxed W4 (w.heap.size+1) 3 (.int .i64 (s.size:Int)):=by rw[WJ];exact(t2.set _).other (by omega) _
  have b4e:Boxed W4 (w.heap.size+1+1) 28 (.int .i64 0):=by rw[WJ];exact(t3.other (by omega) _).set _
  have b5a:Boxed W5 (w.heap.size+1) 3 (.int .i64 (s.size:Int)):=(k5 _ l2).trans b4a;have b5e:Boxed W5 (w.heap.size+1+1) 28 (.int .i64 0):=(k5 _ l3).trans b4e;have c5:W5.heap[cb]?=some O:=(k5 _ (by omega)).trans ((k4 _ (by omega) (by omega)).trans ((hg.block cb (by omega) (by simp)).trans HC3.out));have r5:RAt u.heap.size W5 ts:=⟨ta,tc,b5r,UI,WE,Vb W5 (Nat.le_refl _) (by omega) (fun g h1 h2=>(k5 g h2).trans (k4 g (by omega) (by omega)))⟩
  have o5:Kp2 cb cb w W5:=by
   rw[Xf,WJ];exact((((HK3.out.more hg).new (by omega) _).new (by omega) _).alloc _).alloc _
  have HCALL:=Z9 (HF.out u.heap.size W5 ts r5 (by omega) c5 hl20);have HBX:=Z9 (And.intro b5t (And.intro b5a (And.intro b5e b5p)));have HO5:=Z9 o5;have HS5:=Z9 s5;have HUZ:Hid (w.heap.size+1+1+1≤u.heap.size):=Z9 (by omega);clear hl20 ZG Vb UI WE b5r b5p b5t b4a b4e b5a b5e c5 r5 o5 k4 k5 hb hg t1 t2 t3 s4 s5;go_wp2_with fail;rw[←WJ,←Xf];clear WJ Xf p1 p2 q2 p3 q3 l1 l2 l3;refine HCALL.out.mono ?_
  cases hq:f ts with
  |ok x l' =>
   rintro e u6 ⟨rfl,TU,Vv,UZ⟩
   have keep:∀g,g<u.heap.size+1+1→g≠u.heap.size→g≠cb→u6.heap[g]?=W5.heap[g]?:=fun g h1 h2 h3=>UZ.2.2.2.2 g (by rw[HS5.out];exact h1) h2 h3
   have huz:=HUZ.out;have b6t:Boxed u6 w.heap.size 9 (.string s):=(keep _ (by omega) (by omega) (by omega)).trans HBX.out.1;have b6a:Boxed u6 (w.heap.size+1) 3 (.int .i64 (s.size:Int)):=(keep _ (by omega) (by omega) (by omega)).trans HBX.out.2.1;have b6e:Boxed u6 (w.heap.size+1+1) 28 (.int .i64 0):=(keep _ (by omega) (by omega) (by omega)).trans HBX.out.2.2.1;have b6p:Boxed u6 (u.heap.size+1) 91 (.pointer (some ⟨u.heap.size,0,none⟩)):=(keep _ (by omega) (by omega) (by omega)).trans HBX.out.2.2.2;have p1:=b6t.cell;have p2:=b6a.cell;have q2:=b6a.frozen;have p3:=b6e.cell;have q3:=b6e.frozen;have l1:=b6t.lt
   have l2:=b6a.lt;have l3:=b6e.lt
   have YR:Hid (ClAt u.heap.size w.heap.size (w.heap.size+1) (w.heap.size+1+1) (u.heap.size+1) s (s.size:Int) 0 ((u6.setCell ⟨w.heap.size+1,0,none⟩ (.int .i64 (s.size:Int))).setCell ⟨w.heap.size+1+1,0,none⟩ (.int .i64 0)) l') :=
    Z9 ⟨(z2f Vv b6a b6e (by omega) (by omega)),(b6t.other (by omega) _).other (by omega) _,(b6a.set _).other (by omega) _,(b6e.other (by omega) _).set _,(b6p.other (by omega) _).other (by omega) _,by omega,by omega,by omega⟩
   have HC6:=Z9 TU;have HK6:=Z9 UZ;clear TU Vv UZ keep b6t b6a b6e b6p;go_wp2_with fail;refine leaves_cons (f:=109) (args:=#[.pointer (some ⟨w.heap.size,0,none⟩),.pointer (some ⟨w.heap.size+1,0,none⟩),.pointer (some ⟨w.heap.size+1+1,0,none⟩),.pointer (some ⟨u.heap.size+1,0,none⟩)]) (by simp) (by simp[go_sem]) ?_;refine(zxe YR.out).mono ?_;rintro e u7 w7 ⟨rfl,rfl,h1,h2,h3⟩;have e1:=h1.cell;have e2:=h2.cell
   have k7:∀g,g<u6.heap.size→g≠w.heap.size+1→g≠w.heap.size+1+1→w7.heap[g]?=u6.heap[g]?:=fun g g1 g2 g3=>by
    rw[h3.2.2.2.2 g (by simpa[World.setCell]using g1) g2 g3,Below.heap_setCell _ _ _ _ (by show g≠w.heap.size+1+1;exact g3),Below.heap_setCell _ _ _ _ (by show g≠w.heap.size+1;exact g2)]
   have z7:u6.heap.size≤w7.heap.size:=by have:=h3.2.2.2.1;simpa[World.setCell]using this
   have huz:=HUZ.out;have hs5:=HS5.out;have z6:=HK6.out.2.2.2.1;refine⟨.tuple #[.int .i64 (zff l' (s.size:Int) 0).1,.int .i64 (zff l' (s.size:Int) 0).2],?_,z6z hq ⟨W5.heap.size,rfl,by omega,ZA.out _ _ _ _ HC6.out z7 (fun g g1 g2=>k7 g g2 (by omega) (by omega)),?_⟩⟩
   ·simp only[results,Tryz.results60]
    simp[go_sem,e1,e2]
   ·refine⟨h3.1.trans (HK6.out.1.trans HO5.out.1),h3.2.1.trans (HK6.out.2.1.trans HO5.out.2.1),h3.2.2.1.trans (HK6.out.2.2.1.trans HO5.out.2.2.1),by have:=HO5.out.2.2.2.1;omega,fun k hk n1 _ => ?_⟩
    rw[k7 k (by omega) (by omega) (by omega),HK6.out.2.2.2.2 k (by omega) (by omega) n1];exact HO5.out.2.2.2.2 k hk n1 n1
  |no l' =>
   rintro e u6 ⟨rfl,Vv,UZ,TS⟩
   have keep:∀g,g<u.heap.size+1+1→g≠u.heap.size→g≠cb→u6.heap[g]?=W5.heap[g]?:=fun g h1 h2 h3=>UZ.2.2.2.2 g (by rw[HS5.out];exact h1) h2 h3
   have huz:=HUZ.out;have b6t:Boxed u6 w.heap.size 9 (.string s):=(keep _ (by omega) (by omega) (by omega)).trans HBX.out.1;have b6a:Boxed u6 (w.heap.size+1) 3 (.int .i64 (s.size:Int)):=(keep _ (by omega) (by omega) (by omega)).trans HBX.out.2.1;have b6e:Boxed u6 (w.heap.size+1+1) 28 (.int .i64 0):=(keep _ (by omega) (by omega) (by omega)).trans HBX.out.2.2.1;have b6p:Boxed u6 (u.heap.size+1) 91 (.pointer (some ⟨u.heap.size,0,none⟩)):=(keep _ (by omega) (by omega) (by omega)).trans HBX.out.2.2.2;have YR:Hid (ClAt u.heap.size w.heap.size (w.heap.size+1) (w.heap.size+1+1) (u.heap.size+1) s (s.size:Int) 0 u6 l'):=Z9 ⟨Vv,b6t,b6a,b6e,b6p,by omega,by omega,by omega⟩
   have HC6:=Z9 TS;have HK6:=Z9 UZ;clear Vv UZ TS keep b6t b6a b6e b6p;refine leaves_cons (f:=109) (args:=#[.pointer (some ⟨w.heap.size,0,none⟩),.pointer (some ⟨w.heap.size+1,0,none⟩),.pointer (some ⟨w.heap.size+1+1,0,none⟩),.pointer (some ⟨u.heap.size+1,0,none⟩)]) (by simp) (by simp[go_sem]) ?_;refine(zxf [] YR.out).mono ?_;rintro e u7 w7 ⟨rfl,rfl,h1,h2,h3⟩;have e1:=h1.cell;have e2:=h2.cell
   have k7:∀g,g<u6.heap.size→g≠w.heap.size+1→g≠w.heap.size+1+1→w7.heap[g]?=u6.heap[g]?:=fun g g1 g2 g3=>h3.2.2.2.2 g g1 g2 g3
   have z7:u6.heap.size≤w7.heap.size:=h3.2.2.2.1;have hs5:=HS5.out;have z6:=HK6.out.2.2.2.1;refine⟨.tuple #[.int .i64 (zff l' (s.size:Int) 12).1,.int .i64 (zff l' (s.size:Int) 12).2],?_,z60 hq ⟨rfl,?_,?_⟩⟩
   ·simp only[results,Tryz.results60]
    simp[go_sem,e1,e2]
   ·refine⟨h3.1.trans (HK6.out.1.trans HO5.out.1),h3.2.1.trans (HK6.out.2.1.trans HO5.out.2.1),h3.2.2.1.trans (HK6.out.2.2.1.trans HO5.out.2.2.1),by have:=HO5.out.2.2.2.1;omega,fun k hk n1 _ => ?_⟩
    rw[k7 k (by omega) (by omega) (by omega),HK6.out.2.2.2.2 k (by omega) (by omega) n1];exact HO5.out.2.2.2.2 k hk n1 n1
   ·rw[k7 cb (by omega) (by omega) (by omega)];exact HC6.out
theorem zt2{α:Type}(F cb:Nat)(O:Obj)(CB:Nat→α→World→Prop)(f:List Tk→Rd α)(hF:RdF F cb O CB f)(TW:∀(args:Array Value) (W:World),(callFunc F args).run Tryz.prog W=.ok (.enter F args) W)
 (Zr:∀lo x W W',CB lo x W→W.heap.size≤W'.heap.size→(∀g,(lo≤g∨g=cb)→g<W.heap.size→W'.heap[g]?=W.heap[g]?)→CB lo x W') (s:ByteArray) (w:World) (hs:s.size≤20000) (Yk:w.heap[cb]?=some O) :
 Calls Tryz.prog 60 #[.string s,.func (.func F) #[] #[.pointer (some ⟨cb,0,none⟩)]] w (WhP w cb O CB f s.size (lexL 0 s.data.toList)) :=
 zmb F cb O CB f hF TW Zr s w _ (fun W=>z4a s W hs) (fun _ _ h=>zpl h) (fun ts h=>by
  have:=zpk h;rw[zab]at this
  omega) Yk
theorem zrw{α:Type}(F cb:Nat)(O:Obj)(CB:Nat→α→World→Prop)(f:List Tk→Rd α)(hF:RdF F cb O CB f)(TW:∀(args:Array Value) (W:World),(callFunc F args).run Tryz.prog W=.ok (.enter F args) W)
 (Zr:∀lo x W W',CB lo x W→W.heap.size≤W'.heap.size→(∀g,(lo≤g∨g=cb)→g<W.heap.size→W'.heap[g]?=W.heap[g]?)→CB lo x W') (s:ByteArray) (w:World) (hs:20000<s.size) (YP:s.size≤1000000) (Yk:w.heap[cb]?=some O) :
 Calls Tryz.prog 60 #[.string s,.func (.func F) #[] #[.pointer (some ⟨cb,0,none⟩)]] w (WhP w cb O CB f s.size (.no 0 4)) :=
 zmb F cb O CB f hF TW Zr s w _ (fun W=>(zzl s W hs YP).mono (by rintro e w' ⟨rfl,hb⟩;exact .inl ⟨0,4,rfl,rfl,hb⟩)) (fun i er h=>by injection h with _ h;rw[←h];decide) (fun ts h=>by cases h) Yk
theorem z1g{W:World}{cb g o:Nat}{t:Tk}(hO:W.heap[cb]?=some (.cells #[.int .u8 0,.string ⟨#[]⟩,.string ⟨#[]⟩,.int .i64 0,.slice none 0 0] 25))(h:∀j,j<5→W.cell? ⟨g,o+j,none⟩=(tkC t)[j]?):g≠cb:=fun e=>by
 subst e
 have hc:∀i,W.cell? ⟨g,i,none⟩=(#[.int .u8 0,.string ⟨#[]⟩,.string ⟨#[]⟩,.int .i64 0,.slice none 0 0]:Array Value)[i]?:=fun i=>by simp[World.cell?,hO]
 have h0:(#[.int .u8 0,.string ⟨#[]⟩,.string ⟨#[]⟩,.int .i64 0,.slice none 0 0]:Array Value)[o]?=some (.int .u8 t.kind):=(hc o).symm.trans (h 0 (by omega));have h4:(#[.int .u8 0,.string ⟨#[]⟩,.string ⟨#[]⟩,.int .i64 0,.slice none 0 0]:Array Value)[o+4]?=some (.int .i64 t.place):=(hc (o+4)).symm.trans (h 4 (by omega))
 match o,h0,h4 with
 |0,_,h4=>simp at h4
 |1,h0,_=>simp at h0
 |2,h0,_=>simp at h0
 |3,h0,_=>simp at h0
 |4,h0,_=>simp at h0
 |o+5,h0,_=>simp at h0
theorem RAt.move{rb cb:Nat}{W W':World}{l:List Tk}(h:RAt rb W l)(ZT:rb≠cb)(hk:∀g,g≠cb→W'.heap[g]?=W.heap[g]?)(hz:W.heap.size≤W'.heap.size)(ht:∀g o t,(∀j,j<5→W.cell? ⟨g,o+j,none⟩=(tkC t)[j]?)→g≠cb):RAt rb W' l:=by
 obtain⟨a,cap,hx,h1,h2,Vb⟩:=h;refine⟨a,cap,(hk rb ZT).trans hx,h1,h2,?_⟩
 rcases Vb with hn |⟨g,o,ha,Z7,hg,Z1⟩
 ·exact .inl hn
 ·by_cases hl:l=[]
  ·exact .inl hl
  ·have h0:0<l.length:=List.length_pos_iff.2 hl
   have ng:g≠cb:=ht g o l[0] (fun j hj=>by have:=Z1 0 h0 j hj;rwa [Nat.zero_mul,Nat.add_zero]at this);exact .inr ⟨g,o,ha,Z7,Nat.lt_of_lt_of_le hg hz,fun i hi j hj=>(World.cell?_of_block (w:=W) (w':=W') (a:=⟨g,o+i*5+j,none⟩) (hk g ng)).trans (Z1 i hi j hj)⟩
theorem z6h{α:Type}{rb cb:Nat}{O:Obj}{CB:Nat→α→World→Prop}{r:Rd α}{x:α}{l:List Tk}{W W':World}{e:Ending}(E:r=.ok x l)(h:e=.returned (.tuple #[])∧CB W.heap.size x W'∧RAt rb W' l∧Kp2 rb cb W W'):RdFP rb cb O CB r W e W':=by rw[E];exact h
theorem z6i{α:Type}{rb cb:Nat}{O:Obj}{CB:Nat→α→World→Prop}{r:Rd α}{l:List Tk}{W W':World}{e:Ending}(E:r=.no l)(h:e=zl9∧RAt rb W' l∧Kp2 rb cb W W'∧W'.heap[cb]?=some O):RdFP rb cb O CB r W e W':=by rw[E];exact h
def CBx(cb:Nat)(lo:Nat)(x:Ex)(W:World):Prop:=∃n a len cap,W.heap[cb]?=some (.cells #[.int .u8 x.kind,.string x.rat,.string x.name,.int .i64 x.date,.slice a len cap] 25)∧ExOn (fun g=>lo≤g∧g<W.heap.size) n W [.int .u8 x.kind,.string x.rat,.string x.name,.int .i64 x.date,.slice a len cap] x
theorem CBx.stab(cb:Nat):∀lo x W W',CBx cb lo x W→W.heap.size≤W'.heap.size→(∀g,(lo≤g∨g=cb)→g<W.heap.size→W'.heap[g]?=W.heap[g]?)→CBx cb lo x W':=by
 rintro lo x W W' ⟨n,a,len,cap,hb,hx⟩ hz hk;exact⟨n,a,len,cap,(hk cb (.inr rfl) (Z8 hb)).trans hb,(hx.keep (w':=W') fun g ⟨g1,g2⟩=>hk g (.inl g1) g2).mono fun g ⟨g1,g2⟩=>⟨g1,by omega⟩⟩
theorem zrd{rb cb:Nat}{W u V:World}(hg:W.grownBy u (some rb))(h1:V.os=u.os)(h2:V.tape=u.tape)(h3:V.output=u.output)(hz:u.heap.size=V.heap.size)(hk:∀g,g≠cb→V.heap[g]?=u.heap[g]?):Kp2 rb cb W V :=
 ⟨h1.trans hg.os,h2.trans hg.tape,h3.trans hg.output,by have:=hg.size;omega,fun k h n1 n2=>(hk k n2).trans (hg.block k h (fun e=>n1 (by injection e)))⟩
theorem zdj(w:World)(a:Addr)(v:Value):(w.setCell a v).os=w.os∧(w.setCell a v).tape=w.tape∧(w.setCell a v).output=w.output:=⟨rfl,rfl,rfl⟩
theorem z1o(cb:Nat):RdF 61 cb (.cells #[.int .u8 0,.string ⟨#[]⟩,.string ⟨#[]⟩,.int .i64 0,.slice none 0 0] 25) (CBx cb) (zde 20001):=by
 intro rb W l h Z7 hO hl;have HP:=Z9 (zq3 rb 20001);have HHD:=Z9 (fun W (hW:RAt rb W l)=>zbs rb W l hW);have HR:=Z9 h;have HO:=Z9 hO;have HLT:=Z9 Z7;have HL:=Z9 hl;obtain⟨GR,ZK⟩:∃GR,GR=zde 20001 l:=⟨_,rfl⟩
 rw[←ZK];unfold zde at ZK;clear h Z7 hO hl
 by_cases hT:zar l=[108,101,115,115]∨zar l=[101,113,117,97,108]∨zar l=[97,110,100]∨zar l=[111,114]∨zar l=[110,111,116]
 ·have HGR:Hid (GR=rdE 20001 false l):=Z9 (by rw[ZK,if_pos hT])
  clear ZK
  rcases hT with h0 |h0 |h0 |h0 |h0
  all_goals
   rw[zbu h0]at HHD;clear h0;go_enter Tryz.func61,Tryz.ntmps61;go_wp2_with fail;refine(HHD.out W HR.out).mono ?_;rintro e w1 ⟨rfl,hb⟩;have Y6:=Z9 (HR.out.below hb);have HO1:=Z9 ((hb.block cb (Z8 HO.out)).trans HO.out);have HG1:=Z9 (zan (rb:=rb) (zah hb));clear hb;go_wp2_with fail;have HCALL:=Z9 (HP.out false w1 l Y6.out (by have:=HL.out;omega));change Hid (Calls _ _ _ _ (zbk _ _ _ (rdE 20001 false l)))at HCALL;rw[←HGR.out]at HCALL;refine HCALL.out.mono ?_;clear HCALL
   cases hq:GR with
   |no l' =>
    rintro e u ⟨rfl,hr,hg⟩;exact⟨rfl,z6i rfl ⟨rfl,hr,zrd (Lib.grownBy_trans HG1.out hg) rfl rfl rfl rfl (fun _ _=>rfl),(hg.block cb (Z8 HO1.out) (fun e=>by injection e with e;have:=HLT.out;omega)).trans HO1.out⟩⟩
   |ok x l' =>
    rintro e u ⟨v,rfl,⟨n,a,len,cap,rfl,hx⟩,hr,hg⟩;have hOu:u.heap[cb]?=some (.cells #[.int .u8 0,.string ⟨#[]⟩,.string ⟨#[]⟩,.int .i64 0,.slice none 0 0] 25):=(hg.block cb (Z8 HO1.out) (fun e=>by injection e with e;have:=HLT.out;omega)).trans HO1.out;have XP:cb<W.heap.size:=(Z8 HO.out);have Ze:=HG1.out.size;obtain⟨V,hV⟩:∃V,V=(((((u.setCell ⟨cb,0,none⟩ (.int .u8 x.kind)).setCell ⟨cb,1,none⟩ (.string x.rat)).setCell ⟨cb,2,none⟩ (.string x.name)).setCell ⟨cb,3,none⟩ (.int .i64 x.date)).setCell ⟨cb,4,none⟩ (.slice a len cap)):=⟨_,rfl⟩
    have hk:∀g,g≠cb→V.heap[g]?=u.heap[g]?:=fun g h=>by
     rw[hV,Below.heap_setCell _ _ _ _ (by show g≠cb;exact h),Below.heap_setCell _ _ _ _ (by show g≠cb;exact h),Below.heap_setCell _ _ _ _ (by show g≠cb;exact h),Below.heap_setCell _ _ _ _ (by show g≠cb;exact h),Below.heap_setCell _ _ _ _ (by show g≠cb;exact h)]
    have hz:u.heap.size=V.heap.size:=by rw[hV];simp only[World.size_setCell]
    have ZZ:V.heap[cb]?=some (.cells #[.int .u8 x.kind,.string x.rat,.string x.name,.int .i64 x.date,.slice a len cap] 25):=by rw[hV];exact za2 hOu _ _ _ _ _
    have UK:CBx cb W.heap.size x V:=⟨n,a,len,cap,ZZ,(hx.keep (w':=V) fun g ⟨g1,_⟩=>hk g (by omega)).mono fun g ⟨g1,g2⟩=>⟨by omega,by omega⟩⟩;have UP:RAt rb V l':=hr.move (cb:=cb) (by have:=HLT.out;omega) hk (Nat.le_of_eq hz) (fun g o t ht=>z1g hOu ht);have UO:Kp2 rb cb W V:=zrd (Lib.grownBy_trans HG1.out hg) (by rw[hV];simp only[zdj]) (by rw[hV];simp only[zdj]) (by rw[hV];simp only[zdj]) hz hk;rw[hV]at UK UP UO;have HFIN:=Z9 (And.intro UK (And.intro UP UO));obtain⟨z0,z1,z2,z3,z4⟩:=zae hOu;have fz:∀i,u.frozen? ⟨cb,i,none⟩=false:=Lib.frozen_of_heap hOu
    have zb':=(Z8 hOu);clear hx hr hg hV hk hz ZZ UK UP UO XP hOu Ze;go_wp2_with fail;go_end0;exact z6h hq ⟨rfl,HFIN.out.1,HFIN.out.2.1,HFIN.out.2.2⟩
 have HGR:Hid (GR=rdE 20001 true l):=Z9 (by rw[ZK,if_neg hT]);have d0:=zcw (fun e=>hT (.inl e));have d1:=zcw (fun e=>hT (.inr (.inl e)));have d2:=zcw (fun e=>hT (.inr (.inr (.inl e))));have d3:=zcw (fun e=>hT (.inr (.inr (.inr (.inl e)))));have d4:=zcw (fun e=>hT (.inr (.inr (.inr (.inr (e))))));obtain⟨S,hS⟩:∃S,S=zfi l:=⟨_,rfl⟩
 rw[←hS]at HHD d0 d1 d2 d3 d4;clear ZK hS hT;go_enter Tryz.func61,Tryz.ntmps61;go_wp2_with fail;refine(HHD.out W HR.out).mono ?_;rintro e w1 ⟨rfl,hb⟩;have Y6:=Z9 (HR.out.below hb);have HO1:=Z9 ((hb.block cb (Z8 HO.out)).trans HO.out);have HG1:=Z9 (zan (rb:=rb) (zah hb));clear hb;go_wp2_with fail;have HCALL:=Z9 (HP.out true w1 l Y6.out (by have:=HL.out;omega));change Hid (Calls _ _ _ _ (zbk _ _ _ (rdE 20001 true l)))at HCALL;rw[←HGR.out]at HCALL;refine HCALL.out.mono ?_;clear HCALL
 cases hq:GR with
 |no l' =>
  rintro e u ⟨rfl,hr,hg⟩;exact⟨rfl,z6i rfl ⟨rfl,hr,zrd (Lib.grownBy_trans HG1.out hg) rfl rfl rfl rfl (fun _ _=>rfl),(hg.block cb (Z8 HO1.out) (fun e=>by injection e with e;have:=HLT.out;omega)).trans HO1.out⟩⟩
 |ok x l' =>
  rintro e u ⟨v,rfl,⟨n,a,len,cap,rfl,hx⟩,hr,hg⟩;have hOu:u.heap[cb]?=some (.cells #[.int .u8 0,.string ⟨#[]⟩,.string ⟨#[]⟩,.int .i64 0,.slice none 0 0] 25):=(hg.block cb (Z8 HO1.out) (fun e=>by injection e with e;have:=HLT.out;omega)).trans HO1.out;have XP:cb<W.heap.size:=(Z8 HO.out);have Ze:=HG1.out.size;obtain⟨V,hV⟩:∃V,V=(((((u.setCell ⟨cb,0,none⟩ (.int .u8 x.kind)).setCell ⟨cb,1,none⟩ (.string x.rat)).setCell ⟨cb,2,none⟩ (.string x.name)).setCell ⟨cb,3,none⟩ (.int .i64 x.date)).setCell ⟨cb,4,none⟩ (.slice a len cap)):=⟨_,rfl⟩
  have hk:∀g,g≠cb→V.heap[g]?=u.heap[g]?:=fun g h=>by
   rw[hV,Below.heap_setCell _ _ _ _ (by show g≠cb;exact h),Below.heap_setCell _ _ _ _ (by show g≠cb;exact h),Below.heap_setCell _ _ _ _ (by show g≠cb;exact h),Below.heap_setCell _ _ _ _ (by show g≠cb;exact h),Below.heap_setCell _ _ _ _ (by show g≠cb;exact h)]
  have hz:u.heap.size=V.heap.size:=by rw[hV];simp only[World.size_setCell]
  have ZZ:V.heap[cb]?=some (.cells #[.int .u8 x.kind,.string x.rat,.string x.name,.int .i64 x.date,.slice a len cap] 25):=by rw[hV];exact za2 hOu _ _ _ _ _
  have UK:CBx cb W.heap.size x V:=⟨n,a,len,cap,ZZ,(hx.keep (w':=V) fun g ⟨g1,_⟩=>hk g (by omega)).mono fun g ⟨g1,g2⟩=>⟨by omega,by omega⟩⟩;have UP:RAt rb V l':=hr.move (cb:=cb) (by have:=HLT.out;omega) hk (Nat.le_of_eq hz) (fun g o t ht=>z1g hOu ht);have UO:Kp2 rb cb W V:=zrd (Lib.grownBy_trans HG1.out hg) (by rw[hV];simp only[zdj]) (by rw[hV];simp only[zdj]) (by rw[hV];simp only[zdj]) hz hk;rw[hV]at UK UP UO;have HFIN:=Z9 (And.intro UK (And.intro UP UO));obtain⟨z0,z1,z2,z3,z4⟩:=zae hOu;have fz:∀i,u.frozen? ⟨cb,i,none⟩=false:=Lib.frozen_of_heap hOu
  have zb':=(Z8 hOu);clear hx hr hg hV hk hz ZZ UK UP UO XP hOu Ze;go_wp2_with fail;go_end0;exact z6h hq ⟨rfl,HFIN.out.1,HFIN.out.2.1,HFIN.out.2.2⟩
end Go.Proofs.YtkobkpepgdddeaaGreatDoor
