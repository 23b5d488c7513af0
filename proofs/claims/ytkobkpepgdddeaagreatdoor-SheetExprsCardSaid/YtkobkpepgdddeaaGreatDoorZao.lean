/-
  The reader's contract at every list; contracts at every depth. No condition.
-/
import Derived.Test.YtkobkpepgdddeaaGreatDoorZam
import Derived.Test.YtkobkpepgdddeaaGreatDoorZan
import Derived.Defers
import Derived.Recover
import Derived.RangeFuncNested
import Derived.Test.YtkobkpepgdddeaaGreatDoorZai
import Derived.Test.YtkobkpepgdddeaaGreatDoorZab
import Derived.Test.YtkobkpepgdddeaaGreatDoorZae
import Derived.Deep.RegionHeld3
import Derived.Test.YtkobkpepgdddeaaGreatDoorZaa
import Derived.BigQuiet
import Derived.WalkLawsBesides
import Derived.Outline
namespace Go.Proofs.YtkobkpepgdddeaaGreatDoor
open Go.RowKit
set_option maxHeartbeats 16000000
set_option maxRecDepth 100000
structure ClAt(rb bt ba be br:Nat)(s:ByteArray)(a e:Int)(w:World)(l:List Tk):Prop where
 rd:RAt rb w l
 text:Boxed w bt 9 (.string s)
 at_:Boxed w ba 3 (.int .i64 a)
 err:Boxed w be 28 (.int .i64 e)
 ptr:Boxed w br 91 (.pointer (some ⟨rb,0,none⟩))
 ne:ba≠be
 na:ba<rb∧be<rb
def zff(l:List Tk)(a e:Int):Int × Int:=match l with | []=>(a,e) |t :: _=>(t.place,12)
def Kp2(ba be:Nat)(w w':World):Prop:=w'.os=w.os∧w'.tape=w.tape∧w'.output=w.output∧w.heap.size≤w'.heap.size∧∀k,k<w.heap.size→k≠ba→k≠be→w'.heap[k]?=w.heap[k]?
theorem Kp2.refl(ba be:Nat)(w:World):Kp2 ba be w w:=⟨rfl,rfl,rfl,Nat.le_refl _,fun _ _ _ _=>rfl⟩
theorem Kp2.put{ba be:Nat}{w w':World}(h:Kp2 ba be w w')(b:Nat)(hb:b=ba∨b=be)(v:Value):Kp2 ba be w (w'.setCell ⟨b,0,none⟩ v) :=
 ⟨h.1,h.2.1,h.2.2.1,by simpa[World.setCell]using h.2.2.2.1,fun k hk h1 h2=>(Below.heap_setCell _ _ _ _ (by show k≠b;rcases hb with rfl |rfl<;>assumption)).trans (h.2.2.2.2 k hk h1 h2)⟩
theorem Kp2.alloc{ba be:Nat}{w w':World}(h:Kp2 ba be w w')(o:Obj):Kp2 ba be w (w'.alloc o) :=
 ⟨h.1,h.2.1,h.2.2.1,by have:=h.2.2.2.1;simp;omega,fun k hk h1 h2=>(Below.heap_alloc _ _ _ (Nat.lt_of_lt_of_le hk h.2.2.2.1)).trans (h.2.2.2.2 k hk h1 h2)⟩
theorem zrr{w:World}{b c:Nat}{t u:TypeId}{v x:Value}(h:Boxed w b t v)(k:Boxed w c u x)(Tl:t≠u):b≠c:=fun e=>by
 subst e;have:=h.symm.trans k;simp at this;exact Tl this.2
theorem zkw{w:World}{b g o:Nat}{t:TypeId}{a k:Int}(h:Boxed w b t (.int .i64 a))(hc:w.cell? ⟨g,o,none⟩=some (.int .u8 k)):g≠b:=fun e=>by
 subst e;rw[show w.cell? ⟨g,o,none⟩=(#[Value.int .i64 a]:Array Value)[o]? by simp[World.cell?,show w.heap[g]?=_ from h]]at hc
 match o,hc with
 |0,hc=>simp at hc
 |o+1,hc=>simp at hc
def z6w(ba be:Nat)(w w':World)(p:Int × Int):Prop:=Boxed w' ba 3 (.int .i64 p.1)∧Boxed w' be 28 (.int .i64 p.2)∧Kp2 ba be w w'
theorem zxe{rb bt ba be br:Nat}{s:ByteArray}{a e:Int}{w:World}{l:List Tk}(h:ClAt rb bt ba be br s a e w l) :
 CallsD Tryz.prog 109 #[.pointer (some ⟨bt,0,none⟩),.pointer (some ⟨ba,0,none⟩),.pointer (some ⟨be,0,none⟩),.pointer (some ⟨br,0,none⟩)] (.returning) w (fun en u' w'=>en=.returned (.tuple #[])∧u'=.returning∧z6w ba be w w' (zff l (a) (e))):=by
 have hta:∀W,(Instr.typeAssert (.iface 136 (.agg #[])) 20 136 true).run Tryz.prog W=.ok (.tuple #[.agg #[],.bool true]) W:=fun _=>by kernel_rfl
 have t0:=h.text.cell;have p0:=h.ptr.cell;have a0:=h.at_.cell;have af:=h.at_.frozen;have e0:=h.err.cell;have ef:=h.err.frozen;have ZT:=h.ne;have Vr:=h.na.1;have Zf:=h.na.2;have nra:rb≠ba:=by omega
 have nrb:rb≠be:=by omega
 have npa:br≠ba:=zrr h.ptr h.at_ (by decide);have npb:br≠be:=zrr h.ptr h.err (by decide);have hal:=h.at_.lt;have Zq:=h.err.lt;have Yg:=h.ptr.lt;have htl:=h.text.lt;have WD:=h.rd.lt;have HH:=Z9 h
 have fin:∀{fn:Func}{R:Ending→FrameMode→World→Prop}{tm:Array Value}{cs:List Frame}{c₀:Frame}{u':FrameMode}{w':World},fn.results=#[]→R (.returned (.tuple #[])) u' w'→c₀.mode=u'→bodyPostS Tryz.prog fn c₀ cs R .normal ⟨tm,[]⟩ (c₀ :: cs) w':=by
  intro fn R tm cs c₀ u' w' hr h1 hu;exact⟨rfl,u',by cases c₀;simp_all,_,results_none hr _ _ _,h1⟩
 have fin2:∀{fn:Func}{R:Ending→FrameMode→World→Prop}{tm:Array Value}{cs:List Frame}{c₀:Frame}{u':FrameMode}{w':World},fn.results=#[]→R (.returned (.tuple #[])) u' w'→bodyPostS Tryz.prog fn c₀ cs R .normal ⟨tm,[]⟩ ({ c₀ with mode:=u' } :: cs) w':=by
  intro fn R tm cs c₀ u' w' hr h1;exact⟨rfl,u',rfl,_,results_none hr _ _ _,h1⟩
 cases l with
 |nil =>
  obtain⟨g1,cap,hb⟩:=h.rd.nil;have r0:=hb.cell;clear h hb
  refine callsD_of_wpS Tryz.func109 rfl fun c₀ cs hu => ?_
  simp only[Tryz.ntmps109,List.size_toArray,List.length_cons,List.length_nil,Nat.reduceAdd,Nat.reduceSub,Array.replicate_succ,Array.replicate_zero,List.push_toArray,List.append_toArray,List.nil_append,List.cons_append];apply wpS_seq;apply wpS_seq;apply wpS_region;simp[wpOpsS,go_sem,recoverD,hu,Exit.thenS];apply wpS_seq;apply wpS_region;simp[wpOpsS,go_sem,Exit.thenS];refine wpS_cond (t:=false) (by simp[Act.eval]) ?_;simp only[Bool.false_eq_true,if_false];refine wpS_of_wp (wp_skip ?_)
  show Code.wpS _ _ _ _ _ _
  refine wpS_of_wp ?_;go_wp2_with fail;exact fin rfl ⟨rfl,rfl,HH.out.at_,HH.out.err,Kp2.refl _ _ _⟩ hu
 |cons t l =>
  obtain⟨g,o,cap,hb,hc,hm,Z1,hg,Z7,_⟩:=h.rd.head;have r0:=hb.cell;obtain⟨c0,_,_,_,c4⟩:=zeu Z1;have nga:g≠ba:=zkw h.at_ c0;have ngb:g≠be:=zkw h.err c0;have hl:(0:Int)<((l.length+1:Nat):Int):=by omega
  have hl0:0<l.length+1:=by omega
  obtain⟨n,hn⟩:∃n,n=l.length+1:=⟨_,rfl⟩
  rw[←hn]at r0 hl hl0 hc;clear h hb Z1 hn
  refine callsD_of_wpS Tryz.func109 rfl fun c₀ cs hu => ?_
  simp only[Tryz.ntmps109,List.size_toArray,List.length_cons,List.length_nil,Nat.reduceAdd,Nat.reduceSub,Array.replicate_succ,Array.replicate_zero,List.push_toArray,List.append_toArray,List.nil_append,List.cons_append];apply wpS_seq;apply wpS_seq;apply wpS_region;simp[wpOpsS,go_sem,recoverD,hu,Exit.thenS];apply wpS_seq;apply wpS_region;simp[wpOpsS,go_sem,Exit.thenS];refine wpS_cond (t:=false) (by simp[Act.eval]) ?_;simp only[Bool.false_eq_true,if_false];refine wpS_of_wp (wp_skip ?_)
  show Code.wpS _ _ _ _ _ _
  refine wpS_of_wp ?_;go_wp2_with fail;exact fin rfl ⟨rfl,rfl,(HH.out.at_.set _).other ZT _,(HH.out.err.other ZT.symm _).set _,((Kp2.refl ba be w).put ba (.inl rfl) _).put be (.inr rfl) _⟩ hu
theorem zxf{rb bt ba be br:Nat}{s:ByteArray}{a e:Int}{w:World}{l:List Tk}(older:List PanicEntry)(h:ClAt rb bt ba be br s a e w l) :
 CallsD Tryz.prog 109 #[.pointer (some ⟨bt,0,none⟩),.pointer (some ⟨ba,0,none⟩),.pointer (some ⟨be,0,none⟩),.pointer (some ⟨br,0,none⟩)] (.panicking ({ v:=.iface 136 (.agg #[]),recovered:=false } :: older)) w (fun en u' w'=>en=.returned (.tuple #[])∧u'=.panicking ({ v:=.iface 136 (.agg #[]),recovered:=true } :: older)∧z6w ba be w w' (zff l ((s.size:Int)) (12))):=by
 have hta:∀W,(Instr.typeAssert (.iface 136 (.agg #[])) 20 136 true).run Tryz.prog W=.ok (.tuple #[.agg #[],.bool true]) W:=fun _=>by kernel_rfl
 have t0:=h.text.cell;have p0:=h.ptr.cell;have a0:=h.at_.cell;have af:=h.at_.frozen;have e0:=h.err.cell;have ef:=h.err.frozen;have ZT:=h.ne;have Vr:=h.na.1;have Zf:=h.na.2;have nra:rb≠ba:=by omega
 have nrb:rb≠be:=by omega
 have npa:br≠ba:=zrr h.ptr h.at_ (by decide);have npb:br≠be:=zrr h.ptr h.err (by decide);have hal:=h.at_.lt;have Zq:=h.err.lt;have Yg:=h.ptr.lt;have htl:=h.text.lt;have WD:=h.rd.lt;have HH:=Z9 h
 have fin:∀{fn:Func}{R:Ending→FrameMode→World→Prop}{tm:Array Value}{cs:List Frame}{c₀:Frame}{u':FrameMode}{w':World},fn.results=#[]→R (.returned (.tuple #[])) u' w'→c₀.mode=u'→bodyPostS Tryz.prog fn c₀ cs R .normal ⟨tm,[]⟩ (c₀ :: cs) w':=by
  intro fn R tm cs c₀ u' w' hr h1 hu;exact⟨rfl,u',by cases c₀;simp_all,_,results_none hr _ _ _,h1⟩
 have fin2:∀{fn:Func}{R:Ending→FrameMode→World→Prop}{tm:Array Value}{cs:List Frame}{c₀:Frame}{u':FrameMode}{w':World},fn.results=#[]→R (.returned (.tuple #[])) u' w'→bodyPostS Tryz.prog fn c₀ cs R .normal ⟨tm,[]⟩ ({ c₀ with mode:=u' } :: cs) w':=by
  intro fn R tm cs c₀ u' w' hr h1;exact⟨rfl,u',rfl,_,results_none hr _ _ _,h1⟩
 cases l with
 |nil =>
  obtain⟨g1,cap,hb⟩:=h.rd.nil;have r0:=hb.cell;clear h hb
  refine callsD_of_wpS Tryz.func109 rfl fun c₀ cs hu => ?_
  simp only[Tryz.ntmps109,List.size_toArray,List.length_cons,List.length_nil,Nat.reduceAdd,Nat.reduceSub,Array.replicate_succ,Array.replicate_zero,List.push_toArray,List.append_toArray,List.nil_append,List.cons_append];apply wpS_seq;apply wpS_seq;apply wpS_region;simp[wpOpsS,go_sem,recoverD,hu,Exit.thenS];apply wpS_seq;apply wpS_region;simp[wpOpsS,go_sem,Exit.thenS];refine wpS_cond (t:=true) (by simp[Act.eval]) ?_;simp only[if_true];refine wpS_of_wp ?_;go_wp2_with fail
  show Code.wpS _ _ _ _ _ _
  refine wpS_of_wp ?_;go_wp2_with fail;exact fin2 rfl ⟨rfl,rfl,((HH.out.at_.set _).other ZT _).alloc _,((HH.out.err.other ZT.symm _).set _).alloc _,(((Kp2.refl ba be w).put ba (.inl rfl) _).put be (.inr rfl) _).alloc _⟩
 |cons t l =>
  obtain⟨g,o,cap,hb,hc,hm,Z1,hg,Z7,_⟩:=h.rd.head;have r0:=hb.cell;obtain⟨c0,_,_,_,c4⟩:=zeu Z1;have nga:g≠ba:=zkw h.at_ c0;have ngb:g≠be:=zkw h.err c0;have hl:(0:Int)<((l.length+1:Nat):Int):=by omega
  have hl0:0<l.length+1:=by omega
  obtain⟨n,hn⟩:∃n,n=l.length+1:=⟨_,rfl⟩
  rw[←hn]at r0 hl hl0 hc;clear h hb Z1 hn
  refine callsD_of_wpS Tryz.func109 rfl fun c₀ cs hu => ?_
  simp only[Tryz.ntmps109,List.size_toArray,List.length_cons,List.length_nil,Nat.reduceAdd,Nat.reduceSub,Array.replicate_succ,Array.replicate_zero,List.push_toArray,List.append_toArray,List.nil_append,List.cons_append];apply wpS_seq;apply wpS_seq;apply wpS_region;simp[wpOpsS,go_sem,recoverD,hu,Exit.thenS];apply wpS_seq;apply wpS_region;simp[wpOpsS,go_sem,Exit.thenS];refine wpS_cond (t:=true) (by simp[Act.eval]) ?_;simp only[if_true];refine wpS_of_wp ?_;go_wp2_with fail
  show Code.wpS _ _ _ _ _ _
  refine wpS_of_wp ?_;go_wp2_with fail;exact fin2 rfl ⟨rfl,rfl,((((HH.out.at_.set _).other ZT _).set _).other ZT _).alloc _,((((HH.out.err.other ZT.symm _).set _).other ZT.symm _).set _).alloc _,(((((Kp2.refl ba be w).put ba (.inl rfl) _).put be (.inr rfl) _).put ba (.inl rfl) _).put be (.inr rfl) _).alloc _⟩
def numV(l:List UInt8):Nat:=l.foldl (fun n c=>10*n+(c.toNat-48)) 0
theorem zdp(l:List UInt8)(c:UInt8):numV (l ++ [c])=10*numV l+(c.toNat-48):=by unfold numV;rw[List.foldl_append];rfl
theorem zeg(l:List UInt8)(h:∀c ∈ l,48≤c.toNat∧c.toNat≤57):numV l<10 ^ l.length:=by
 have key:∀m:List UInt8,(∀c ∈ m.reverse,48≤c.toNat∧c.toNat≤57)→numV m.reverse<10 ^ m.length:=by
  intro m
  induction m with
  |nil=>intro _;decide
  |cons a m ih =>
   intro h;rw[List.reverse_cons]at h ⊢;rw[zdp,List.length_cons,Nat.pow_succ];have a1:=ih (fun c hc=>h c (List.mem_append_left _ hc));have a2:=h a (by simp);omega
 have:=key l.reverse (by simpa using h);simpa using this
def NuR(s:ByteArray)(nv iv:Value):Prop:=∃k:Nat,k≤s.size∧iv=.int .i64 (k:Int)∧nv=.int .i64 (numV (s.data.toList.take k):Int)
theorem zkh(s:ByteArray)(w:World)(hs:s.size≤10)(hd:∀c ∈ s.data.toList,48≤c.toNat∧c.toNat≤57) :
 Calls Tryz.prog 182 #[.string s] w fun e w'=>e=.returned (.tuple #[.int .i64 (numV s.data.toList:Int),.bool true])∧w=w':=by
 have HD:=Z9 hd
 have HB:Hid (∀k,k≤s.size→numV (s.data.toList.take k)<10 ^ 10):=fun k hk=>by
  have h1:=zeg (s.data.toList.take k) (fun c hc=>hd c (List.mem_of_mem_take hc));have h2:(s.data.toList.take k).length≤10:=by rw[List.length_take,zab];omega
  exact Nat.lt_of_lt_of_le h1 (Nat.pow_le_pow_right (by omega) h2)
 clear hd;go_enter Tryz.func182,Tryz.ntmps182;go_wp2_with fail;go_loop [2,7] (NuR s) (fun _ i=>s.size-(intOf i).toNat)
 case atStart=>exact⟨0,Nat.zero_le _,rfl,rfl⟩
 case round =>
  obtain⟨k,hk,rfl,rfl⟩:=hrel;have hb:=HB.out k hk
  by_cases Z7:k<s.size
  ·obtain⟨c1,c2⟩:=HD.out s[k] (zc9 s k Z7)
   have HS:Hid (numV (s.data.toList.take (k+1))=10*numV (s.data.toList.take k)+(s[k].toNat-48)):=by rw[zdv s k Z7,zdp];exact rfl
   obtain⟨V,hV⟩:∃V,V=numV (s.data.toList.take k):=⟨_,rfl⟩
   rw[←hV]at hb HS ⊢;clear hV;have hb':V<10000000000:=hb;clear hb;go_wp2_with fail;go_round
   case rel=>exact⟨k+1,by omega,by go_num,by rw[HS.out];congr 1;omega⟩
   case measure=>simp[intOf];omega
  ·have HT:Hid (s.data.toList.take k=s.data.toList):=List.take_of_length_le (by rw[zab];omega)
   rw[HT.out];go_wp2_with fail;go_ret2;exact⟨rfl,rfl⟩
theorem zni(y:Nat)(w:World)(h1:1900≤y)(h2:y≤2173):Calls Tryz.prog 229 #[.int .i64 (y:Int)] w (RetB w true):=by
 have t1:decide ((1900:Int)≤(y:Int))=true:=by simp;omega
 have t2:decide ((y:Int)≤2173)=true:=by simp;omega
 go_enter Tryz.func229,Tryz.ntmps229;go_wp2;go_ret;exact⟨rfl,rfl⟩
theorem z4f(y m:Nat)(m1:1≤m)(m2:m≤12)(W:World):(Instr.index 219 (.agg (zhj y)) (.int .i64 (m:Int))).run Tryz.prog W=.ok (.int .i64 (zcu y m:Int)) W:=by
 have hm:m=1∨m=2∨m=3∨m=4∨m=5∨m=6∨m=7∨m=8∨m=9∨m=10∨m=11∨m=12:=by omega
 rcases hm with rfl |rfl |rfl |rfl |rfl |rfl |rfl |rfl |rfl |rfl |rfl |rfl<;>rfl
theorem zhk(y m:Nat)(w:World)(h1:1900≤y)(h2:y≤2173)(m1:1≤m)(m2:m≤12) :
 Calls Tryz.prog 207 #[.int .i64 (y:Int),.int .i64 (m:Int)] w fun e w'=>e=.returned (.tuple #[.int .i64 (zcu y m:Int),.int .i64 0])∧Below w.heap.size w w':=by
 have HK:=Z9 (fun W=>zni y W h1 h2);have HL:=Z9 (fun W=>zgk y W (by omega))
 have hidx:=fun W=>z4f y m m1 m2 W
 obtain⟨V,hV⟩:∃V,V=zhj y:=⟨_,rfl⟩
 rw[←hV]at HL;simp only[←hV]at hidx;obtain⟨L,hL⟩:∃L,L=zcu y m:=⟨_,rfl⟩
 rw[←hL]at hidx ⊢;clear hV hL;go_enter Tryz.func207,Tryz.ntmps207;go_wp2_with fail;refine(HK.out _).mono ?_;rintro e w' ⟨rfl,rfl⟩;go_wp2_with fail;refine(HL.out _).mono ?_;rintro e w2 ⟨rfl,b2⟩;have B2:=Z9 b2;clear b2;go_wp2_with fail;go_ret2;exact⟨rfl,B2.out⟩
def OfRd(y base m:Nat)(dv iv:Value):Prop:=∃k:Nat,k≤m∧iv=.int .i64 (k:Int)∧dv=.int .i64 ((base+mdR y (k-1):Nat):Int)
theorem z5x(day y m d:Nat)(w:World)(hd:day≤99999)(h:DateIs day y m d) :
 Calls Tryz.prog 183 #[.int .i64 (y:Int),.int .i64 (m:Int),.int .i64 (d:Int)] w fun e w'=>e=.returned (.tuple #[.int .i64 (day:Int),.int .i64 0])∧Below w.heap.size w w':=by
 obtain⟨h1,h2,h3,h4,h5,h6⟩:=h;have Z7:=DateIs.lt ⟨h1,h2,h3,h4,h5,h6⟩
 have hy:y≤2173:=by
  rcases Nat.lt_or_ge 2173 y with e |e
  ·have a:=zky (a:=2174) (b:=y) (by omega) (by omega)
   have b:yd 2174=100077:=by decide
   omega
  ·exact e
 have HN:=Z9 (fun W=>zhk y m W h1 hy h2 h3);have HF:=Z9 (fun W=>zkm y W h1 (by omega))
 have hL:=fun W=>zgk y W (by omega)
 unfold zhj at hL;have HL:=Z9 hL
 have hc:∀W:World,∀k:Nat,k≤12→(W.alloc (.cells (zhj y) 219)).cell? ⟨W.heap.size,k,none⟩=some (.int .i64 (((if k=0 then 0 else zcu y k):Nat):Int)):=fun W k a2=>by
  rw[RowAt.cell (zck (t:=219) (c:=zhj y) rfl rfl) (by show k<13;omega)]
  by_cases e:k=0
  ·subst e;rfl
  ·rw[if_neg e];simpa using zng y k (by omega) a2
 unfold zhj at hc;have HC:=Z9 hc;obtain⟨n,hn⟩:∃n,n=zcu y m:=⟨_,rfl⟩
 rw[←hn]at HN h5;have hn31:n≤31:=by rw[hn];exact zd8 _ _
 obtain⟨Y0,Uw⟩:∃Y0,Y0=yd y:=⟨_,rfl⟩
 rw[←Uw]at HF h6 Z7;have ZA:Hid (OfRd y (Y0+d-1) m (.int .i64 ((Y0:Int)+(d:Int)-1)) (.int .i64 0)):=⟨0,Nat.zero_le _,rfl,by congr 1;show _=((Y0+d-1+0:Nat):Int);omega⟩
 have H6:Hid (Y0+d-1+mdR y (m-1)=day):=by show _=_;omega
 have hYb:Y0≤99999:=by omega
 have UE:∀k,k≤m→mdR y (k-1)≤372:=fun k hk=>by
  have a:=zif y (a:=k-1) (b:=12) (by omega);rw[zq9]at a
  split at a<;>omega
 have HMD:=Z9 UE;have hal:Tryz.prog.arrayLen 219=13:=by kernel_rfl
 have Zq:Tryz.prog.elem 219=3:=by kernel_rfl
 have hsl:∀(W:World)(g:Nat),(Instr.sliceAt 219 (.pointer (some ⟨g,0,none⟩)) none (some (.int .i64 (m:Int))) none).run Tryz.prog W=.ok (.slice (some ⟨g,0,none⟩) m 13) W:=fun W g=>by
  rw[run_sliceAt_array_h W 219 ⟨g,0,none⟩ (by kernel_rfl) .i64 (m:Int) (by omega) (by rw[hal];omega),hal,Zq,Tryz.sizeOf3];simp[slicedAt,Addr.add,Result.andThen]
 clear hL hc hn Uw h6 Z7 UE;go_enter Tryz.func183,Tryz.ntmps183;go_wp2_with fail;refine(HN.out _).mono ?_;rintro e w1 ⟨rfl,b1⟩;have B1:=Z9 b1;clear b1;go_wp2_with fail;refine(HF.out _).mono ?_;rintro e w' ⟨rfl,rfl⟩;go_wp2_with fail;refine(HL.out _).mono ?_;rintro e w2 ⟨rfl,b2⟩;have B2:=Z9 (B1.out.trans (b2.mono B1.out.size));clear b2;go_wp2_with fail;go_loop [10,41] (OfRd y (Y0+d-1) m) (fun _ i=>m-(intOf i).toNat)
 case atStart=>exact ZA.out
 case round =>
  obtain⟨k,hk,rfl,rfl⟩:=hrel;have hb:=HMD.out k hk
  by_cases Z7:k<m
  ·have hc:=HC.out w2 k (by omega)
   obtain⟨L,hL⟩:∃L,L=(if k=0 then 0 else zcu y k):=⟨_,rfl⟩
   rw[←hL]at hc
   have hL31:L≤31:=by
    rw[hL];split
    ·omega
    ·exact zd8 _ _
   have hs:mdR y (k+1-1)=mdR y (k-1)+L:=by
    rw[hL]
    cases k with
    |zero=>rfl
    |succ k=>rfl
   obtain⟨M,hM⟩:∃M,M=mdR y (k-1):=⟨_,rfl⟩
   rw[←hM]at hb hs ⊢;have HS:Hid (OfRd y (Y0+d-1) m (.int .i64 (((Y0+d-1+M:Nat):Int)+(L:Int))) (.int .i64 ((k:Int)+1))):=⟨k+1,by omega,by congr 1,by rw[hs];congr 1;omega⟩;clear hL hs hM ZA H6 HC;go_wp2_with fail;go_round
   case rel=>exact HS.out
   case measure=>simp[intOf];omega
  ·have Vp:k=m:=by omega
   subst Vp;rw[H6.out];clear hb ZA HC;go_wp2_with fail;go_ret2;exact⟨rfl,B2.out.alloc (Nat.le_trans (by simp) B2.out.size) _⟩
theorem zz4(n k:Nat):∀c ∈ figB n k,48≤c.toNat∧c.toNat≤57:=by
 induction k generalizing n with
 |zero=>intro c hc;cases hc
 |succ k ih =>
  intro c hc
  rcases List.mem_append.1 hc with hc |hc
  ·exact ih _ c hc
  ·rw[List.mem_singleton.1 hc,UInt8.toNat_ofNat'];omega
theorem zgx(n k:Nat):numV (figB n k)=n % 10 ^ k:=by
 induction k generalizing n with
 |zero=>show 0=_;simp[Nat.mod_one]
 |succ k ih =>
  show numV (figB (n / 10) k ++ [_])=_
  have hp:n % (10*10 ^ k)=n % 10+10*(n / 10 % 10 ^ k):=Nat.mod_mul;rw[zdp,ih,UInt8.toNat_ofNat',show 10 ^ (k+1)=10*10 ^ k by rw[Nat.pow_succ,Nat.mul_comm],hp];omega
theorem znt(s:ByteArray)(y m d day:Nat)(w:World)(hs:s.size=10)(e4:(((s[4]'(by omega)).toNat:Int) != 45)=false)(e7:(((s[7]'(by omega)).toNat:Int) != 45)=false)
 (H1:Hid (∀W,Calls Tryz.prog 182 #[.string (s.extract 0 4)] W fun e w'=>e=.returned (.tuple #[.int .i64 (y:Int),.bool true])∧W=w'))
 (H2:Hid (∀W,Calls Tryz.prog 182 #[.string (s.extract 5 7)] W fun e w'=>e=.returned (.tuple #[.int .i64 (m:Int),.bool true])∧W=w'))
 (H3:Hid (∀W,Calls Tryz.prog 182 #[.string (s.extract 8 10)] W fun e w'=>e=.returned (.tuple #[.int .i64 (d:Int),.bool true])∧W=w'))
 (HO:Hid (∀W,Calls Tryz.prog 183 #[.int .i64 (y:Int),.int .i64 (m:Int),.int .i64 (d:Int)] W fun e w'=>e=.returned (.tuple #[.int .i64 (day:Int),.int .i64 0])∧Below W.heap.size W w')) :
 Calls Tryz.prog 145 #[.string s] w fun e w'=>e=.returned (.tuple #[.int .i64 (day:Int),.int .i64 0])∧Below w.heap.size w w':=by
 have t10:((s.size:Int) != 10)=false:=by rw[hs];rfl
 go_enter Tryz.func145,Tryz.ntmps145;go_wp2_with fail;refine(H1.out _).mono ?_;rintro e w' ⟨rfl,rfl⟩;go_wp2_with fail;refine(H2.out _).mono ?_;rintro e w' ⟨rfl,rfl⟩;go_wp2_with fail;refine(H3.out _).mono ?_;rintro e w' ⟨rfl,rfl⟩;go_wp2_with fail;refine(HO.out _).mono ?_;rintro e w2 ⟨rfl,b2⟩;have B2:=Z9 b2;clear b2;go_wp2_with fail;go_ret2;exact⟨rfl,B2.out⟩
theorem zhh(s:ByteArray)(n k:Nat)(h:s.data.toList=figB n k)(hk:k≤10)(hn:n<10 ^ k):Hid (∀W,Calls Tryz.prog 182 #[.string s] W fun e w'=>e=.returned (.tuple #[.int .i64 (n:Int),.bool true])∧W=w'):=fun W=>by
 have hs:s.size=k:=by rw[←zab,h,zrj]
 have:=zkh s W (by omega) (by rw[h];exact zz4 n k)
 rwa [h,zgx,Nat.mod_eq_of_lt hn]at this
theorem zto(s:ByteArray)(day y m d:Nat)(w:World)(hd:day≤99999)(h:DateIs day y m d)(hs:s.data.toList=zdu y m d) :
 Calls Tryz.prog 145 #[.string s] w fun e w'=>e=.returned (.tuple #[.int .i64 (day:Int),.int .i64 0])∧Below w.heap.size w w':=by
 have Za:s.size=10:=by rw[←zab,hs,zxa]
 obtain⟨hy,WB⟩:=h.small hd;have hm:m≤12:=h.2.2.1
 have hx:∀a b:Nat,(s.extract a b).data.toList=((zdu y m d).drop a).take (b-a):=fun a b=>by rw[Lib.extract_data,hs]
 have l4:figB y 4=[UInt8.ofNat (48+y / 10 / 10 / 10 % 10),UInt8.ofNat (48+y / 10 / 10 % 10),UInt8.ofNat (48+y / 10 % 10),UInt8.ofNat (48+y % 10)]:=rfl;have l2:figB m 2=[UInt8.ofNat (48+m / 10 % 10),UInt8.ofNat (48+m % 10)]:=rfl;have l3:figB d 2=[UInt8.ofNat (48+d / 10 % 10),UInt8.ofNat (48+d % 10)]:=rfl
 have g:∀(i:Nat)(hi:i<s.size),(zdu y m d)[i]?=some s[i]:=fun i hi=>by rw[←hs];exact Lib.data_getElem? s i hi
 have c4:=g 4 (by omega);have c7:=g 7 (by omega);have e4:(45:UInt8)=s[4]:=by unfold zdu at c4;rw[l4,l2,l3]at c4;simpa using c4
 have e7:(45:UInt8)=s[7]:=by unfold zdu at c7;rw[l4,l2,l3]at c7;simpa using c7
 refine znt s y m d day w Za (by rw[←e4];rfl) (by rw[←e7];rfl) (zhh _ y 4 (by rw[hx];unfold zdu;rw[l4,l2,l3];rfl) (by omega) (by omega))
  (zhh _ m 2 (by rw[hx];unfold zdu;rw[l4,l2,l3];rfl) (by omega) (by omega)) (zhh _ d 2 (by rw[hx];unfold zdu;rw[l4,l2,l3];rfl) (by omega) (by omega)) (fun W=>z5x day y m d W hd h)
def zc4(w:World)(e:Ending)(w':World):Prop:=∃q:Int,(1≤q∧q≤100)∧e=.returned (.tuple #[.int .i64 0,.int .i64 q])∧Below w.heap.size w w'
def NuD(s:ByteArray)(nv iv:Value):Prop:=∃k:Nat,k≤s.size∧iv=.int .i64 (k:Int)∧nv=.int .i64 (numV (s.data.toList.take k):Int)∧∀c ∈ s.data.toList.take k,48≤c.toNat∧c.toNat≤57
theorem zvz(s:ByteArray)(w:World)(hs:s.size≤10)(hd:∃c ∈ s.data.toList,¬(48≤c.toNat∧c.toNat≤57)) :
 Calls Tryz.prog 182 #[.string s] w fun e w'=>e=.returned (.tuple #[.int .i64 0,.bool false])∧w=w':=by
 have HD:=Z9 hd
 have HB:Hid (∀k,k≤s.size→(∀c ∈ s.data.toList.take k,48≤c.toNat∧c.toNat≤57)→numV (s.data.toList.take k)<10 ^ 10):=fun k hk h=>by
  have h1:=zeg (s.data.toList.take k) h;have h2:(s.data.toList.take k).length≤10:=by rw[List.length_take,zab];omega
  exact Nat.lt_of_lt_of_le h1 (Nat.pow_le_pow_right (by omega) h2)
 have ZA:Hid (NuD s (.int .i64 0) (.int .i64 0)):=⟨0,Nat.zero_le _,rfl,rfl,fun c hc=>by cases hc⟩;clear hd;go_enter Tryz.func182,Tryz.ntmps182;go_wp2_with fail;go_loop [2,7] (NuD s) (fun _ i=>s.size-(intOf i).toNat)
 case atStart=>exact ZA.out
 case round =>
  obtain⟨k,hk,rfl,rfl,Xg⟩:=hrel;have hb:=HB.out k hk Xg
  by_cases Z7:k<s.size
  ·have HN:Hid (∀V,V=numV (s.data.toList.take k)→48≤s[k].toNat→s[k].toNat≤57→NuD s (.int .i64 (10*(V:Int)+((s[k].toNat:Int)-48))) (.int .i64 ((k:Int)+1))):=fun V hV c1 c2=>by
    refine⟨k+1,by omega,by congr 1,?_,?_⟩
    ·rw[zdv s k Z7,zdp,hV];congr 1;omega
    ·rw[zdv s k Z7]
     intro c hc
     rcases List.mem_append.1 hc with hc |hc
     ·exact Xg c hc
     ·rw[List.mem_singleton.1 hc];exact⟨c1,c2⟩
   obtain⟨V,hV⟩:∃V,V=numV (s.data.toList.take k):=⟨_,rfl⟩
   rw[←hV]at hb HN ⊢;have HN2:=Z9 (HN.out V rfl);clear hV Xg HN HD HB ZA;have hb':V<10000000000:=hb;clear hb
   by_cases c1:s[k].toNat<48
   ·go_wp2_with fail
    go_ret2;exact⟨rfl,rfl⟩
   ·by_cases c2:57<s[k].toNat
    ·go_wp2_with fail
     go_ret2;exact⟨rfl,rfl⟩
    ·have HR:=Z9 (HN2.out (by omega) (by omega))
     have c1':48≤s[k].toNat:=by omega
     have c2':s[k].toNat≤57:=by omega
     clear HN2;go_wp2_with fail;go_round
     case rel=>simpa using HR.out
     case measure=>simp[intOf];omega
  ·obtain⟨c,hc,Xl⟩:=HD.out
   exact absurd (Xg c (by rw[List.take_of_length_le (by rw[zab];omega)];exact hc)) Xl
theorem zzw(y:Nat)(w:World)(h:y<1900∨2173<y):Calls Tryz.prog 229 #[.int .i64 (y:Int)] w (RetB w false):=by
 rcases h with h |h
 ·go_enter Tryz.func229,Tryz.ntmps229
  go_wp2;go_ret;exact⟨rfl,rfl⟩
 ·have t1:decide ((1900:Int)≤(y:Int))=true:=by simp;omega
  have t2:decide ((y:Int)≤2173)=false:=by simp;omega
  go_enter Tryz.func229,Tryz.ntmps229;go_wp2;go_ret;exact⟨rfl,rfl⟩
theorem zwh(y m:Nat)(w:World)(h:(y<1900∨2173<y)∨m<1∨12<m) :
 Calls Tryz.prog 207 #[.int .i64 (y:Int),.int .i64 (m:Int)] w fun e w'=>e=.returned (.tuple #[.int .i64 0,.int .i64 2])∧w=w':=by
 by_cases hy:y<1900∨2173<y
 ·have HK:=Z9 (fun W=>zzw y W hy)
  clear h hy;go_enter Tryz.func207,Tryz.ntmps207;go_wp2_with fail;refine(HK.out _).mono ?_;rintro e w' ⟨rfl,rfl⟩;go_wp2_with fail;go_ret2;exact⟨rfl,rfl⟩
 ·have HK:=Z9 (fun W=>zni y W (by omega) (by omega))
  have hm:m<1∨12<m:=by omega
  clear h hy
  rcases hm with hm |hm
  ·go_enter Tryz.func207,Tryz.ntmps207
   go_wp2_with fail;refine(HK.out _).mono ?_;rintro e w' ⟨rfl,rfl⟩;go_wp2_with fail;go_ret2;exact⟨rfl,rfl⟩
  ·have Xk:1≤m:=by omega
   go_enter Tryz.func207,Tryz.ntmps207;go_wp2_with fail;refine(HK.out _).mono ?_;rintro e w' ⟨rfl,rfl⟩;go_wp2_with fail;go_ret2;exact⟨rfl,rfl⟩
theorem z5z(y m d:Nat)(w:World)(h:(y<1900∨2173<y)∨m<1∨12<m):Calls Tryz.prog 183 #[.int .i64 (y:Int),.int .i64 (m:Int),.int .i64 (d:Int)] w (zc4 w):=by
 have HL:=Z9 (fun W=>zwh y m W h);clear h;go_enter Tryz.func183,Tryz.ntmps183;go_wp2_with fail;refine(HL.out _).mono ?_;rintro e w' ⟨rfl,rfl⟩;go_wp2_with fail;go_ret2;exact⟨2,by omega,rfl,Below.refl _ _⟩
theorem z5y(y m d n:Nat)(w:World)(hn:n≤31)(h:d<1∨n<d)
 (HN:Hid (∀W,Calls Tryz.prog 207 #[.int .i64 (y:Int),.int .i64 (m:Int)] W fun e w'=>e=.returned (.tuple #[.int .i64 (n:Int),.int .i64 0])∧Below W.heap.size W w')):Calls Tryz.prog 183 #[.int .i64 (y:Int),.int .i64 (m:Int),.int .i64 (d:Int)] w (zc4 w):=by
 rcases h with h |h
 ·go_enter Tryz.func183,Tryz.ntmps183
  go_wp2_with fail;refine(HN.out _).mono ?_;rintro e w1 ⟨rfl,b1⟩;have B1:=Z9 b1;clear b1;go_wp2_with fail;go_ret2;exact⟨2,by omega,rfl,B1.out⟩
 ·have h1:1≤d:=by omega
  go_enter Tryz.func183,Tryz.ntmps183;go_wp2_with fail;refine(HN.out _).mono ?_;rintro e w1 ⟨rfl,b1⟩;have B1:=Z9 b1;clear b1;go_wp2_with fail;go_ret2;exact⟨2,by omega,rfl,B1.out⟩
theorem z3l(day y m d:Nat)(w:World)(hd:99999<day)(hy:y≤2173)(h:DateIs day y m d) :
 Calls Tryz.prog 183 #[.int .i64 (y:Int),.int .i64 (m:Int),.int .i64 (d:Int)] w (zc4 w):=by
 obtain⟨h1,h2,h3,h4,h5,h6⟩:=h;have Z7:=DateIs.lt ⟨h1,h2,h3,h4,h5,h6⟩;have HN:=Z9 (fun W=>zhk y m W h1 hy h2 h3);have HF:=Z9 (fun W=>zkm y W h1 (by omega))
 have hL:=fun W=>zgk y W (by omega)
 unfold zhj at hL;have HL:=Z9 hL
 have hc:∀W:World,∀k:Nat,k≤12→(W.alloc (.cells (zhj y) 219)).cell? ⟨W.heap.size,k,none⟩=some (.int .i64 (((if k=0 then 0 else zcu y k):Nat):Int)):=fun W k a2=>by
  rw[RowAt.cell (zck (t:=219) (c:=zhj y) rfl rfl) (by show k<13;omega)]
  by_cases e:k=0
  ·subst e;rfl
  ·rw[if_neg e];simpa using zng y k (by omega) a2
 unfold zhj at hc;have HC:=Z9 hc;obtain⟨n,hn⟩:∃n,n=zcu y m:=⟨_,rfl⟩
 rw[←hn]at HN h5;have hn31:n≤31:=by rw[hn];exact zd8 _ _
 obtain⟨Y0,Uw⟩:∃Y0,Y0=yd y:=⟨_,rfl⟩
 rw[←Uw]at HF h6 Z7;have hdm:d≤31:=by omega
 have ZA:Hid (OfRd y (Y0+d-1) m (.int .i64 ((Y0:Int)+(d:Int)-1)) (.int .i64 0)):=⟨0,Nat.zero_le _,rfl,by congr 1;show _=((Y0+d-1+0:Nat):Int);omega⟩
 have H6:Hid (Y0+d-1+mdR y (m-1)=day):=by show _=_;omega
 have hYb:Y0≤200000:=by
  rw[Uw];have a:=zky (a:=y) (b:=2174) (by omega) (by omega);have b:yd 2174=100077:=by decide
  omega
 have UE:∀k,k≤m→mdR y (k-1)≤372:=fun k hk=>by
  have a:=zif y (a:=k-1) (b:=12) (by omega);rw[zq9]at a
  split at a<;>omega
 have HMD:=Z9 UE;have hal:Tryz.prog.arrayLen 219=13:=by kernel_rfl
 have Zq:Tryz.prog.elem 219=3:=by kernel_rfl
 have hsl:∀(W:World)(g:Nat),(Instr.sliceAt 219 (.pointer (some ⟨g,0,none⟩)) none (some (.int .i64 (m:Int))) none).run Tryz.prog W=.ok (.slice (some ⟨g,0,none⟩) m 13) W:=fun W g=>by
  rw[run_sliceAt_array_h W 219 ⟨g,0,none⟩ (by kernel_rfl) .i64 (m:Int) (by omega) (by rw[hal];omega),hal,Zq,Tryz.sizeOf3];simp[slicedAt,Addr.add,Result.andThen]
 clear hL hc hn Uw h6 Z7 UE;go_enter Tryz.func183,Tryz.ntmps183;go_wp2_with fail;refine(HN.out _).mono ?_;rintro e w1 ⟨rfl,b1⟩;have B1:=Z9 b1;clear b1;go_wp2_with fail;refine(HF.out _).mono ?_;rintro e w' ⟨rfl,rfl⟩;go_wp2_with fail;refine(HL.out _).mono ?_;rintro e w2 ⟨rfl,b2⟩;have B2:=Z9 (B1.out.trans (b2.mono B1.out.size));clear b2;go_wp2_with fail;go_loop [10,41] (OfRd y (Y0+d-1) m) (fun _ i=>m-(intOf i).toNat)
 case atStart=>exact ZA.out
 case round =>
  obtain⟨k,hk,rfl,rfl⟩:=hrel;have hb:=HMD.out k hk
  by_cases Z7:k<m
  ·have hc:=HC.out w2 k (by omega)
   obtain⟨L,hL⟩:∃L,L=(if k=0 then 0 else zcu y k):=⟨_,rfl⟩
   rw[←hL]at hc
   have hL31:L≤31:=by
    rw[hL];split
    ·omega
    ·exact zd8 _ _
   have hs:mdR y (k+1-1)=mdR y (k-1)+L:=by
    rw[hL]
    cases k with
    |zero=>rfl
    |succ k=>rfl
   obtain⟨M,hM⟩:∃M,M=mdR y (k-1):=⟨_,rfl⟩
   rw[←hM]at hb hs ⊢;have HS:Hid (OfRd y (Y0+d-1) m (.int .i64 (((Y0+d-1+M:Nat):Int)+(L:Int))) (.int .i64 ((k:Int)+1))):=⟨k+1,by omega,by congr 1,by rw[hs];congr 1;omega⟩;clear hL hs hM ZA H6 HC;go_wp2_with fail;go_round
   case rel=>exact HS.out
   case measure=>simp[intOf];omega
  ·have Vp:k=m:=by omega
   subst Vp;rw[H6.out];clear hb ZA HC;go_wp2_with fail;go_ret2;exact⟨2,by omega,rfl,B2.out.alloc (Nat.le_trans (by simp) B2.out.size) _⟩
theorem z7a(y m d:Nat)(w:World)(hd:d≤1000)(h:∀day,day≤99999→¬DateIs day y m d):Calls Tryz.prog 183 #[.int .i64 (y:Int),.int .i64 (m:Int),.int .i64 (d:Int)] w (zc4 w):=by
 by_cases h1:(y<1900∨2173<y)∨m<1∨12<m
 ·exact z5z y m d w h1
 ·by_cases h2:d<1∨zcu y m<d
  ·exact z5y y m d (zcu y m) w (zd8 _ _) h2 (fun W=>zhk y m W (by omega) (by omega) (by omega) (by omega))
  ·have hi:DateIs (yd y+mdR y (m-1)+d-1) y m d:=⟨by omega,by omega,by omega,by omega,by omega,by omega⟩
   refine z3l _ y m d w ?_ (by omega) hi
   rcases Nat.lt_or_ge 99999 (yd y+mdR y (m-1)+d-1)with e |e
   ·exact e
   ·exact absurd hi (h _ e)
theorem zeo(l:List UInt8)(h:∀c ∈ l,48≤c.toNat∧c.toNat≤57):figB (numV l) l.length=l:=by
 have key:∀m:List UInt8,(∀c ∈ m.reverse,48≤c.toNat∧c.toNat≤57)→figB (numV m.reverse) m.length=m.reverse:=by
  intro m
  induction m with
  |nil=>intro _;rfl
  |cons a m ih =>
   intro h;rw[List.reverse_cons]at h ⊢;have a1:=ih (fun c hc=>h c (List.mem_append_left _ hc));have a2:=h a (by simp);rw[zdp,List.length_cons]
   show figB ((10*numV m.reverse+(a.toNat-48)) / 10) m.length ++ [UInt8.ofNat (48+(10*numV m.reverse+(a.toNat-48)) % 10)]=_
   rw[show(10*numV m.reverse+(a.toNat-48)) / 10=numV m.reverse by omega,show 48+(10*numV m.reverse+(a.toNat-48)) % 10=a.toNat by omega,a1]
   congr 2
   exact UInt8.toNat_inj.1 (by rw[UInt8.toNat_ofNat'];omega)
 have:=key l.reverse (by simpa using h);simpa using this
theorem zzk(l:List UInt8)(h:l.length=10):∃c0 c1 c2 c3 c4 c5 c6 c7 c8 c9,l=[c0,c1,c2,c3,c4,c5,c6,c7,c8,c9]:=by
 match l,h with
 | [c0,c1,c2,c3,c4,c5,c6,c7,c8,c9],_=>exact⟨c0,c1,c2,c3,c4,c5,c6,c7,c8,c9,rfl⟩
def NuC(s:ByteArray)(n:Nat)(b:Bool):Prop:=∀W,Calls Tryz.prog 182 #[.string s] W fun e w'=>e=.returned (.tuple #[.int .i64 (n:Int),.bool b])∧W=w'
theorem z6l(s:ByteArray)(w:World)(h:s.size≠10):Calls Tryz.prog 145 #[.string s] w (zc4 w):=by
 have t10:((s.size:Int) != 10)=true:=by simp;omega
 clear h;go_enter Tryz.func145,Tryz.ntmps145;go_wp2_with fail;go_ret2;exact⟨12,by omega,rfl,Below.refl _ _⟩
theorem zz6(s:ByteArray)(w:World)(hs:s.size=10)(e4:(((s[4]'(by omega)).toNat:Int) != 45)=true):Calls Tryz.prog 145 #[.string s] w (zc4 w):=by
 have t10:((s.size:Int) != 10)=false:=by rw[hs];rfl
 go_enter Tryz.func145,Tryz.ntmps145;go_wp2_with fail;go_ret2;exact⟨12,by omega,rfl,Below.refl _ _⟩
theorem zz5(s:ByteArray)(w:World)(hs:s.size=10)(e4:(((s[4]'(by omega)).toNat:Int) != 45)=false)(e7:(((s[7]'(by omega)).toNat:Int) != 45)=true):Calls Tryz.prog 145 #[.string s] w (zc4 w):=by
 have t10:((s.size:Int) != 10)=false:=by rw[hs];rfl
 go_enter Tryz.func145,Tryz.ntmps145;go_wp2_with fail;go_ret2;exact⟨12,by omega,rfl,Below.refl _ _⟩
theorem z6k(s:ByteArray)(y m d:Nat)(b1 b2 b3:Bool)(w:World)(hs:s.size=10)(e4:(((s[4]'(by omega)).toNat:Int) != 45)=false)(e7:(((s[7]'(by omega)).toNat:Int) != 45)=false)
 (H1:Hid (NuC (s.extract 0 4) y b1)) (H2:Hid (NuC (s.extract 5 7) m b2)) (H3:Hid (NuC (s.extract 8 10) d b3)) (hb:(b1 && b2 && b3)=false) :
 Calls Tryz.prog 145 #[.string s] w (zc4 w):=by
 have t10:((s.size:Int) != 10)=false:=by rw[hs];rfl
 cases b1<;>cases b2<;>cases b3<;>first |(cases hb;done) |skip
 all_goals
  clear hb;go_enter Tryz.func145,Tryz.ntmps145;go_wp2_with fail;refine(H1.out _).mono ?_;rintro e w' ⟨rfl,rfl⟩;go_wp2_with fail;refine(H2.out _).mono ?_;rintro e w' ⟨rfl,rfl⟩;go_wp2_with fail;refine(H3.out _).mono ?_;rintro e w' ⟨rfl,rfl⟩;go_wp2_with fail;go_ret2;exact⟨12,by omega,rfl,Below.refl _ _⟩
theorem z7k(s:ByteArray)(y m d:Nat)(w:World)(hs:s.size=10)(e4:(((s[4]'(by omega)).toNat:Int) != 45)=false)(e7:(((s[7]'(by omega)).toNat:Int) != 45)=false)
 (H1:Hid (NuC (s.extract 0 4) y true)) (H2:Hid (NuC (s.extract 5 7) m true)) (H3:Hid (NuC (s.extract 8 10) d true))
 (HO:Hid (∀W,Calls Tryz.prog 183 #[.int .i64 (y:Int),.int .i64 (m:Int),.int .i64 (d:Int)] W (zc4 W))) :
 Calls Tryz.prog 145 #[.string s] w (zc4 w):=by
 have t10:((s.size:Int) != 10)=false:=by rw[hs];rfl
 go_enter Tryz.func145,Tryz.ntmps145;go_wp2_with fail;refine(H1.out _).mono ?_;rintro e w' ⟨rfl,rfl⟩;go_wp2_with fail;refine(H2.out _).mono ?_;rintro e w' ⟨rfl,rfl⟩;go_wp2_with fail;refine(H3.out _).mono ?_;rintro e w' ⟨rfl,rfl⟩;go_wp2_with fail;refine(HO.out _).mono ?_;rintro e w2 ⟨q,hq,rfl,b2⟩;have B2:=Z9 b2;have HQ:=Z9 hq;clear b2 hq;go_wp2_with fail;go_ret2;exact⟨q,HQ.out,rfl,B2.out⟩
theorem zjc(s:ByteArray)(hs:s.size≤10):∃b,NuC s (if b then numV s.data.toList else 0) b∧(b=true→∀c ∈ s.data.toList,48≤c.toNat∧c.toNat≤57):=by
 by_cases h:∀c ∈ s.data.toList,48≤c.toNat∧c.toNat≤57
 ·exact⟨true,fun W=>zkh s W hs h,fun _=>h⟩
 ·refine⟨false,fun W=>zvz s W hs ?_,fun h=>by cases h⟩
  simpa using h
theorem zw5(s:ByteArray)(w:World)(h:∀day y m d,day≤99999→DateIs day y m d→s.data.toList≠zdu y m d):Calls Tryz.prog 145 #[.string s] w (zc4 w):=by
 by_cases Za:s.size=10
 ·by_cases e4:(((s[4]'(by omega)).toNat:Int) != 45)=true
  ·exact zz6 s w Za e4
  ·have e4:(((s[4]'(by omega)).toNat:Int) != 45)=false:=by simpa using e4
   by_cases e7:(((s[7]'(by omega)).toNat:Int) != 45)=true
   ·exact zz5 s w Za e4 e7
   ·have e7:(((s[7]'(by omega)).toNat:Int) != 45)=false:=by simpa using e7
    have sz:∀a b:Nat,b≤10→(s.extract a b).size=b-a:=fun a b hb=>by rw[←zab,Lib.extract_data];simp[Za];omega
    obtain⟨b1,n1,d1⟩:=zjc (s.extract 0 4) (by rw[sz 0 4 (by omega)];omega);obtain⟨b2,n2,d2⟩:=zjc (s.extract 5 7) (by rw[sz 5 7 (by omega)];omega);obtain⟨b3,n3,d3⟩:=zjc (s.extract 8 10) (by rw[sz 8 10 (by omega)];omega)
    by_cases hb:(b1 && b2 && b3)=true
    ·simp only[Bool.and_eq_true]at hb
     obtain⟨⟨rfl,rfl⟩,rfl⟩:=hb;have d1:=d1 rfl;have d2:=d2 rfl;have d3:=d3 rfl;have v3:=zeg _ d3;rw[zab,sz 8 10 (by omega)]at v3;refine z7k s _ _ _ w Za e4 e7 n1 n2 n3 (fun W=>z7a _ _ _ W (by rw[if_pos rfl];omega) (fun day hd hi => ?_));simp only[if_true]at hi;refine h day _ _ _ hd hi ?_;obtain⟨c0,c1,c2,c3,c4,c5,c6,c7,c8,c9,hl⟩:=zzk s.data.toList (by rw[zab,Za])
     have k4:c4=45:=by
      have:=Lib.data_getElem? s 4 (by omega);rw[hl]at this;have hc:c4=s[4]:=by simpa using this
      rw[hc]
      exact UInt8.toNat_inj.1 (by
       have:(s[4].toNat:Int)=45:=by simpa using e4
       show s[4].toNat=45
       omega)
     have k7:c7=45:=by
      have:=Lib.data_getElem? s 7 (by omega);rw[hl]at this;have hc:c7=s[7]:=by simpa using this
      rw[hc]
      exact UInt8.toNat_inj.1 (by
       have:(s[7].toNat:Int)=45:=by simpa using e7
       show s[7].toNat=45
       omega)
     rw[Lib.extract_data,hl]at d1 d2 d3;have x1:(s.extract 0 4).data.toList=[c0,c1,c2,c3]:=by rw[Lib.extract_data,hl];rfl
     have x2:(s.extract 5 7).data.toList=[c5,c6]:=by rw[Lib.extract_data,hl];rfl
     have x3:(s.extract 8 10).data.toList=[c8,c9]:=by rw[Lib.extract_data,hl];rfl
     have f1:figB (numV [c0,c1,c2,c3]) 4=[c0,c1,c2,c3]:=zeo _ d1;have f2:figB (numV [c5,c6]) 2=[c5,c6]:=zeo _ d2;have f3:figB (numV [c8,c9]) 2=[c8,c9]:=zeo _ d3;rw[x1,x2,x3];unfold zdu;rw[f1,f2,f3,hl,k4,k7];rfl
    ·exact z6k s _ _ _ b1 b2 b3 w Za e4 e7 n1 n2 n3 (by simpa using hb)
 ·exact z6l s w Za
def z1e(l:List UInt8)(day:Nat):Prop:=day≤99999∧∃y m d,DateIs day y m d∧l=zdu y m d
theorem ztp(s:ByteArray) :
 (∃day,z1e s.data.toList day∧∀W,Calls Tryz.prog 145 #[.string s] W fun e w'=>e=.returned (.tuple #[.int .i64 (day:Int),.int .i64 0])∧Below W.heap.size W w') ∨
 ((∀day,¬z1e s.data.toList day)∧∀W,Calls Tryz.prog 145 #[.string s] W (zc4 W)):=by
 by_cases h:∃day,z1e s.data.toList day
 ·obtain⟨day,h1,y,m,d,h2,h3⟩:=h
  exact .inl ⟨day,⟨h1,y,m,d,h2,h3⟩,fun W=>zto s day y m d W h1 h2 h3⟩
 ·exact .inr ⟨fun day hd=>h ⟨day,hd⟩,fun W=>zw5 s W fun day y m d h1 h2 h3=>h ⟨day,h1,y,m,d,h2,h3⟩⟩
def AddR(w:World)(la lb:List Nat)(n:Nat)(o b i:Value)(wr:World):Prop :=
 ∃(k cr:Nat)(out:List Nat),k≤n∧i=.int .i64 k∧b=.int .u32 cr∧wr.ownsRow w.heap.size 247 1 o k (nums .u32 out)∧zkx la lb out k cr∧Below w.heap.size w wr
theorem z3h(a b:Option Addr)(n m c d:Nat)(la lb:List Nat)(w:World)(Zt:la.length=n)(ZC:lb.length=m)(hn:n≤900000)(Wn:m≤n)
 (da:∀x ∈ la,x<Bs) (db:∀x ∈ lb,x<Bs) (ha:Nums .u32 w a la) (hb:Nums .u32 w b lb) :
 Calls Tryz.prog 239 #[.slice a n c,.slice b m d] w (zhy w (val la+val lb)):=by
 obtain⟨i0,hi,ZN,ZO,ZD⟩:=info_parts zfq;have t0:decide ((n:Int)<(m:Int))=false:=by simp;omega
 have HLA:=Z9 Zt;have HLB:=Z9 ZC;have HA:=Z9 ha;have HB:=Z9 hb;have DA:=Z9 da;have DB:=Z9 db;clear Zt ZC ha hb da db;go_enter Tryz.func239,Tryz.ntmps239;go_wp2_with (at_make;refine wpList_make_own _ rfl _ _ 239 rfl w.heap.size 247 i0 (.int .u32 0) 1 Tryz.underlying239 hi ZN ZO .i64 .i64 _ (n+1) rfl rfl rfl ?b2 ?b3 ?b4 ?_)
 case b2=>rw[ZD];omega
 case b3=>unfold maxLen;omega
 case b4=>exact Nat.le_refl _
 intro w1 Zg Ze;have Zr:AddR w la lb n (.slice (some ⟨w.heap.size,0,none⟩) 0 (n+1)) (.int .u32 0) (.int .i64 0) w1:=⟨0,0,[],Nat.zero_le _,rfl,rfl,Zg,zkg _ _,(Below.refl _ _).grown Ze (Nat.le_refl _) (fun k hk=>by cases hk)⟩;have ZA:=Z9 Zr;clear Zg Ze Zr t0;go_wp2_with fail;go_loopw [5,6,23] (AddR w la lb n) (fun _ _ i _=>n-(intOf i).toNat)
 case atStart=>exact ZA.out
 case round =>
  obtain⟨k,cr,out,hk,rfl,rfl,ho,ZB,Zu⟩:=hrel;have HO:=Z9 ho;have HT:=Z9 ZB;have HBL:=Z9 Zu;clear ho ZB Zu ZA
  by_cases Z7:k<n
  ·obtain⟨x,hx⟩:∃x,x=la.getD k 0:=⟨_,rfl⟩
   obtain⟨y,hy⟩:∃y,y=lb.getD k 0:=⟨_,rfl⟩
   obtain⟨g,og,rfl,hg,hc⟩:=HA.out.below HBL.out k (by have:=HLA.out;omega);rw[←hx]at hc;have hx10:x<1000000000:=by rw[hx];exact zba la k DA.out
   have hy10:y<1000000000:=by rw[hy];exact zba lb k DB.out
   have VW:cr≤1:=HT.out.2.2.1;have XT:=zmv la lb out k cr DA.out DB.out HT.out;rw[←hx,←hy]at XT;have HX:=Z9 hx;have HY:=Z9 hy;have HT2:=Z9 XT;clear hx hy XT
   go_upto_if 34 with(fail)
   go_cut [9] (fun s wx=>s=.int .u32 ((x+cr+y:Nat):Int)∧wr=wx)
   case first=>as_aux_lemma =>
    by_cases Vp:k<m
    ·obtain⟨gb,ob,rfl,Ya,Yk⟩:=HB.out.below HBL.out k (by have:=HLB.out;omega)
     rw[←HY.out]at Yk;go_wp2_with fail;go_meet;exact⟨by congr 1,rfl⟩
    ·have Zd:y=0:=by rw[HY.out,zea (by have:=HLB.out;omega)]
     have HY0:=Z9 Zd;clear Zd;go_wp2_with fail;go_meet;exact⟨by rw[HY0.out];rfl,rfl⟩
   case rest=>as_aux_lemma =>
    obtain⟨rfl,rfl⟩:=hcut;obtain⟨v,hv⟩:∃v,v=x+cr+y:=⟨_,rfl⟩
    have hv10:v<2000000001:=by omega
    rw[←hv]at HT2 ⊢;clear hv hc;obtain⟨r,hr⟩:∃r:Nat,(v:Int) % 1000000000=(r:Int)∧v % 1000000000=r:=⟨v % 1000000000,by omega,rfl⟩
    have HT3:=HT2.out;rw[zdd,hr.2]at HT3;have HT4:=Z9 HT3;have HR:=Z9 hr;clear hr HT3;go_wp2_with (at_builtin;refine zas _ rfl (.tmp 43) (.tmp 46) 239 rfl w.heap.size 247 i0 (.int .u32 0) 4 Tryz.underlying239 hi ZN ZO ZD rfl _ _ _ rfl (HO.out.alloc _) ⟨wr.heap.size,0,none⟩ 1 (.int .u32 (r:Int)) rfl ?c1 rfl ?c3 ?c4 ?c5 ?_)
    case c1=>simp[HR.out.1]
    case c3=>unfold maxLen;omega
    case c4=>omega
    case c5=>have:=HBL.out.size;simp;omega
    intro v1 w2 Zk Yl Yc XM;have n2:Below w.heap.size w w2:=(HBL.out.alloc HBL.out.size _).grown Yl (by have:=HBL.out.size;simp;omega) (fun k hk=>(HO.out.lt k hk).1);rw[zbo]at Zk;have HO2:=Z9 Zk;have N2:=Z9 n2;clear Zk n2 Yl Yc XM;go_wp2_with fail;go_roundw
    case rel=>exact⟨k+1,v / 1000000000,out ++ [r],by omega,by go_num,rfl,HO2.out,HT4.out,N2.out⟩
    case measure=>simp[intOf]<;>omega
  ·obtain rfl:k=n:=by omega
   have hv:=zq1 la lb out cr (by rw[HLA.out,HLB.out];omega) (by rw[HLA.out];exact HT.out);have HV:=Z9 hv;clear hv;go_wp2_with (at_builtin;refine zas _ rfl (.tmp 49) (.tmp 51) 239 rfl w.heap.size 247 i0 (.int .u32 0) 4 Tryz.underlying239 hi ZN ZO ZD rfl _ _ _ rfl (HO.out.alloc _) ⟨wr.heap.size,0,none⟩ 1 (.int .u32 cr) rfl ?c1 rfl ?c3 ?c4 ?c5 ?_)
   case c1=>simp
   case c3=>unfold maxLen;omega
   case c4=>omega
   case c5=>have:=HBL.out.size;simp;omega
   intro v1 w2 Zk Yl Yc XM;have n2:Below w.heap.size w w2:=(HBL.out.alloc HBL.out.size _).grown Yl (by have:=HBL.out.size;simp;omega) (fun k hk=>(HO.out.lt k hk).1);rw[zbo]at Zk;have YG:=zd1 Zk (by omega) HV.out.1;rw[HV.out.2]at YG;have Zp:=Z9 YG;have N2:=Z9 n2;clear Zk n2 Yl Yc XM YG;go_wp2_with fail;refine Zp.out.mono ?_;rintro e w' ⟨⟨v2,l2,rfl,Zk,Zc⟩,rfl⟩;have HO2:=Z9 Zk;have YB:=Z9 Zc;clear Zk Zc;go_wp2_with fail;go_ret;exact⟨_,l2,rfl,HO2.out,YB.out,N2.out⟩
theorem z3g(a b:Option Addr)(n m c d:Nat)(la lb:List Nat)(w:World)(Zt:la.length=n)(ZC:lb.length=m)(hn:n≤900000)(Wn:m<n)
 (da:∀x ∈ la,x<Bs) (db:∀x ∈ lb,x<Bs) (ha:Nums .u32 w a la) (hb:Nums .u32 w b lb) :
 Calls Tryz.prog 239 #[.slice b m d,.slice a n c] w (zhy w (val la+val lb)):=by
 obtain⟨i0,hi,ZN,ZO,ZD⟩:=info_parts zfq;have t0:decide ((m:Int)<(n:Int))=true:=by simp;omega
 have HLA:=Z9 Zt;have HLB:=Z9 ZC;have HA:=Z9 ha;have HB:=Z9 hb;have DA:=Z9 da;have DB:=Z9 db;clear Zt ZC ha hb da db;go_enter Tryz.func239,Tryz.ntmps239;go_wp2_with (at_make;refine wpList_make_own _ rfl _ _ 239 rfl w.heap.size 247 i0 (.int .u32 0) 1 Tryz.underlying239 hi ZN ZO .i64 .i64 _ (n+1) rfl rfl rfl ?b2 ?b3 ?b4 ?_)
 case b2=>rw[ZD];omega
 case b3=>unfold maxLen;omega
 case b4=>exact Nat.le_refl _
 intro w1 Zg Ze;have Zr:AddR w la lb n (.slice (some ⟨w.heap.size,0,none⟩) 0 (n+1)) (.int .u32 0) (.int .i64 0) w1:=⟨0,0,[],Nat.zero_le _,rfl,rfl,Zg,zkg _ _,(Below.refl _ _).grown Ze (Nat.le_refl _) (fun k hk=>by cases hk)⟩;have ZA:=Z9 Zr;clear Zg Ze Zr t0;go_wp2_with fail;go_loopw [5,6,23] (AddR w la lb n) (fun _ _ i _=>n-(intOf i).toNat)
 case atStart=>exact ZA.out
 case round =>
  obtain⟨k,cr,out,hk,rfl,rfl,ho,ZB,Zu⟩:=hrel;have HO:=Z9 ho;have HT:=Z9 ZB;have HBL:=Z9 Zu;clear ho ZB Zu ZA
  by_cases Z7:k<n
  ·obtain⟨x,hx⟩:∃x,x=la.getD k 0:=⟨_,rfl⟩
   obtain⟨y,hy⟩:∃y,y=lb.getD k 0:=⟨_,rfl⟩
   obtain⟨g,og,rfl,hg,hc⟩:=HA.out.below HBL.out k (by have:=HLA.out;omega);rw[←hx]at hc;have hx10:x<1000000000:=by rw[hx];exact zba la k DA.out
   have hy10:y<1000000000:=by rw[hy];exact zba lb k DB.out
   have VW:cr≤1:=HT.out.2.2.1;have XT:=zmv la lb out k cr DA.out DB.out HT.out;rw[←hx,←hy]at XT;have HX:=Z9 hx;have HY:=Z9 hy;have HT2:=Z9 XT;clear hx hy XT
   go_upto_if 34 with(fail)
   go_cut [9] (fun s wx=>s=.int .u32 ((x+cr+y:Nat):Int)∧wr=wx)
   case first=>as_aux_lemma =>
    by_cases Vp:k<m
    ·obtain⟨gb,ob,rfl,Ya,Yk⟩:=HB.out.below HBL.out k (by have:=HLB.out;omega)
     rw[←HY.out]at Yk;go_wp2_with fail;go_meet;exact⟨by congr 1,rfl⟩
    ·have Zd:y=0:=by rw[HY.out,zea (by have:=HLB.out;omega)]
     have HY0:=Z9 Zd;clear Zd;go_wp2_with fail;go_meet;exact⟨by rw[HY0.out];rfl,rfl⟩
   case rest=>as_aux_lemma =>
    obtain⟨rfl,rfl⟩:=hcut;obtain⟨v,hv⟩:∃v,v=x+cr+y:=⟨_,rfl⟩
    have hv10:v<2000000001:=by omega
    rw[←hv]at HT2 ⊢;clear hv hc;obtain⟨r,hr⟩:∃r:Nat,(v:Int) % 1000000000=(r:Int)∧v % 1000000000=r:=⟨v % 1000000000,by omega,rfl⟩
    have HT3:=HT2.out;rw[zdd,hr.2]at HT3;have HT4:=Z9 HT3;have HR:=Z9 hr;clear hr HT3;go_wp2_with (at_builtin;refine zas _ rfl (.tmp 43) (.tmp 46) 239 rfl w.heap.size 247 i0 (.int .u32 0) 4 Tryz.underlying239 hi ZN ZO ZD rfl _ _ _ rfl (HO.out.alloc _) ⟨wr.heap.size,0,none⟩ 1 (.int .u32 (r:Int)) rfl ?c1 rfl ?c3 ?c4 ?c5 ?_)
    case c1=>simp[HR.out.1]
    case c3=>unfold maxLen;omega
    case c4=>omega
    case c5=>have:=HBL.out.size;simp;omega
    intro v1 w2 Zk Yl Yc XM;have n2:Below w.heap.size w w2:=(HBL.out.alloc HBL.out.size _).grown Yl (by have:=HBL.out.size;simp;omega) (fun k hk=>(HO.out.lt k hk).1);rw[zbo]at Zk;have HO2:=Z9 Zk;have N2:=Z9 n2;clear Zk n2 Yl Yc XM;go_wp2_with fail;go_roundw
    case rel=>exact⟨k+1,v / 1000000000,out ++ [r],by omega,by go_num,rfl,HO2.out,HT4.out,N2.out⟩
    case measure=>simp[intOf]<;>omega
  ·obtain rfl:k=n:=by omega
   have hv:=zq1 la lb out cr (by rw[HLA.out,HLB.out];omega) (by rw[HLA.out];exact HT.out);have HV:=Z9 hv;clear hv;go_wp2_with (at_builtin;refine zas _ rfl (.tmp 49) (.tmp 51) 239 rfl w.heap.size 247 i0 (.int .u32 0) 4 Tryz.underlying239 hi ZN ZO ZD rfl _ _ _ rfl (HO.out.alloc _) ⟨wr.heap.size,0,none⟩ 1 (.int .u32 cr) rfl ?c1 rfl ?c3 ?c4 ?c5 ?_)
   case c1=>simp
   case c3=>unfold maxLen;omega
   case c4=>omega
   case c5=>have:=HBL.out.size;simp;omega
   intro v1 w2 Zk Yl Yc XM;have n2:Below w.heap.size w w2:=(HBL.out.alloc HBL.out.size _).grown Yl (by have:=HBL.out.size;simp;omega) (fun k hk=>(HO.out.lt k hk).1);rw[zbo]at Zk;have YG:=zd1 Zk (by omega) HV.out.1;rw[HV.out.2]at YG;have Zp:=Z9 YG;have N2:=Z9 n2;clear Zk n2 Yl Yc XM YG;go_wp2_with fail;refine Zp.out.mono ?_;rintro e w' ⟨⟨v2,l2,rfl,Zk,Zc⟩,rfl⟩;have HO2:=Z9 Zk;have YB:=Z9 Zc;clear Zk Zc;go_wp2_with fail;go_ret;exact⟨_,l2,rfl,HO2.out,YB.out,N2.out⟩
theorem zy5(a b:Option Addr)(n m c d:Nat)(la lb:List Nat)(w:World)(Zt:la.length=n)(ZC:lb.length=m)(hn:n≤900000)(hm:m≤900000)
 (da:∀x ∈ la,x<Bs) (db:∀x ∈ lb,x<Bs) (ha:Nums .u32 w a la) (hb:Nums .u32 w b lb) :
 Calls Tryz.prog 239 #[.slice a n c,.slice b m d] w (zhy w (val la+val lb)):=by
 by_cases h:m≤n
 ·exact z3h a b n m c d la lb w Zt ZC hn h da db ha hb
 ·have:=z3g b a m n d c lb la w ZC Zt hm (by omega) db da hb ha
  rwa [Nat.add_comm]at this
def z45(w:World)(v:Value)(z:Int):Prop :=
 ∃a c l,v=.agg #[.bool (decide (z<0)),.slice a (l:List Nat).length c]∧l.length≤c∧Nums .u32 w a l∧Rep l z.natAbs
theorem zi8{l:List Nat}{N:Nat}(h:Rep l N):0<l.length↔0<N:=by
 constructor
 ·intro hl
  have:=zis l h.2.1 (by intro e;rw[e]at hl;cases hl)
  rwa [h.2.2]at this
 ·intro hN
  cases l with
  |nil=>have:=h.2.2;simp[val]at this;omega
  |cons a l=>simp
def W3(w:World)(v1 v2:Array Value):World:=((w.alloc (.cells v1 241)).alloc (.cells v2 241)).alloc (.cells #[.bool false,.slice none 0 0] 241)
structure BelOf(w:World) where
 u:World
 h:Below w.heap.size w u
instance (w:World):Inhabited (BelOf w):=⟨⟨w,Below.refl _ _⟩⟩
theorem z56(w:World)(a:Option Addr)(n c:Nat)(l:List Nat)(z:Int)(g:Bool)(hg:g=decide (z<0))(hl:n=l.length)(hc:n≤c)(hn:Nums .u32 w a l)(hr:Rep l z.natAbs):z45 w (.agg #[.bool g,.slice a n c]) z:=by
 subst hl;exact⟨a,c,l,by rw[hg],hc,hn,hr⟩
theorem z3j(w:World)(o1 o2:Obj):Below w.heap.size w ((w.alloc o1).alloc o2):=((Below.refl _ _).alloc (Nat.le_refl _) _).alloc (by simp) _
theorem z6m(x:Int)(B d m:Nat)(h:B*d+m=x.natAbs)(hm:m<B) :
 (0≤x∨m=0→x / (B:Int)=(if x<0 then -(d:Int)else d)∧x % (B:Int)=m) ∧
 (x<0→0<m→x / (B:Int) = -((d+1:Nat):Int)∧x % (B:Int)=((B-m:Nat):Int)):=by
 have hB:(0:Int)<(B:Int):=by omega
 have hP:((B*d:Nat):Int)=(B:Int)*(d:Int):=by push_cast;rfl
 constructor
 ·intro hc
  apply(Int.ediv_emod_unique hB).2
  by_cases hx:x<0
  ·rw[if_pos hx,Int.mul_neg,←hP]
   refine⟨by omega,by omega,by omega⟩
  ·rw[if_neg hx,←hP]
   refine⟨by omega,by omega,by omega⟩
 ·intro hx h0
  apply(Int.ediv_emod_unique hB).2
  have e:(B:Int) * -((d+1:Nat):Int) = -(((B*d:Nat):Int)+B):=by
   rw[hP,Int.mul_neg];push_cast;rw[Int.mul_add,Int.mul_one]
  rw[e];refine⟨by omega,by omega,by omega⟩
theorem z6n(x y:Int)(d m:Nat)(h:y.natAbs*d+m=x.natAbs)(hm:m<y.natAbs) :
 (0≤x∨m=0→x / y=(if (decide (x<0) != decide (y<0))=true then -(d:Int)else d)∧x % y=m) ∧
 (x<0→0<m→x / y=(if (decide (x<0) != decide (y<0))=true then -((d+1:Nat):Int)else((d+1:Nat):Int))∧x % y=((y.natAbs-m:Nat):Int)):=by
 obtain⟨h1,h2⟩:=z6m x y.natAbs d m h hm
 by_cases hy:y<0
 ·have ey:y = -(y.natAbs:Int):=by omega
  constructor
  ·intro hc
   obtain⟨e1,e2⟩:=h1 hc;rw[ey,Int.ediv_neg,Int.emod_neg,←ey,e1,e2];refine⟨?_,rfl⟩
   by_cases hx:x<0<;>simp[hx,hy]
  ·intro hx h0
   obtain⟨e1,e2⟩:=h2 hx h0;rw[ey,Int.ediv_neg,Int.emod_neg,←ey,e1,e2];refine⟨?_,rfl⟩;simp[hx,hy]
 ·have ey:y=(y.natAbs:Int):=by omega
  constructor
  ·intro hc
   obtain⟨e1,e2⟩:=h1 hc;rw[←ey]at e1 e2;rw[e1,e2];refine⟨?_,rfl⟩
   by_cases hx:x<0<;>simp[hx,hy]
  ·intro hx h0
   obtain⟨e1,e2⟩:=h2 hx h0;rw[←ey]at e1 e2;rw[e1,e2];refine⟨?_,rfl⟩;simp[hx,hy]
theorem zrt(z:Int):bigZ (z.natAbs:Int)=bigZ z:=by unfold bigZ;simp
theorem zca{x z:Int}(h:z.natAbs≤x.natAbs)(hb:bigZ x=false):bigZ z=false:=by
 rw[←zrt]at hb ⊢;exact zjv h hb
def DmC(w:World)(gx:Nat)(nx ny:Bool)(v1 v2:Value)(x y:Int)(s9 s10:Value)(wx:World):Prop :=
 ∃a n c l a' n' c' l' ,s9=.slice a n c∧s10=.slice a' n' c'∧(l:List Nat).length=n∧(l':List Nat).length=n'∧n≤1000∧n'≤1000∧Nums .u32 wx a l∧Nums .u32 wx a' l' ∧
  (∃Q R:Nat,Rep l Q∧Rep l' R∧x / y=(if (nx != ny)=true then -(Q:Int)else Q)∧x % y=(R:Int)) ∧
  Box2 wx gx nx v1∧Box2 wx (gx+1) ny v2∧Below w.heap.size w wx
theorem z12{w wx:World}{gx:Nat}{nx ny:Bool}{v1 v2:Value}{x y:Int}{s9 s10:Value}{Q R K:Nat}(h1:MagAt wx s9 Q)(h2:MagAt wx s10 R)(b1:Q<Bs ^ K)(b2:R<Bs ^ K)(hK:K≤1000)
 (e1:x / y=(if (nx != ny)=true then -(Q:Int)else Q)) (e2:x % y=(R:Int)) (x1:Box2 wx gx nx v1) (x2:Box2 wx (gx+1) ny v2) (hb:Below w.heap.size w wx):DmC w gx nx ny v1 v2 x y s9 s10 wx:=by
 obtain⟨a,n,c,l,q1,q2,q3,_,q5,q6⟩:=h1.len b1;obtain⟨a',n',c',l',p1,p2,p3,_,p5,p6⟩:=h2.len b2;exact⟨a,n,c,l,a',n',c',l',q1,p1,q2,p2,by omega,by omega,q5,p5,⟨Q,R,q6,p6,e1,e2⟩,x1,x2,hb⟩
def QrE(w:World)(q r:List UInt8)(n:Int)(e:Ending)(w':World):Prop:=e=.returned (.tuple #[.string ⟨q.toArray⟩,.string ⟨r.toArray⟩,.int .i64 n])∧Below w.heap.size w w'
theorem zw6(s t:ByteArray)(x y:Int)(w:World)(hs:s.size≤100000)(ht:t.size≤100000)(hx:s.data.toList=txtZ x)(hy:t.data.toList=txtZ y)(bx:bigZ x=false)(byy:bigZ y=false)(h0:y≠0) :
 Calls Tryz.prog 217 #[.string s,.string t] w (QrE w (txtZ (x / y)) (txtZ (x % y)) 0):=by
 have Y5:bigZ (x / y)=false:=zca (Int.natAbs_ediv_le_natAbs x y) bx
 have Zb:bigZ (x % y)=false:=by
  refine zca (x:=y) ?_ byy;have:=Int.emod_lt x h0;have:=Int.emod_nonneg x h0;omega
 have HQ1:=Z9 Y5;have HQ2:=Z9 Zb;clear Y5 Zb;have hp:=zvs s t x y w hs ht hx hy bx byy;have ZZ:=zg8 bx;have Wa:=zg8 byy;have HP:=Z9 hp;have HBX:=Z9 ZZ;have HBY:=Z9 Wa;have BBX:=Z9 bx;have BBY:=Z9 byy;clear hp hx hy bx byy ZZ Wa;go_enter Tryz.func217,Tryz.ntmps217;go_wp2_with fail;refine HP.out.mono ?_;rintro e w1 ⟨a,c,la,b,d,lb,rfl,T6,Ta,Vr,Zf,UG,Zi,b1⟩;obtain⟨nx,YZ⟩:∃nx,nx=decide (x<0):=⟨_,rfl⟩
 obtain⟨ny,Wq⟩:∃ny,ny=decide (y<0):=⟨_,rfl⟩
 obtain⟨k1,Yy⟩:∃k1,k1=la.length:=⟨_,rfl⟩
 obtain⟨k2,YC⟩:∃k2,k2=lb.length:=⟨_,rfl⟩
 rw[←YZ,←Wq,←Yy,←YC];have HMA:Hid (z45 w1 (.agg #[.bool nx,.slice a k1 c]) x):=z56 w1 a k1 c la x nx YZ Yy (by omega) Vr UG;have HMB:Hid (z45 w1 (.agg #[.bool ny,.slice b k2 d]) y):=z56 w1 b k2 d lb y ny Wq YC (by omega) Zf Zi;have B1:=Z9 b1;have HNX:=Z9 YZ;have HNY:=Z9 Wq;have HK1:=Z9 Yy;have HK2:=Z9 YC;have RA:=Z9 UG;have RB:=Z9 Zi;have NA:=Z9 Vr;have NB:=Z9 Zf;have HLC:=Z9 T6;clear T6 Ta Vr Zf UG Zi b1 YZ Wq Yy YC;have hyp:0<y.natAbs:=by omega
 have hk:0<k2:=by rw[HK2.out];exact(zi8 RB.out).2 hyp
 have hkz:((k2:Int) == 0)=false:=by rw[beq_eq_false_iff_ne];omega
 have l1:=zb9 la _ KM RA.out HBX.out;have l2:=zb9 lb _ KM RB.out HBY.out;rw[ztz]at l1 l2
 have hdv:∀W,Below w1.heap.size w1 W→Calls Tryz.prog 227 #[.slice a k1 c,.slice b k2 d] W (zoh W x.natAbs y.natAbs):=fun W hW =>
  zkp a b k1 k2 c d x.natAbs y.natAbs la lb W HK1.out.symm HK2.out.symm (by rw[HK1.out];omega) (by rw[HK2.out];omega) (by rw[HK1.out];exact HLC.out) RA.out RB.out (NA.out.below hW) (NB.out.below hW) hyp
 have HDV:=Z9 hdv;have HYP:=Z9 hyp;have L2:=Z9 l2;have hdm:=z6n x y (x.natAbs / y.natAbs) (x.natAbs % y.natAbs) (Nat.div_add_mod _ _) (Nat.mod_lt _ hyp);rw[←HNX.out,←HNY.out]at hdm;have HDM:=Z9 hdm
 have HXN:Hid (nx=true↔x<0):=by have:=HNX.out;show nx=true↔x<0;rw[this,decide_eq_true_eq]
 clear hdm hdv hyp l1 l2 h0;go_wp2_with fail;obtain⟨W0,Z3⟩:∃W0,W0=(w1.alloc (.cells #[.bool nx,.slice a k1 c] 241)).alloc (.cells #[.bool ny,.slice b k2 d] 241):=⟨_,rfl⟩
 rw[←Z3]
 have Wx:Box2 W0 w1.heap.size nx (.slice a k1 c):=by rw[Z3];exact Box2.alloc (show Box2 (w1.alloc (.cells #[.bool nx,.slice a k1 c] 241)) w1.heap.size nx (.slice a k1 c)from World.alloc_heap_new w1 _) _
 have ZP:Box2 W0 (w1.heap.size+1) ny (.slice b k2 d):=by
  rw[Z3];have:=World.alloc_heap_new (w1.alloc (.cells #[.bool nx,.slice a k1 c] 241)) (.cells #[.bool ny,.slice b k2 d] 241);rw[World.size_alloc]at this;exact this
 have hbl1:Below w1.heap.size w1 W0:=by rw[Z3];exact z3j _ _ _
 refine(HDV.out _ hbl1).mono ?_;rintro e w5 ⟨v1,v2,rfl,m1,m2,b5⟩;have WK:x.natAbs / y.natAbs<Bs ^ KM:=Nat.lt_of_le_of_lt (Nat.div_le_self _ _) HBX.out;have XK:x.natAbs % y.natAbs<Bs ^ KM:=Nat.lt_trans (Nat.mod_lt _ HYP.out) HBY.out;obtain⟨a3,n3,c3,l3,rfl,e1,e2,e3,e4,e5⟩:=m1.len WK;obtain⟨a4,n4,c4,l4,rfl,f1,f2,f3,f4,f5⟩:=m2.len XK;have hA5:Box2 w5 w1.heap.size nx (.slice a k1 c):=(b5.block _ Wx.lt).trans Wx;have hB5:Box2 w5 (w1.heap.size+1) ny (.slice b k2 d):=(b5.block _ ZP.lt).trans ZP;have B5:Hid (Below w.heap.size w w5):=B1.out.trans ((hbl1.trans (b5.mono hbl1.size)).mono B1.out.size);have HB15:Hid (Below w1.heap.size w1 w5):=hbl1.trans (b5.mono hbl1.size)
 have M1:=Z9 m1;have M2:=Z9 m2;have A5:=Z9 hA5;have B5x:=Z9 hB5;have E1:=Z9 e1;have F1:=Z9 f1;have N4:=Z9 f4;have R4:=Z9 f5;have R3:=Z9 e5;have N3:=Z9 e4;have HQB:=Z9 WK;have HRB:=Z9 XK;have c0:=hA5.cell0;have c1:=hB5.cell0;have c2:=hB5.cell1;rw[ztz]at e2 f2;have Tc:0<n4↔0<x.natAbs % y.natAbs:=by rw[←f1];exact zi8 f5
 have HN4:=Z9 Tc;clear Wx ZP hbl1 Z3 b5 m1 m2 hA5 hB5 e1 f1 f4 f5 e4 e5 WK XK Tc;obtain⟨gx,UV⟩:∃gx,gx=w1.heap.size:=⟨_,rfl⟩
 rw[←UV]at c0 c1 c2 A5 B5x ⊢;have HGX:Hid (w.heap.size≤gx):=by rw[UV];exact B1.out.size
 clear UV
 go_upto_region 7 with(fail)
 go_cut [39] (fun s wx=>s=.bool (nx && decide (0<n4))∧w5=wx)
 case first =>
  cases nx with
  |false =>
   go_wp2_with fail;go_meet;exact⟨rfl,rfl⟩
  |true =>
   go_wp2_with fail;go_meet;exact⟨by simp,rfl⟩
 case rest =>
 obtain⟨rfl,rfl⟩:=hcut;obtain⟨T,hT⟩:∃T,T=(nx && decide (0<n4)):=⟨_,rfl⟩
 rw[←hT];have HT:=Z9 hT;clear hT
 go_upto_if 39 with(fail)
 go_cut [9,10] (DmC w gx nx ny (.slice a k1 c) (.slice b k2 d) x y)
 case first =>
  cases T with
  |false =>
   have HX:Hid (DmC w gx nx ny (.slice a k1 c) (.slice b k2 d) x y (.slice a3 n3 c3) (.slice a4 n4 c4) w5):=by
    have h:0≤x∨x.natAbs % y.natAbs=0:=by
     have h1:=HT.out;have h2:=HXN.out;have h3:=HN4.out
     cases nx with
     |false=>exact .inl (by
      rcases Int.lt_or_le x 0 with h |h;·have:=h2.2 h;cases this
      ·exact h)
     |true=>exact .inr (by simp at h1;omega)
    exact z12 M1.out M2.out HQB.out HRB.out (by rw[ztz];omega) (HDM.out.1 h).1 (HDM.out.1 h).2 A5.out B5x.out B5.out
   go_wp2_with fail;go_meet;exact HX.out
  |true =>
   have hT:=HT.out.symm;rw[Bool.and_eq_true,decide_eq_true_eq]at hT;have Xd:x<0:=HXN.out.1 hT.1;have h4:=hT.2;have HXA:=Z9 hT;clear hT;have Ym:=HN4.out.1 h4;have hdm:=HDM.out.2 Xd Ym;have HD2:=Z9 hdm
   have Yg:∀W b2,Below w5.heap.size w5 W→W.cell? ⟨b2,0,none⟩=some (.int .u32 1)→Calls Tryz.prog 239 #[.slice a3 n3 c3,.slice (some ⟨b2,0,none⟩) 1 1] W (zhy W (x.natAbs / y.natAbs+1)):=fun W b2 hW hc=>by
    have:=zy5 a3 (some ⟨b2,0,none⟩) n3 1 c3 1 l3 [1] W E1.out rfl (by omega) (by omega) R3.out.1 (by simp;decide) (N3.out.below hW) (fun i hi=>by
     obtain rfl:i=0:=by simpa using hi
     exact⟨b2,0,rfl,zp3 (a:=⟨b2,0,none⟩) hc,hc⟩)
    rwa [R3.out.2.2,show val [1]=1 by simp[val]]at this
   have hmi:∀W,Below w5.heap.size w5 W→Calls Tryz.prog 240 #[.slice b k2 d,.slice a4 n4 c4] W (zhy W (y.natAbs-x.natAbs % y.natAbs)):=fun W hW=>by
    have Z7:x.natAbs % y.natAbs<y.natAbs:=Nat.mod_lt _ HYP.out;have:=zna b a4 k2 n4 d c4 lb l4 W HK2.out.symm F1.out (by rw[HK2.out];have:=L2.out;omega) (by rw[HK2.out,←F1.out];exact zel lb l4 _ _ RB.out R4.out (by omega)) RB.out.1 R4.out.1 (by rw[RB.out.2.2,R4.out.2.2];omega) ((NB.out.below HB15.out).below hW) (N4.out.below hW)
    rwa [RB.out.2.2,R4.out.2.2]at this
   have HPL:=Z9 Yg;have HMI:=Z9 hmi
   have HALL:Hid (∀W:World,Below w5.heap.size w5 W→W.cell? ⟨gx+1,1,none⟩=some (.slice b k2 d)∧Below w5.heap.size w5 W):=fun W h=>⟨Box2.cell1 ((h.block _ B5x.out.lt).trans B5x.out),h⟩
   have ZA:Hid (Below w5.heap.size w5 w5.drew):=(Below.refl _ _).drew
   have HAL:Hid (∀o:Obj,Below w5.heap.size w5 (w5.alloc o).drew):=fun o=>((Below.refl _ _).alloc (Nat.le_refl _) _).drew
   have HCE:Hid ((w5.alloc (.cells #[.int .u32 1] 247)).drew.cell? ⟨w5.heap.size,0,none⟩=some (.int .u32 1)):=(zck (w:=w5) (c:=#[.int .u32 1]) (l:=[.int .u32 1]) (t:=247) rfl rfl).cell (i:=0) (by simp);clear Xd Ym hdm Yg hmi
   go_upto_region 8 with(fail)
   go_region_held3 (fun W=>W.cell? ⟨gx+1,1,none⟩=some (.slice b k2 d)∧Below w5.heap.size w5 W)
    ((first |with_reducible exact HALL.out _ ZA.out |with_reducible exact HALL.out _ (Below.refl _ _) |with_reducible exact HALL.out _ (HG2.out) |with_reducible exact HALL.out _ (HG1.out) |with_reducible exact HALL.out _ (HAL.out _)))
    ((first
     |(go_at_call 239;refine(HPL.out _ w5.heap.size (HAL.out _) HCE.out).mono ?_;rintro e wp ⟨v,l,rfl,ho,hr,hb⟩;have hP:MagAt wp v _:=MagAt.of_own ho hr;have HG1:Hid (Below w5.heap.size w5 wp):=(HAL.out _).trans (hb.mono (HAL.out _).size);have HPX:=Z9 hP;clear ho hr hb hP)
     |(go_at_call 240;refine(HMI.out _ HG1.out).mono ?_;rintro e wk ⟨v',l',rfl,ho,hr,hb⟩;have hP:MagAt wk v' _:=MagAt.of_own ho hr;have HG2:Hid (Below w5.heap.size w5 wk):=HG1.out.trans (hb.mono HG1.out.size);have HPM:=Z9 hP;have HPX2:=Z9 (HPX.out.below hb);clear ho hr hb hP)))
   all_goals
    go_wp2_with fail;go_meet;refine z12 (K:=KM+1) HPX2.out HPM.out ?_ ?_ (by rw[ztz];omega) HD2.out.1 HD2.out.2 ((HG2.out.block _ A5.out.lt).trans A5.out) ((HG2.out.block _ B5x.out.lt).trans B5x.out) (B5.out.trans (HG2.out.mono B5.out.size))
    ·have h1:=HQB.out
     have h2:Bs ^ KM<Bs ^ (KM+1):=Nat.pow_lt_pow_right zxw (Nat.lt_succ_self _);omega
    ·have h1:=HBY.out
     have h2:Bs ^ KM<Bs ^ (KM+1):=Nat.pow_lt_pow_right zxw (Nat.lt_succ_self _);omega
 case rest =>
  obtain⟨a6,n6,c6,l6,a7,n7,c7,l7,rfl,rfl,g1,g2,g3,g4,g5,g6,⟨Q,R,g7,g8,g9,g10⟩,g11,g12,g13⟩:=hcut;have Yo:=ziq (nx != ny) a6 n6 c6 Q l6 wc g1 (by omega) g7 g5;rw[←g9]at Yo
  have Vd:∀W,Below wc.heap.size wc W→Calls Tryz.prog 228 #[.agg #[.bool false,.slice a7 n7 c7]] W (zog W (x % y)):=fun W hW=>by
   have:=ziq false a7 n7 c7 R l7 W g2 (by omega) g8 (g6.below hW)
   rwa [if_neg (by decide),←g10]at this
  have YE:=Z9 Yo;have HW2:=Z9 Vd;have BC:=Z9 g13;have q0:=g11.cell0;have q1:=g12.cell0;clear Yo Vd g1 g2 g5 g6 g7 g8 g9 g10 g11 g12 g13 c0 c1 c2;go_wp2_with fail;refine YE.out.mono ?_;rintro e w7 ⟨hq,b7⟩
  rcases hq with⟨hq,_⟩ |⟨_,rfl⟩
  ·rw[HQ1.out]at hq;cases hq
  have B7:=Z9 b7;clear b7;go_wp2_with fail;refine(HW2.out _ B7.out).mono ?_;rintro e w8 ⟨hq,b8⟩
  rcases hq with⟨hq,_⟩ |⟨_,rfl⟩
  ·rw[HQ2.out]at hq;cases hq
  have B8:=Z9 b8;clear b8;go_wp2_with fail;go_ret3;have h7:=BC.out.trans (B7.out.mono BC.out.size);exact⟨rfl,h7.trans (B8.out.mono h7.size)⟩
end Go.Proofs.YtkobkpepgdddeaaGreatDoor
