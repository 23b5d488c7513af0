/-
  The program's read: the magnitude of a text. No condition.
-/
import Derived.Test.YtkobkpepgdddeaaGreatDoorZad
import Derived.Outline
import Derived.RegionIn
import Derived.RegionTactic
namespace Go.Proofs.YtkobkpepgdddeaaGreatDoor
open Go.RowKit Go.Shelf
set_option maxHeartbeats 16000000
set_option maxRecDepth 100000
attribute [local go_sem] Oper.semAt_some
theorem zfs(l:List UInt8)(c:UInt8):dval (za3 (l ++ [c]))=(c.toNat-48)+10*dval (za3 l):=by
 unfold za3;simp[dval]
theorem ztg(D:List Nat)(m:Nat):val ((List.range m).map fun k=>dval ((D.drop (9*k)).take 9))+Bs ^ m*dval (D.drop (9*m))=dval D:=by
 induction m with
 |zero=>simp[val]
 |succ m ih =>
  rw[List.range_succ,List.map_append,List.map_cons,List.map_nil,zcv,List.length_map,List.length_range];have h1:=zdl (D.drop (9*m)) 9;rw[List.drop_drop,show 9*m+9=9*(m+1)by omega]at h1;rw[h1]at ih;rw[Nat.pow_succ];have hB:Bs=10 ^ 9:=rfl;rw[←hB]at ih;generalize val ((List.range m).map fun k=>dval ((D.drop (9*k)).take 9))=V at *;generalize dval ((D.drop (9*m)).take 9)=x at *;generalize dval (D.drop (9*(m+1)))=y at *;generalize Bs ^ m=P at *;generalize Bs=b at *
  grind
theorem zk0(T:List UInt8)(k:Nat)(h:9*k≤T.length):za3 ((T.drop (T.length-9*(k+1))).take (T.length-9*k-(T.length-9*(k+1))))=((za3 T).drop (9*k)).take 9:=by
 unfold za3;rw[←List.map_drop,←List.map_take]
 congr 1
 apply List.ext_getElem?;intro i
 have Z5:((T.drop (T.length-9*(k+1))).take (T.length-9*k-(T.length-9*(k+1)))).length=T.length-9*k-(T.length-9*(k+1)):=by
  rw[List.length_take,List.length_drop];omega
 by_cases hi:i<T.length-9*k-(T.length-9*(k+1))
 ·rw[List.getElem?_reverse (by omega),Z5,List.getElem?_take_of_lt (by omega),List.getElem?_drop,List.getElem?_take_of_lt (by omega),List.getElem?_drop,List.getElem?_reverse (by omega)]
  congr 1;omega
 ·rw[List.getElem?_eq_none (by rw[List.length_reverse,Z5];omega),List.getElem?_eq_none]
  rw[List.length_take,List.length_drop,List.length_reverse];omega
def grp(t:ByteArray)(k:Nat):Nat:=dval (za3 (zdx t k).data.toList)
def Box2(W:World)(B:Nat)(neg:Bool)(v:Value):Prop:=W.heap[B]?=some (.cells #[.bool neg,v] 241 (0,0))
theorem Box2.lt{W:World}{B:Nat}{neg:Bool}{v:Value}(h:Box2 W B neg v):B<W.heap.size:=(Z8 h)
theorem Box2.cell0{W:World}{B:Nat}{neg:Bool}{v:Value}(h:Box2 W B neg v):W.cell? ⟨B,0,none⟩=some (.bool neg):=by
 simp[World.cell?,show W.heap[B]?=_ from h]
theorem Box2.cell1{W:World}{B:Nat}{neg:Bool}{v:Value}(h:Box2 W B neg v):W.cell? ⟨B,1,none⟩=some v:=by
 simp[World.cell?,show W.heap[B]?=_ from h]
theorem Box2.frozen{W:World}{B:Nat}{neg:Bool}{v:Value}(h:Box2 W B neg v)(i:Nat):W.frozen? ⟨B,i,none⟩=false:=by
 simp[World.frozen?,show W.heap[B]?=_ from h]
theorem Box2.kept{W W':World}{row:Option Nat}{B:Nat}{neg:Bool}{v:Value}(h:Box2 W B neg v)(hg:W.grownBy W' row)(ZT:some B≠row):Box2 W' B neg v:=(hg.block B h.lt ZT).trans h
theorem Box2.alloc{W:World}{B:Nat}{neg:Bool}{v:Value}(h:Box2 W B neg v)(o:Obj):Box2 (W.alloc o) B neg v:=h.kept (World.grownBy_alloc W o none) (by simp)
theorem Box2.set1{W:World}{B:Nat}{neg:Bool}{v:Value}(v':Value)(h:Box2 W B neg v):Box2 (W.setCell ⟨B,1,none⟩ v') B neg v':=by
 unfold Box2 at h ⊢;simp only[World.setCell,Array.getElem?_modify];simp[h]
theorem Box2.set0{W:World}{B:Nat}{neg:Bool}{v:Value}(b:Bool)(h:Box2 W B neg v):Box2 (W.setCell ⟨B,0,none⟩ (.bool b)) B b v:=by
 unfold Box2 at h ⊢;simp only[World.setCell,Array.getElem?_modify];simp[h]
theorem Box2.other{W:World}{B:Nat}{neg:Bool}{v:Value}(h:Box2 W B neg v){a:Addr}(ha:B≠a.block)(u:Value):Box2 (W.setCell a u) B neg v:=(Below.heap_setCell W a u B ha).trans h
theorem ztt(t:ByteArray)(k:Nat)(h:9*k≤t.size):za3 (zdx t k).data.toList=((za3 t.data.toList).drop (9*k)).take 9:=by
 unfold zdx;rw[Lib.extract_data];have:=zk0 t.data.toList k (by rw[zab];exact h);rw[zab]at this;exact this
theorem z1z(t:ByteArray)(k:Nat)(h:∀c ∈ t.data.toList,48≤c.toNat∧c.toNat≤57):grp t k<Bs:=by
 have hd:∀c ∈ (zdx t k).data.toList,48≤c.toNat∧c.toNat≤57:=fun c hc=>by
  unfold zdx at hc;rw[Lib.extract_data]at hc;exact h c (List.mem_of_mem_drop (List.mem_of_mem_take hc))
 have h1:=zeh (za3 (zdx t k).data.toList) (zh5 _ hd)
 have h2:(za3 (zdx t k).data.toList).length≤9:=by
  unfold za3 zdx;rw[List.length_map,List.length_reverse,zab];simp;omega
 have h3:10 ^ (za3 (zdx t k).data.toList).length≤10 ^ 9:=Nat.pow_le_pow_right (by omega) h2;have h4:Bs=10 ^ 9:=rfl;unfold grp;omega
theorem zkl(t:ByteArray)(N m:Nat)(hN:t.data.toList=txtN N)(h1:t.size≤9*m)(h2:9*m<t.size+9):val ((List.range m).map (grp t))=N:=by
 have h:=ztg (za3 t.data.toList) m;have hl:(za3 t.data.toList).length=t.size:=by unfold za3;rw[List.length_map,List.length_reverse,zab]
 rw[List.drop_eq_nil_of_le (by omega)]at h
 have e:(List.range m).map (grp t)=(List.range m).map fun k=>dval (((za3 t.data.toList).drop (9*k)).take 9):=by
  refine List.map_congr_left fun k hk => ?_
  have:=List.mem_range.1 hk;unfold grp;rw[ztt t k (by omega)]
 rw[e];have hv:dval (za3 t.data.toList)=N:=by rw[hN,zf0,zbb]
 rw[hv]at h;simpa[dval]using h
def zl6(w:World)(z:Int)(e:Ending)(w':World):Prop :=
 ∃a c l,e=.returned (.agg #[.bool (decide (z<0)),.slice a (l:List Nat).length c])∧l.length≤c∧w'.ownsRow w.heap.size 247 1 (.slice a l.length c) l.length (nums .u32 l)∧Rep l z.natAbs∧Below w.heap.size w w'
theorem zja{w:World}{B B' e n:Nat}{v:Value}{xs:List Value}(h:w.ownsRow B e 1 v n xs)(hB:B'≤B):w.ownsRow B' e 1 v n xs:=by
 obtain⟨h1,h2⟩:=h;refine⟨h1,?_⟩
 rcases h2 with h |⟨g,cap,cur,e1,e2,e3⟩
 ·exact .inl h
 ·exact .inr ⟨g,cap,cur,e1,Nat.le_trans hB e2,e3⟩
def z1a(w:World)(neg:Bool)(t:ByteArray)(pre:List Nat)(W:World):Prop :=
 (∃v,Box2 W (w.heap.size+1) neg v∧W.ownsRow (w.heap.size+3) 247 1 v pre.length (nums .u32 (pre.map (grp t))))∧Box2 W w.heap.size false (.slice none 0 0)∧Below w.heap.size w W∧w.heap.size+3≤W.heap.size
theorem zi9(w:World)(neg:Bool)(t:ByteArray)(W0:World)(h1:Box2 W0 w.heap.size false (.slice none 0 0))(h2:Box2 W0 (w.heap.size+1) neg (.slice none 0 0))(h3:Below w.heap.size w W0)(h4:w.heap.size+3≤W0.heap.size):z1a w neg t [] W0 :=
 ⟨⟨_,h2,World.ownsRow_nil _ _ _ _⟩,h1,h3,h4⟩
theorem zrs{W:World}{B:Nat}{neg:Bool}{v:Value}(h:Box2 W B neg v){row:Option Nat}{C:Nat}(hr:∀r,row=some r→C≤r∧∃o:Obj,W.heap[r]?=some o∧o.isCells=false):some B≠row:=by
 intro e;obtain⟨_,o,ho,hc⟩:=hr B e.symm;rw[show W.heap[B]?=_ from h]at ho
 injection ho with ho
 subst ho
 cases hc
theorem zy9{W:World}{base e n:Nat}{v:Value}{xs:List Value}(h:W.ownsRow base e 1 v n xs){row:Option Nat}{C:Nat}(hr:∀r,row=some r→C≤r∧∃o:Obj,W.heap[r]?=some o∧o.isCells=false):v.ownBlock=none∨v.ownBlock≠row:=by
 rcases h.2 with⟨rfl,_⟩ |⟨g,cap,cur,rfl,_,hg,_⟩
 ·exact .inl rfl
 ·right
  intro e;obtain⟨_,o,ho,hc⟩:=hr g e.symm;rw[hg]at ho
  injection ho with ho
  subst ho
  cases hc
theorem zmt(w:World)(neg:Bool)(t:ByteArray)(W0:World)(hB:w.heap.size≤W0.heap.size):OwnFrom W0.heap.size (z1a w neg t):=by
 intro s W W' row ⟨⟨v,h1,h2⟩,h3,h4,h5⟩ hg hr;exact⟨⟨v,h1.kept hg (zrs h1 hr),h2.kept hg (zy9 h2 hr)⟩,h3.kept hg (zrs h3 hr),h4.grown hg h4.size (fun k hk=>by have:=(hr k hk).1;omega),Nat.le_trans h5 hg.size⟩
theorem zyx(s:ByteArray)(w:World)(hs:s.size≤100000)(N:Nat)(hN:s.data.toList=txtN N)(h0:0<s.size)(h1:((s[0].toNat:Int) == 45)=false) :
 Calls Tryz.prog 245 #[.string s] w (zl6 w N):=by
 refine(callsIn_wide (n:=6)).1 ?_;refine callsIn_of_wp_marks Tryz.func245 rfl trivial ?_ rfl;simp only[Tryz.ntmps245,List.size_toArray,List.length_cons,List.length_nil,Nat.reduceAdd,Nat.reduceSub,Array.replicate_succ,Array.replicate_zero,List.push_toArray,List.append_toArray,List.nil_append,List.cons_append]
 have hT:∀f,Fence.wide.fn f:=fun _=>trivial
 gi_wp2_with (gi_at_call 257;refine(znl Fence.wide _ trivial rfl _ _).mono ?_;rintro e w' ⟨rfl,rfl⟩);obtain⟨W0,Z3⟩:∃W0,W0=((w.alloc (.cells #[.bool false,.slice none 0 0] 241)).alloc (.cells #[.bool false,.slice none 0 0] 241)).alloc (.cells #[.string s] 9):=⟨_,rfl⟩
 have Zo:W0.heap.size=w.heap.size+3:=by rw[Z3];simp
 have hR0:Box2 W0 w.heap.size false (.slice none 0 0):=by rw[Z3];exact Box2.alloc (Box2.alloc (show Box2 (w.alloc (.cells #[.bool false,.slice none 0 0] 241)) w.heap.size false (.slice none 0 0)from World.alloc_heap_new w _) _) _
 have ZP:Box2 W0 (w.heap.size+1) false (.slice none 0 0):=by
  rw[Z3];refine Box2.alloc ?_ _;have:=World.alloc_heap_new (w.alloc (.cells #[.bool false,.slice none 0 0] 241)) (.cells #[.bool false,.slice none 0 0] 241);rw[World.size_alloc]at this;exact this
 have Ut:Boxed W0 (w.heap.size+2) 9 (.string s):=by
  rw[Z3];have:=Boxed.new ((w.alloc (.cells #[.bool false,.slice none 0 0] 241)).alloc (.cells #[.bool false,.slice none 0 0] 241)) 9 (.string s);rw[World.size_alloc,World.size_alloc]at this;exact this
 have Z6:Below w.heap.size w W0:=by rw[Z3];exact(((Below.refl _ w).alloc (Nat.le_refl _) _).alloc (by simp) _).alloc (by simp;omega) _
 rw[←Z3];clear Z3
 have Yq:Hid (∀c ∈ s.data.toList,48≤c.toNat∧c.toNat≤57):=by show ∀c ∈ _,_;rw[hN];exact zh8 N
 have hsz2:=Z9 Zo;obtain⟨i0,hi,ZN,ZO,ZD⟩:=info_parts zfq;obtain⟨m,Xk,W9⟩:∃m,s.size≤9*m∧9*m<s.size+9:=⟨(s.size+8) / 9,by omega,by omega⟩
 refine wpIn_rangeFunc_ownG rfl (by omega) (gf:=262) (lb:=#[.pointer (some ⟨w.heap.size+2,0,none⟩)]) rfl trivial (enters_of Tryz.func262 (by kernel_rfl) rfl)
  (zhx Fence.wide _ trivial rfl (by omega) (w.heap.size+2) m s (by omega) Xk W9 W0 Ut) znj (znk (by omega)) (Below.refl _ _) (fun _=>rfl)
  (z1a w false s) (fun _ _ _=>False) (zmt w false s W0 (by omega)) (fun _ _ _ _ _ hs _ _=>hs) (zi9 w false s W0 hR0 ZP Z6 (by omega)) ?a1 ?assign ?body ?done ?stop
 case assign =>
  intro l x W K hK;gi_wp2;exact hK
 case body =>
  rintro l pre x W ⟨⟨v,ZZ,YU⟩,Yv,Zu,Wz⟩ Z7
  have hch:∀c ∈ (zdx s x).data.toList,48≤c.toNat∧c.toNat≤57:=fun c hc=>by
   unfold zdx at hc;rw[Lib.extract_data]at hc;exact Yq.out c (List.mem_of_mem_drop (List.mem_of_mem_take hc))
  have X5:(zdx s x).size≤9:=by unfold zdx;simp;omega
  obtain⟨g,hg⟩:∃g,g=zdx s x:=⟨_,rfl⟩
  have Xj:grp s x=dval (za3 g.data.toList):=by rw[hg];rfl
  rw[←hg]at hch X5 ⊢;have HCH:=Z9 hch;have HGV:=Z9 Xj;have HRES:=Z9 Yv;have HBL:=Z9 Zu;have HROW:=Z9 YU;have HBX:=Z9 ZZ
  have hT2:∀f,(Fence.wide.inRound l).fn f:=fun _=>trivial
  clear hg Xj hch Yv Zu YU ZZ hT;gi_wp2;gi_loopw [6,20] (fun vv iv wr=>(∃k:Nat,k≤g.size∧iv=.int .i64 k∧vv=.int .u32 (dval (za3 (g.data.toList.take k)):Nat))∧wr=W) (fun _ iv _=>g.size-(intOf iv).toNat)
  case atStart=>exact⟨⟨0,Nat.zero_le _,rfl,by simp[za3,dval]⟩,rfl⟩
  case round =>
   obtain⟨⟨k,hk,rfl,rfl⟩,rfl⟩:=hrel;obtain⟨vv,Xt⟩:∃vv,vv=dval (za3 (g.data.toList.take k)):=⟨_,rfl⟩
   rw[←Xt];have HVV:=Z9 Xt
   by_cases Wm:k<g.size
   ·have hvb:vv<100000000:=by
     rw[Xt];have h1:=zeh (za3 (g.data.toList.take k)) (zh5 _ (fun c hc=>HCH.out c (List.mem_of_mem_take hc)));have h2:(za3 (g.data.toList.take k)).length≤8:=by unfold za3;rw[List.length_map,List.length_reverse,List.length_take];omega
     have h3:10 ^ (za3 (g.data.toList.take k)).length≤10 ^ 8:=Nat.pow_le_pow_right (by omega) h2;omega
    have hcd:=HCH.out _ (zc9 g k Wm);obtain⟨y,hy⟩:∃y,y=g[k].toNat-48:=⟨_,rfl⟩
    have hyI:((g[k].toNat:Int)-48)=(y:Int):=by omega
    have hyb:y<10:=by omega
    have YZ:dval (za3 (g.data.toList.take (k+1)))=vv*10+y:=by
     rw[zdv g k Wm,zfs,←HVV.out,←hy];omega
    have HNX:=Z9 YZ;obtain⟨c1,c2⟩:=hcd;clear Xt hy YZ;gi_wp2;go_roundw
    case rel=>exact⟨⟨k+1,by omega,by go_num,by rw[HNX.out];congr 1⟩,trivial⟩
    case measure=>simp[intOf]<;>omega
   ·have hkg:k=g.size:=by omega
    have hval:vv=grp s x:=by rw[Xt,hkg,List.take_of_length_le (by rw[zab];omega)];exact HGV.out.symm
    have HVAL:=Z9 hval;have Z1:=HBX.out.cell1;clear Xt hkg hval;have hpm:pre.length<100000:=by omega
    obtain⟨pl,Yg⟩:∃pl,pl=pre.length:=⟨_,rfl⟩
    have HROW1:=HROW.out;rw[←Yg]at hpm HROW1;have Ys:=Z9 HROW1;have HPL:=Z9 Yg;clear HROW1 Yg;gi_wp2_with (gi_at_builtin;refine wpListIn_append_own _ rfl (.tmp 33) (.tmp 35) 239 rfl (w.heap.size+3) 247 i0 (.int .u32 0) 1 4 Tryz.underlying239 hi ZN ZO ZD rfl (by decide) _ _ _ rfl (Ys.out.alloc _) ⟨wr.heap.size,0,none⟩ 1 1 [.int .u32 (vv:Int)] rfl rfl (cell_one_new _ _ _) (by simp[Value.oneCell']) ?c3 ?c4 ?c5 ?_)
    case c3=>unfold maxLen;omega
    case c4=>omega
    case c5=>simp;omega
    intro v' w1 ZV Z2 _;obtain⟨g',cap',rfl⟩:=ownsRow_succ ZV
    have Zf:∀B,B<w.heap.size+3→some B≠v.ownBlock:=fun B hB e=>by have:=(Ys.out.lt B e.symm).1;omega
    have bx1:Box2 w1 (w.heap.size+1) false v:=(HBX.out.alloc _).kept Z2 (Zf _ (by omega));have X0:=bx1.cell1;have hf1:=bx1.frozen 1;have hnb2:w1.grownBy (w1.setCell ⟨w.heap.size+1,1,none⟩ (.slice (some ⟨g',0,none⟩) (pl+1) cap')) (some (w.heap.size+1)):=za1 (zb5 _ _) (.inl rfl) _;have BX2:=Z9 (bx1.set1 (.slice (some ⟨g',0,none⟩) (pl+1) cap'));have Zk:=ZV.kept hnb2 (.inr (fun e=>by have:=(ZV.lt _ e).1;omega));rw[zbo,HVAL.out,show List.map (grp s) pre ++ [grp s x]=List.map (grp s) (pre ++ [x])by simp,HPL.out]at Zk;have HO2:=Z9 Zk;have RES2:Hid (Box2 (w1.setCell ⟨w.heap.size+1,1,none⟩ (.slice (some ⟨g',0,none⟩) (pl+1) cap')) w.heap.size false (.slice none 0 0)):=((HRES.out.alloc _).kept Z2 (Zf _ (by omega))).other (by show w.heap.size≠w.heap.size+1;omega) _
    have BL1:Below w.heap.size w w1:=(HBL.out.alloc HBL.out.size _).grown Z2 (by simp;omega) (fun k hk=>by have:=(Ys.out.lt k hk).1;omega);have BL2:Hid (Below w.heap.size w (w1.setCell ⟨w.heap.size+1,1,none⟩ (.slice (some ⟨g',0,none⟩) (pl+1) cap'))):=BL1.setCell (p:=⟨w.heap.size+1,1,none⟩) (by show w.heap.size≤w.heap.size+1;omega) _
    have SZ2:Hid (w.heap.size+3≤(w1.setCell ⟨w.heap.size+1,1,none⟩ (.slice (some ⟨g',0,none⟩) (pl+1) cap')).heap.size):=by
     have:=Z2.size;simp at this;show _≤_;simp[World.setCell];omega
    have KF2:Hid (KeepsFrom W0.heap.size wr (w1.setCell ⟨w.heap.size+1,1,none⟩ (.slice (some ⟨g',0,none⟩) (pl+1) cap'))):=by
     refine KeepsOthers.from (((KeepsOthers.alloc wr _).trans (KeepsOthers.of_grownBy Z2 fun j o ej hj => ?_)).trans (KeepsOthers.setCell _ _ _)) _
     rcases(Ys.out.alloc (.cells #[.int .u32 (vv:Int)] 247)).2 with⟨rfl,_⟩ |⟨g,cap,cur,rfl,_,Ya,_⟩
     ·simp[Value.ownBlock]at ej
     ·obtain rfl:g=j:=by simpa[Value.ownBlock]using ej
      rw[Ya]at hj;cases hj;rfl
    have KB2:Hid (zfb (w.heap.size+2) wr (w1.setCell ⟨w.heap.size+1,1,none⟩ (.slice (some ⟨g',0,none⟩) (pl+1) cap'))):=by
     show _=_
     rw[Below.heap_setCell w1 ⟨w.heap.size+1,1,none⟩ _ (w.heap.size+2) (by show w.heap.size+2≠w.heap.size+1;omega),Z2.block (w.heap.size+2) (by simp;omega) (Zf _ (by omega)),Below.heap_alloc wr _ _ (by omega)]
    clear ZV Z2 bx1 Zf hnb2 Zk BL1;gi_wp2;refine⟨KF2.out,KB2.out,⟨⟨_,BX2.out,?_⟩,RES2.out,BL2.out,SZ2.out⟩⟩;rw[List.length_append,←HPL.out];have:=HO2.out;rw[←HPL.out]at this;exact this
 case done =>
  rintro D ys W hD rfl ⟨⟨v,ZZ,YU⟩,Yv,Zu,Wz⟩ hK;rw[List.length_range]at YU;have hval:val ((List.range m).map (grp s))=N:=zkl s N m hN (by omega) (by omega)
  have YG:=zd1 YU (by omega) (by
   intro x hx;obtain⟨k,_,rfl⟩:=List.mem_map.1 hx
   exact z1z s k Yq.out)
  rw[hval]at YG;have Zp:=Z9 YG;have X0:=ZZ.cell1;have hf1:=ZZ.frozen 1;have HBX:=Z9 ZZ;have HRES:=Z9 Yv;have HBL:=Z9 Zu;have HK:=Z9 hK;clear YG hval YU ZZ Yv Zu hK;gi_wp2_with (gi_at_call 248;refine(callsIn_wide.2 Zp.out).mono ?_;rintro e w' ⟨⟨v2,l2,rfl,Zk,Zc⟩,rfl⟩;obtain⟨a2,c2,rfl,YK,Wi,WS⟩:=zau Zk;obtain⟨k2,YC⟩:∃k2,k2=l2.length:=⟨_,rfl⟩;rw[←YC]at Zk Wi ⊢;have HO2:=Z9 Zk;have YB:=Z9 Zc;have HN2:=Z9 WS;have HK2:=Z9 YC;have Yp:Box2 (W.setCell ⟨w.heap.size+1,1,none⟩ (.slice a2 k2 c2)) (w.heap.size+1) false (.slice a2 k2 c2):=HBX.out.set1 _;have XC:Box2 (W.setCell ⟨w.heap.size+1,1,none⟩ (.slice a2 k2 c2)) w.heap.size false (.slice none 0 0):=HRES.out.other (by show w.heap.size≠w.heap.size+1;omega) _;have e0:=Yp.cell0;have e1:=Yp.cell1;have e2:=XC.cell0;have e3:=XC.cell1;have e4:=XC.frozen 0;have e5:=XC.frozen 1;have HY2:=Z9 XC;clear Zk Zc WS YK YC Yp XC)
  have Vu:Box2 (((W.setCell ⟨w.heap.size+1,1,none⟩ (.slice a2 k2 c2)).setCell ⟨w.heap.size,0,none⟩ (.bool false)).setCell ⟨w.heap.size,1,none⟩ (.slice a2 k2 c2)) w.heap.size false (.slice a2 k2 c2):=(HY2.out.set0 false).set1 _;obtain⟨FW,XE⟩:∃FW,FW=((W.setCell ⟨w.heap.size+1,1,none⟩ (.slice a2 k2 c2)).setCell ⟨w.heap.size,0,none⟩ (.bool false)).setCell ⟨w.heap.size,1,none⟩ (.slice a2 k2 c2):=⟨_,rfl⟩
  have hKf:FW.heap[D]?=some (.deferred (some [])):=by
   rw[XE,Below.heap_setCell _ ⟨w.heap.size,1,none⟩ _ D (by show D≠w.heap.size;omega),Below.heap_setCell _ ⟨w.heap.size,0,none⟩ _ D (by show D≠w.heap.size;omega),Below.heap_setCell _ ⟨w.heap.size+1,1,none⟩ _ D (by show D≠w.heap.size+1;omega)];exact HK.out
  have hbF:Below w.heap.size w FW:=by rw[XE];exact((HBL.out.setCell (p:=⟨w.heap.size+1,1,none⟩) (by show w.heap.size≤w.heap.size+1;omega) _).setCell (p:=⟨w.heap.size,0,none⟩) (Nat.le_refl _) _).setCell (p:=⟨w.heap.size,1,none⟩) (Nat.le_refl _) _
  have hoF:FW.ownsRow (w.heap.size+3) 247 1 (.slice a2 k2 c2) k2 (nums .u32 l2):=by
   have ZT:∀B,B<w.heap.size+3→(Value.slice a2 k2 c2).ownBlock=none∨(Value.slice a2 k2 c2).ownBlock≠some B:=fun B hB=>.inr (fun e=>by have:=(HO2.out.lt B e).1;omega)
   rw[XE];exact((HO2.out.kept (za1 (zb5 _ (some (w.heap.size+1))) (.inl rfl) _) (ZT _ (by omega))).kept (za1 (zb5 _ (some w.heap.size)) (.inl rfl) _) (ZT _ (by omega))).kept (za1 (zb5 _ (some w.heap.size)) (.inl rfl) _) (ZT _ (by omega))
  rw[←XE]at Vu ⊢;have hrP:Box2 (FW.putObj D (.deferred none)) w.heap.size false (.slice a2 k2 c2):=Vu.kept (grownBy_putObj' FW D (.deferred none)) (fun e=>by injection e with e;omega);have hoP:=ownsRow_putObj hoF (.deferred none) hKf rfl;have hbP:Below w.heap.size w (FW.putObj D (.deferred none)):=hbF.grown (grownBy_putObj' FW D (.deferred none)) hbF.size (fun k e=>by injection e with e;omega);refine⟨by simp,.inl ⟨_,_,rfl,run_takeDeferred hKf,?_⟩⟩;have q0:=hrP.cell0;have q1:=hrP.cell1;refine⟨.agg #[.bool false,.slice a2 k2 c2],?_,a2,c2,l2,?_,by have:=HK2.out;omega,by rw[←HK2.out];exact zja hoP (by omega),YB.out,hbP⟩
  ·simp[results,Tryz.results245,go_sem,q0,q1]
  ·rw[HK2.out];simp
 case stop =>
  rintro D c pre W _ _ h _;exact h.elim
theorem zyy(s t:ByteArray)(w:World)(hs:t.size≤100000)(N:Nat)(hN:t.data.toList=txtN N)(SW:0<N)(h0:0<s.size)(h1:((s[0].toNat:Int) == 45)=true)(Vk:Hid (s.extract 1 s.size=t)) :
 Calls Tryz.prog 245 #[.string s] w (zl6 w (-(N:Int))):=by
 refine(callsIn_wide (n:=6)).1 ?_;refine callsIn_of_wp_marks Tryz.func245 rfl trivial ?_ rfl;simp only[Tryz.ntmps245,List.size_toArray,List.length_cons,List.length_nil,Nat.reduceAdd,Nat.reduceSub,Array.replicate_succ,Array.replicate_zero,List.push_toArray,List.append_toArray,List.nil_append,List.cons_append]
 have hT:∀f,Fence.wide.fn f:=fun _=>trivial
 have hT:∀f,Fence.wide.fn f:=fun _=>trivial
 gi_wp2;gi_region;rw[Vk.out];gi_wp2_with (gi_at_call 257;refine(znl Fence.wide _ trivial rfl _ _).mono ?_;rintro e w' ⟨rfl,rfl⟩);obtain⟨U0,UR⟩:∃U0,U0=((w.alloc (.cells #[.bool false,.slice none 0 0] 241)).alloc (.cells #[.bool true,.slice none 0 0] 241)).alloc (.cells #[.string t] 9):=⟨_,rfl⟩
 have usz:U0.heap.size=w.heap.size+3:=by rw[UR];simp
 have uR0:Box2 U0 w.heap.size false (.slice none 0 0):=by rw[UR];exact Box2.alloc (Box2.alloc (show Box2 (w.alloc (.cells #[.bool false,.slice none 0 0] 241)) w.heap.size false (.slice none 0 0)from World.alloc_heap_new w _) _) _
 have uB0:Box2 U0 (w.heap.size+1) true (.slice none 0 0):=by
  rw[UR];refine Box2.alloc ?_ _;have:=World.alloc_heap_new (w.alloc (.cells #[.bool false,.slice none 0 0] 241)) (.cells #[.bool true,.slice none 0 0] 241);rw[World.size_alloc]at this;exact this
 have uS0:Boxed U0 (w.heap.size+2) 9 (.string t):=by
  rw[UR];have:=Boxed.new ((w.alloc (.cells #[.bool false,.slice none 0 0] 241)).alloc (.cells #[.bool true,.slice none 0 0] 241)) 9 (.string t);rw[World.size_alloc,World.size_alloc]at this;exact this
 have ubel:Below w.heap.size w U0:=by rw[UR];exact(((Below.refl _ w).alloc (Nat.le_refl _) _).alloc (by simp) _).alloc (by simp;omega) _
 rw[←UR];obtain⟨W0,Z3⟩:∃W0,W0=U0.drew:=⟨_,rfl⟩
 have Zo:W0.heap.size=w.heap.size+3:=by rw[Z3];exact usz
 have hR0:Box2 W0 w.heap.size false (.slice none 0 0):=by rw[Z3];exact uR0
 have ZP:Box2 W0 (w.heap.size+1) true (.slice none 0 0):=by rw[Z3];exact uB0
 have Ut:Boxed W0 (w.heap.size+2) 9 (.string t):=by rw[Z3];exact uS0
 have Z6:Below w.heap.size w W0:=by rw[Z3];exact ubel.drew
 rw[←Z3];clear Z3 UR usz uR0 uB0 uS0 ubel
 have Yq:Hid (∀c ∈ t.data.toList,48≤c.toNat∧c.toNat≤57):=by show ∀c ∈ _,_;rw[hN];exact zh8 N
 have hsz2:=Z9 Zo;obtain⟨i0,hi,ZN,ZO,ZD⟩:=info_parts zfq;obtain⟨m,Xk,W9⟩:∃m,t.size≤9*m∧9*m<t.size+9:=⟨(t.size+8) / 9,by omega,by omega⟩
 refine wpIn_rangeFunc_ownG rfl (by omega) (gf:=262) (lb:=#[.pointer (some ⟨w.heap.size+2,0,none⟩)]) rfl trivial (enters_of Tryz.func262 (by kernel_rfl) rfl)
  (zhx Fence.wide _ trivial rfl (by omega) (w.heap.size+2) m t (by omega) Xk W9 W0 Ut) znj (znk (by omega)) (Below.refl _ _) (fun _=>rfl)
  (z1a w true t) (fun _ _ _=>False) (zmt w true t W0 (by omega)) (fun _ _ _ _ _ hs _ _=>hs) (zi9 w true t W0 hR0 ZP Z6 (by omega)) ?a1 ?assign ?body ?done ?stop
 case assign =>
  intro l x W K hK;gi_wp2;exact hK
 case body =>
  rintro l pre x W ⟨⟨v,ZZ,YU⟩,Yv,Zu,Wz⟩ Z7
  have hch:∀c ∈ (zdx t x).data.toList,48≤c.toNat∧c.toNat≤57:=fun c hc=>by
   unfold zdx at hc;rw[Lib.extract_data]at hc;exact Yq.out c (List.mem_of_mem_drop (List.mem_of_mem_take hc))
  have X5:(zdx t x).size≤9:=by unfold zdx;simp;omega
  obtain⟨g,hg⟩:∃g,g=zdx t x:=⟨_,rfl⟩
  have Xj:grp t x=dval (za3 g.data.toList):=by rw[hg];rfl
  rw[←hg]at hch X5 ⊢;have HCH:=Z9 hch;have HGV:=Z9 Xj;have HRES:=Z9 Yv;have HBL:=Z9 Zu;have HROW:=Z9 YU;have HBX:=Z9 ZZ
  have hT2:∀f,(Fence.wide.inRound l).fn f:=fun _=>trivial
  clear hg Xj hch Yv Zu YU ZZ hT;gi_wp2;gi_loopw [6,20] (fun vv iv wr=>(∃k:Nat,k≤g.size∧iv=.int .i64 k∧vv=.int .u32 (dval (za3 (g.data.toList.take k)):Nat))∧wr=W) (fun _ iv _=>g.size-(intOf iv).toNat)
  case atStart=>exact⟨⟨0,Nat.zero_le _,rfl,by simp[za3,dval]⟩,rfl⟩
  case round =>
   obtain⟨⟨k,hk,rfl,rfl⟩,rfl⟩:=hrel;obtain⟨vv,Xt⟩:∃vv,vv=dval (za3 (g.data.toList.take k)):=⟨_,rfl⟩
   rw[←Xt];have HVV:=Z9 Xt
   by_cases Wm:k<g.size
   ·have hvb:vv<100000000:=by
     rw[Xt];have h1:=zeh (za3 (g.data.toList.take k)) (zh5 _ (fun c hc=>HCH.out c (List.mem_of_mem_take hc)));have h2:(za3 (g.data.toList.take k)).length≤8:=by unfold za3;rw[List.length_map,List.length_reverse,List.length_take];omega
     have h3:10 ^ (za3 (g.data.toList.take k)).length≤10 ^ 8:=Nat.pow_le_pow_right (by omega) h2;omega
    have hcd:=HCH.out _ (zc9 g k Wm);obtain⟨y,hy⟩:∃y,y=g[k].toNat-48:=⟨_,rfl⟩
    have hyI:((g[k].toNat:Int)-48)=(y:Int):=by omega
    have hyb:y<10:=by omega
    have YZ:dval (za3 (g.data.toList.take (k+1)))=vv*10+y:=by
     rw[zdv g k Wm,zfs,←HVV.out,←hy];omega
    have HNX:=Z9 YZ;obtain⟨c1,c2⟩:=hcd;clear Xt hy YZ;gi_wp2;go_roundw
    case rel=>exact⟨⟨k+1,by omega,by go_num,by rw[HNX.out];congr 1⟩,trivial⟩
    case measure=>simp[intOf]<;>omega
   ·have hkg:k=g.size:=by omega
    have hval:vv=grp t x:=by rw[Xt,hkg,List.take_of_length_le (by rw[zab];omega)];exact HGV.out.symm
    have HVAL:=Z9 hval;have Z1:=HBX.out.cell1;clear Xt hkg hval;have hpm:pre.length<100000:=by omega
    obtain⟨pl,Yg⟩:∃pl,pl=pre.length:=⟨_,rfl⟩
    have HROW1:=HROW.out;rw[←Yg]at hpm HROW1;have Ys:=Z9 HROW1;have HPL:=Z9 Yg;clear HROW1 Yg;gi_wp2_with (gi_at_builtin;refine wpListIn_append_own _ rfl (.tmp 33) (.tmp 35) 239 rfl (w.heap.size+3) 247 i0 (.int .u32 0) 1 4 Tryz.underlying239 hi ZN ZO ZD rfl (by decide) _ _ _ rfl (Ys.out.alloc _) ⟨wr.heap.size,0,none⟩ 1 1 [.int .u32 (vv:Int)] rfl rfl (cell_one_new _ _ _) (by simp[Value.oneCell']) ?c3 ?c4 ?c5 ?_)
    case c3=>unfold maxLen;omega
    case c4=>omega
    case c5=>simp;omega
    intro v' w1 ZV Z2 _;obtain⟨g',cap',rfl⟩:=ownsRow_succ ZV
    have Zf:∀B,B<w.heap.size+3→some B≠v.ownBlock:=fun B hB e=>by have:=(Ys.out.lt B e.symm).1;omega
    have bx1:Box2 w1 (w.heap.size+1) true v:=(HBX.out.alloc _).kept Z2 (Zf _ (by omega));have X0:=bx1.cell1;have hf1:=bx1.frozen 1;have hnb2:w1.grownBy (w1.setCell ⟨w.heap.size+1,1,none⟩ (.slice (some ⟨g',0,none⟩) (pl+1) cap')) (some (w.heap.size+1)):=za1 (zb5 _ _) (.inl rfl) _;have BX2:=Z9 (bx1.set1 (.slice (some ⟨g',0,none⟩) (pl+1) cap'));have Zk:=ZV.kept hnb2 (.inr (fun e=>by have:=(ZV.lt _ e).1;omega));rw[zbo,HVAL.out,show List.map (grp t) pre ++ [grp t x]=List.map (grp t) (pre ++ [x])by simp,HPL.out]at Zk;have HO2:=Z9 Zk;have RES2:Hid (Box2 (w1.setCell ⟨w.heap.size+1,1,none⟩ (.slice (some ⟨g',0,none⟩) (pl+1) cap')) w.heap.size false (.slice none 0 0)):=((HRES.out.alloc _).kept Z2 (Zf _ (by omega))).other (by show w.heap.size≠w.heap.size+1;omega) _
    have BL1:Below w.heap.size w w1:=(HBL.out.alloc HBL.out.size _).grown Z2 (by simp;omega) (fun k hk=>by have:=(Ys.out.lt k hk).1;omega);have BL2:Hid (Below w.heap.size w (w1.setCell ⟨w.heap.size+1,1,none⟩ (.slice (some ⟨g',0,none⟩) (pl+1) cap'))):=BL1.setCell (p:=⟨w.heap.size+1,1,none⟩) (by show w.heap.size≤w.heap.size+1;omega) _
    have SZ2:Hid (w.heap.size+3≤(w1.setCell ⟨w.heap.size+1,1,none⟩ (.slice (some ⟨g',0,none⟩) (pl+1) cap')).heap.size):=by
     have:=Z2.size;simp at this;show _≤_;simp[World.setCell];omega
    have KF2:Hid (KeepsFrom W0.heap.size wr (w1.setCell ⟨w.heap.size+1,1,none⟩ (.slice (some ⟨g',0,none⟩) (pl+1) cap'))):=by
     refine KeepsOthers.from (((KeepsOthers.alloc wr _).trans (KeepsOthers.of_grownBy Z2 fun j o ej hj => ?_)).trans (KeepsOthers.setCell _ _ _)) _
     rcases(Ys.out.alloc (.cells #[.int .u32 (vv:Int)] 247)).2 with⟨rfl,_⟩ |⟨g,cap,cur,rfl,_,Ya,_⟩
     ·simp[Value.ownBlock]at ej
     ·obtain rfl:g=j:=by simpa[Value.ownBlock]using ej
      rw[Ya]at hj;cases hj;rfl
    have KB2:Hid (zfb (w.heap.size+2) wr (w1.setCell ⟨w.heap.size+1,1,none⟩ (.slice (some ⟨g',0,none⟩) (pl+1) cap'))):=by
     show _=_
     rw[Below.heap_setCell w1 ⟨w.heap.size+1,1,none⟩ _ (w.heap.size+2) (by show w.heap.size+2≠w.heap.size+1;omega),Z2.block (w.heap.size+2) (by simp;omega) (Zf _ (by omega)),Below.heap_alloc wr _ _ (by omega)]
    clear ZV Z2 bx1 Zf hnb2 Zk BL1;gi_wp2;refine⟨KF2.out,KB2.out,⟨⟨_,BX2.out,?_⟩,RES2.out,BL2.out,SZ2.out⟩⟩;rw[List.length_append,←HPL.out];have:=HO2.out;rw[←HPL.out]at this;exact this
 case done =>
  rintro D ys W hD rfl ⟨⟨v,ZZ,YU⟩,Yv,Zu,Wz⟩ hK;rw[List.length_range]at YU;have hval:val ((List.range m).map (grp t))=N:=zkl t N m hN (by omega) (by omega)
  have YG:=zd1 YU (by omega) (by
   intro x hx;obtain⟨k,_,rfl⟩:=List.mem_map.1 hx
   exact z1z t k Yq.out)
  rw[hval]at YG;have Zp:=Z9 YG;have X0:=ZZ.cell1;have hf1:=ZZ.frozen 1;have HBX:=Z9 ZZ;have HRES:=Z9 Yv;have HBL:=Z9 Zu;have HK:=Z9 hK;clear YG hval YU ZZ Yv Zu hK;gi_wp2_with (gi_at_call 248;refine(callsIn_wide.2 Zp.out).mono ?_;rintro e w' ⟨⟨v2,l2,rfl,Zk,Zc⟩,rfl⟩;obtain⟨a2,c2,rfl,YK,Wi,WS⟩:=zau Zk;obtain⟨k2,YC⟩:∃k2,k2=l2.length:=⟨_,rfl⟩;rw[←YC]at Zk Wi ⊢;have HO2:=Z9 Zk;have YB:=Z9 Zc;have HN2:=Z9 WS;have HK2:=Z9 YC;have Yp:Box2 (W.setCell ⟨w.heap.size+1,1,none⟩ (.slice a2 k2 c2)) (w.heap.size+1) true (.slice a2 k2 c2):=HBX.out.set1 _;have XC:Box2 (W.setCell ⟨w.heap.size+1,1,none⟩ (.slice a2 k2 c2)) w.heap.size false (.slice none 0 0):=HRES.out.other (by show w.heap.size≠w.heap.size+1;omega) _;have e0:=Yp.cell0;have e1:=Yp.cell1;have e2:=XC.cell0;have e3:=XC.cell1;have e4:=XC.frozen 0;have e5:=XC.frozen 1;have HY2:=Z9 XC;clear Zk Zc WS YK YC Yp XC)
  have Vu:Box2 (((W.setCell ⟨w.heap.size+1,1,none⟩ (.slice a2 k2 c2)).setCell ⟨w.heap.size,0,none⟩ (.bool true)).setCell ⟨w.heap.size,1,none⟩ (.slice a2 k2 c2)) w.heap.size true (.slice a2 k2 c2):=(HY2.out.set0 true).set1 _;obtain⟨FW,XE⟩:∃FW,FW=((W.setCell ⟨w.heap.size+1,1,none⟩ (.slice a2 k2 c2)).setCell ⟨w.heap.size,0,none⟩ (.bool true)).setCell ⟨w.heap.size,1,none⟩ (.slice a2 k2 c2):=⟨_,rfl⟩
  have hKf:FW.heap[D]?=some (.deferred (some [])):=by
   rw[XE,Below.heap_setCell _ ⟨w.heap.size,1,none⟩ _ D (by show D≠w.heap.size;omega),Below.heap_setCell _ ⟨w.heap.size,0,none⟩ _ D (by show D≠w.heap.size;omega),Below.heap_setCell _ ⟨w.heap.size+1,1,none⟩ _ D (by show D≠w.heap.size+1;omega)];exact HK.out
  have hbF:Below w.heap.size w FW:=by rw[XE];exact((HBL.out.setCell (p:=⟨w.heap.size+1,1,none⟩) (by show w.heap.size≤w.heap.size+1;omega) _).setCell (p:=⟨w.heap.size,0,none⟩) (Nat.le_refl _) _).setCell (p:=⟨w.heap.size,1,none⟩) (Nat.le_refl _) _
  have hoF:FW.ownsRow (w.heap.size+3) 247 1 (.slice a2 k2 c2) k2 (nums .u32 l2):=by
   have ZT:∀B,B<w.heap.size+3→(Value.slice a2 k2 c2).ownBlock=none∨(Value.slice a2 k2 c2).ownBlock≠some B:=fun B hB=>.inr (fun e=>by have:=(HO2.out.lt B e).1;omega)
   rw[XE];exact((HO2.out.kept (za1 (zb5 _ (some (w.heap.size+1))) (.inl rfl) _) (ZT _ (by omega))).kept (za1 (zb5 _ (some w.heap.size)) (.inl rfl) _) (ZT _ (by omega))).kept (za1 (zb5 _ (some w.heap.size)) (.inl rfl) _) (ZT _ (by omega))
  rw[←XE]at Vu ⊢;have hrP:Box2 (FW.putObj D (.deferred none)) w.heap.size true (.slice a2 k2 c2):=Vu.kept (grownBy_putObj' FW D (.deferred none)) (fun e=>by injection e with e;omega);have hoP:=ownsRow_putObj hoF (.deferred none) hKf rfl;have hbP:Below w.heap.size w (FW.putObj D (.deferred none)):=hbF.grown (grownBy_putObj' FW D (.deferred none)) hbF.size (fun k e=>by injection e with e;omega);refine⟨by simp,.inl ⟨_,_,rfl,run_takeDeferred hKf,?_⟩⟩;have q0:=hrP.cell0;have q1:=hrP.cell1;refine⟨.agg #[.bool true,.slice a2 k2 c2],?_,a2,c2,l2,?_,by have:=HK2.out;omega,by rw[←HK2.out];exact zja hoP (by omega),by rw[Int.natAbs_neg,Int.natAbs_natCast];exact YB.out,hbP⟩
  ·simp[results,Tryz.results245,go_sem,q0,q1]
  ·rw[HK2.out];simp;exact SW
 case stop =>
  rintro D c pre W _ _ h _;exact h.elim
theorem zqv(s:ByteArray)(z:Int)(w:World)(hs:s.size≤100000)(hz:s.data.toList=txtZ z):Calls Tryz.prog 245 #[.string s] w (zl6 w z):=by
 by_cases h:z<0
 ·have e:txtZ z=45 :: txtN z.natAbs:=by unfold txtZ;rw[if_pos h]
  have h0:0<s.size:=by rw[←zab,hz,e];simp
  have h1:((s[0].toNat:Int) == 45)=true:=by
   have:=zcf s h0;rw[hz,e]at this
   injection this with this
   rw[←this];rfl
  have ht:(s.extract 1 s.size).data.toList=txtN z.natAbs:=by rw[ziu,hz,e];rfl
  have:=zyy s (s.extract 1 s.size) w (by simp;omega) z.natAbs ht (by omega) h0 h1 rfl
  rwa [show -((z.natAbs:Nat):Int)=z by omega]at this
 ·have e:txtZ z=txtN z.natAbs:=by unfold txtZ;rw[if_neg h]
  have h0:0<s.size:=by rw[←zab,hz,e];exact List.length_pos_iff.2 (zhd _)
  have h1:((s[0].toNat:Int) == 45)=false:=by
   have:=zcf s h0;rw[hz,e]at this;rw[beq_eq_false_iff_ne];intro h2;have h3:=zt9 (c:=s[0]) (n:=45) h2 (by omega);rw[h3]at this;exact zgq _ this
  have:=zyx s w hs z.natAbs (by rw[hz,e]) h0 h1
  rwa [show((z.natAbs:Nat):Int)=z by omega]at this
theorem zn0{a b:Nat}(h:a≤b):(decN a).length≤(decN b).length:=by
 have h1:1≤(decN b).length:=List.length_pos_iff.2 (ze4 b);exact(ze5 a _ h1).2 (Nat.lt_of_le_of_lt h ((ze5 b _ h1).1 (Nat.le_refl _)))
def za6(w:World)(n:Int)(e:Ending)(w':World):Prop:=e=.returned (.int .i64 n)∧Below w.heap.size w w'
theorem zkf(s:ByteArray)(w:World)(hs:s.size≤1000000) :
 Calls Tryz.prog 222 #[.string s] w (za6 w (chkZ s.data.toList)):=by
 have hd:=zdm s w hs;obtain⟨l,hl⟩:∃l,l=s.data.toList:=⟨_,rfl⟩
 rw[←hl]at hd ⊢;obtain⟨E,hE⟩:∃E,E=chkZ l:=⟨_,rfl⟩
 rw[←hE];have HE:=Z9 hE;have HD:=Z9 hd;have HL:=Z9 hl;clear hd hE hl;go_enter Tryz.func222,Tryz.ntmps222;go_wp2_with fail;refine HD.out.mono ?_;rintro e w1 (⟨z,a,n,c,e1,rfl,e2,e3,e4,e5⟩ |⟨e1,rfl,e2⟩)
 ·have XO:=HE.out
  rw[zqx e1,zbx]at XO;unfold bigZ at XO;rw[e2]at XO;have HB:=Z9 e5;clear e1 e2 e3 e4 e5
  by_cases hb:1000<n
  ·have e:E=14:=by rw[XO];simp[hb]
   have HX:=Z9 e;clear e XO;go_wp2_with fail;go_ret;exact⟨zax HX.out.symm,HB.out⟩
  ·have e:E=0:=by rw[XO];simp[hb]
   have HX:=Z9 e;clear e XO;go_wp2_with fail;go_ret;exact⟨zax HX.out.symm,HB.out⟩
 ·have e:E=12:=by rw[HE.out];exact zn3 e1
  have HX:=Z9 e;have HB:=Z9 e2;clear e e1 e2;go_wp2_with fail;go_ret;exact⟨zax HX.out.symm,HB.out⟩
def zp7(a b:List UInt8):Int:=if chkZ a=0 then chkZ b else chkZ a
theorem zfl(s t:ByteArray)(w:World)(hs:s.size≤1000000)(ht:t.size≤1000000) :
 Calls Tryz.prog 198 #[.string s,.string t] w (za6 w (zp7 s.data.toList t.data.toList)):=by
 have X5:=fun W=>zkf s W hs
 have hct:=fun W=>zkf t W ht
 obtain⟨E,hE⟩:∃E,E=zp7 s.data.toList t.data.toList:=⟨_,rfl⟩
 obtain⟨a,ha⟩:∃a,a=chkZ s.data.toList:=⟨_,rfl⟩
 obtain⟨b,hb⟩:∃b,b=chkZ t.data.toList:=⟨_,rfl⟩
 rw[←hE];unfold zp7 at hE;rw[←ha,←hb]at hE;rw[←ha]at X5;rw[←hb]at hct;have HCS:=Z9 X5;have HCT:=Z9 hct;have HE:=Z9 hE;clear X5 hct hE ha hb
 by_cases h:a=0
 ·have t1:(a != 0)=false:=by simpa using h
  have hx:E=b:=by rw[HE.out,if_pos h]
  have HX:=Z9 hx;clear hx h;go_enter Tryz.func198,Tryz.ntmps198;go_wp2_with fail;refine(HCS.out _).mono ?_;rintro e w1 ⟨rfl,b1⟩;have B1:=Z9 b1;clear b1;go_wp2_with fail;refine(HCT.out _).mono ?_;rintro e w2 ⟨rfl,b2⟩;have B2:=Z9 b2;clear b2;go_wp2_with fail;go_ret;exact⟨zax HX.out.symm,B1.out.trans (B2.out.mono B1.out.size)⟩
 ·have t1:(a != 0)=true:=by simpa using h
  have hx:E=a:=by rw[HE.out,if_neg h]
  have HX:=Z9 hx;clear hx h;go_enter Tryz.func198,Tryz.ntmps198;go_wp2_with fail;refine(HCS.out _).mono ?_;rintro e w1 ⟨rfl,b1⟩;have B1:=Z9 b1;clear b1;go_wp2_with fail;refine(HCS.out _).mono ?_;rintro e w2 ⟨rfl,b2⟩;have B2:=Z9 b2;clear b2;go_wp2_with fail;go_ret;exact⟨zax HX.out.symm,B1.out.trans (B2.out.mono B1.out.size)⟩
def z19(w:World)(l:List UInt8)(n:Int)(e:Ending)(w':World):Prop:=e=.returned (.tuple #[.string ⟨l.toArray⟩,.int .i64 n])∧Below w.heap.size w w'
def GcR(w:World)(G:Nat)(gk:Nat)(xv yv:Value)(wr:World):Prop :=
 ∃(a b:Option Addr)(n m c d:Nat)(X Y:List Nat),gk=dval Y∧xv=.slice a n c∧yv=.slice b m d∧X.length=n∧Y.length=m∧n≤5000∧m≤5000∧n≤c∧m≤d ∧
  (∀x ∈ X,x<10)∧(∀x ∈ Y,x<10)∧Nums .i64 wr a X∧Nums .i64 wr b Y∧Nat.gcd (dval X) (dval Y)=G∧(decN (dval Y)).length≤1000∧Below w.heap.size w wr
theorem zvb(s t:ByteArray)(x y:Int)(w:World)(hx:s.data.toList=txtZ x)(hy:t.data.toList=txtZ y)(bx:bigZ x=false)(byy:bigZ y=false)(hs:s.size≤1000000)(ht:t.size≤1000000) :
 Calls Tryz.prog 177 #[.string s,.string t] w (z19 w (txtZ (Nat.gcd x.natAbs y.natAbs:Int)) 0):=by
 have hb:=zfl s t w hs ht
 have hz:zp7 s.data.toList t.data.toList=0:=by
  unfold zp7;rw[hx,hy,zbx,zbx,bx,byy];rfl
 rw[hz]at hb
 have X5:=fun W=>zdm s W hs
 have hct:=fun W=>zdm t W ht
 rw[hx]at X5;rw[hy]at hct;have lx:(decN x.natAbs).length≤1000:=by unfold bigZ at bx;simpa using bx
 have ly:(decN y.natAbs).length≤1000:=by unfold bigZ at byy;simpa using byy
 obtain⟨G,hG⟩:∃G,G=Nat.gcd x.natAbs y.natAbs:=⟨_,rfl⟩
 rw[←hG];have HG:=Z9 hG;have HB:=Z9 hb;have HCS:=Z9 X5;have HCT:=Z9 hct;clear hb X5 hct hx hy hz bx byy hG;go_enter Tryz.func177,Tryz.ntmps177;go_wp2_with fail;refine HB.out.mono ?_;rintro e w1 ⟨rfl,b1⟩;have B1:=Z9 b1;clear b1;go_wp2_with fail;refine(HCS.out _).mono ?_;rintro e w2 (⟨z,a,n,c,e1,rfl,e2,e3,e4,e5⟩ |⟨e1,_⟩)
 case inr=>rw[zcy]at e1;cases e1
 rw[zcy]at e1
 injection e1 with e1
 subst e1;have B2:=Z9 e5;have N2:=Z9 e4;have L2:=Z9 e2;clear e2 e4 e5;go_wp2_with fail;refine(HCT.out _).mono ?_;rintro e w3 (⟨z,b,m,d,e1,rfl,e2,e4,e5,e6⟩ |⟨e1,_⟩)
 case inr=>rw[zcy]at e1;cases e1
 rw[zcy]at e1
 injection e1 with e1
 subst e1
 have st:GcR w G y.natAbs (.slice a n c) (.slice b m d) w3 :=
  ⟨a,b,n,m,c,d,decN x.natAbs,decN y.natAbs,(zbb _).symm,rfl,rfl,L2.out,e2,by rw[←L2.out];omega,by omega,e3,e4,zcm _,zcm _,N2.out.below e6,e5,by rw[zbb,zbb];exact HG.out.symm,by rw[zbb];exact ly,
   (B1.out.trans (B2.out.mono B1.out.size)).trans (e6.mono (by have:=B1.out.size;have:=B2.out.size;omega))⟩
 have ST:=Z9 st;clear st e2 e5 e6 N2 L2 B1 B2 e3 e4 HB HCS HCT;go_wp2_with fail;go_loopg [7,10] y.natAbs (fun k xv yv wr=>GcR w G k xv yv wr)
 case atStart=>exact ST.out
 case round =>
  obtain⟨w4,rfl⟩:∃w4:World,w4=wr:=⟨_,rfl⟩
  obtain⟨a,b,n,m,c,d,X,Y,rfl,rfl,rfl,h1,h2,h3,h4,h5,h6,h7,h8,h9,Za,Un,h12,Tw⟩:=hrel;have hz:=zfz b m d Y w4 h2 (by omega) h8 Za;have N1:=Z9 h9;have N2:=Z9 Za;have D1:=Z9 h7;have D2:=Z9 h8;have L1:=Z9 h1;have L2:=Z9 h2;have GG:=Z9 Un;have BB:=Z9 Tw
  by_cases Zd:dval Y=0
  ·have e:decide (dval Y=0)=true:=by simpa using Zd
   rw[e]at hz;have HZ:=Z9 hz;have hG2:dval X=G:=by rw[←Un,Zd,Nat.gcd_zero_right]
   have Zz:=zev a n c X false w4 h1 (by omega) h7 h9
   have e2:(if false=true then -(dval X:Int)else(dval X:Int))=(G:Int):=by simp[hG2]
   rw[e2]at Zz;have HT:=Z9 Zz;clear h1 h2 h7 h8 h9 Za Un Tw hz e Zd hG2 Zz e2;go_wp2_with fail;refine HZ.out.mono ?_;rintro e w' ⟨rfl,rfl⟩;go_wp2_with fail;refine HT.out.mono ?_;rintro e w5 ⟨rfl,b5⟩;have B5:=Z9 b5;clear b5;go_wp2_with fail;go_ret2;exact⟨rfl,BB.out.trans (B5.out.mono BB.out.size)⟩
  ·have e:decide (dval Y=0)=false:=by simpa using Zd
   rw[e]at hz;have HZ:=Z9 hz;have hdv:=ze6 a b n m c d X Y w4 h1 h2 (by omega) (by omega) h6 h7 h8 (by omega) h9 Za;have HDV:=Z9 hdv;have hyp:0<dval Y:=by omega
   have HYP:=Z9 hyp;clear h1 h2 h7 h8 h9 Za Un Tw hz e Zd hdv hyp;go_wp2_with fail;refine HZ.out.mono ?_;rintro e w' ⟨rfl,rfl⟩;go_wp2_with fail;refine HDV.out.mono ?_;rintro e w5 ⟨a1,c1,q,a2,c2,r,rfl,q1,q2,q3,q4,q5,q6,q7,q8,q9,q10,q11⟩
   have Zr:GcR w G (dval r) (.slice b m d) (.slice a2 r.length c2) w5:=by
    have Z7:dval r<dval Y:=by rw[q9];exact Nat.mod_lt _ HYP.out
    refine⟨b,a2,m,r.length,d,c2,Y,r,rfl,rfl,rfl,L2.out,rfl,h4,by omega,h6,q2,D2.out,q7,N2.out.below q11,q5,?_,?_,BB.out.trans (q11.mono BB.out.size)⟩
    ·rw[q9,Nat.gcd_comm,←Nat.gcd_rec,Nat.gcd_comm];exact GG.out
    ·have:=zn0 (Nat.le_of_lt Z7);omega
   have hms:dval r<dval Y:=by rw[q9];exact Nat.mod_lt _ HYP.out
   have ZA:=Z9 Zr;have HMS:=Z9 hms;clear q1 q2 q3 q4 q5 q6 q7 q8 q9 q10 q11 Zr hms;go_wp2_with fail;go_roundg (dval r)
   case measure=>exact HMS.out
   case rel=>exact ZA.out
def slN(l:List UInt8):Nat:=(l.takeWhile (fun c=>c != 47)).length
theorem z1j(l:List UInt8):slN l≤l.length:=(List.takeWhile_sublist _).length_le
theorem z1k{l:List UInt8}{k:Nat}(hk:k<l.length)(h0:∀j,j<k→l[j]?≠some 47)(h:l[k]?=some 47):slN l=k:=by
 induction l generalizing k with
 |nil=>simp at hk
 |cons c l ih =>
  cases k with
  |zero=>simp at h;subst h;rfl
  |succ k =>
   have hc:c≠47:=by have:=h0 0 (by omega);simpa using this
   have:=ih (k:=k) (by simpa using hk) (fun j hj=>by have:=h0 (j+1) (by omega);simpa using this) (by simpa using h);unfold slN at this ⊢;rw[List.takeWhile_cons,if_pos (by simpa using hc)];simp[this]
theorem zqn{l:List UInt8}(h0:∀j,j<l.length→l[j]?≠some 47):slN l=l.length:=by
 induction l with
 |nil=>rfl
 |cons c l ih =>
  have hc:c≠47:=by have:=h0 0 (by simp);simpa using this
  have:=ih (fun j hj=>by have:=h0 (j+1) (by simpa using hj);simpa using this);unfold slN at this ⊢;rw[List.takeWhile_cons,if_pos (by simpa using hc)];simp[this]
def gcdB(n d:List UInt8):Nat:=match rdZ n,rdZ d with
 |some x,some y=>Nat.gcd x.natAbs y.natAbs
 |_,_=>0
def chkF(n d:List UInt8):Int :=
 if chkZ n=12∨chkZ d=12∨d.head?=some 45∨d=[48]∨d=[49]then 12
 else if chkZ n=14∨chkZ d=14 then 14 else if gcdB n d=1 then 0 else 12
def chkR(l:List UInt8):Int:=if slN l<l.length then chkF (l.take (slN l)) (l.drop (slN l+1))else chkZ l
theorem zro{l:List UInt8}(h:slN l=l.length):chkR l=chkZ l:=by unfold chkR;rw[if_neg (by omega)]
theorem zn6{l:List UInt8}{k:Nat}(h:slN l=k)(hk:k<l.length):chkR l=chkF (l.take k) (l.drop (k+1)):=by subst h;unfold chkR;rw[if_pos hk]
theorem zei{n d:List UInt8}(h:chkZ n=12∨chkZ d=12∨d.head?=some 45∨d=[48]∨d=[49]):chkF n d=12:=by unfold chkF;rw[if_pos h]
theorem zct(l:List UInt8):(chkZ l=12∧rdZ l=none)∨∃z,rdZ l=some z∧l=txtZ z∧chkZ l=if bigZ z=true then 14 else 0:=by
 cases e:rdZ l with
 |none=>exact .inl ⟨zn3 e,rfl⟩
 |some z=>right;have:=zqx e;exact⟨z,rfl,this,by rw[this];exact zbx z⟩
theorem zn4{z:Int}:chkZ (txtZ z)≠12:=by rw[zbx];split<;>decide
theorem zfg(z:Int):(txtZ z).head?=some 45↔z<0:=by
 unfold txtZ
 split
 ·simp[*]
 ·simp[*,zgq]
theorem zn9(x y:Int)(hy:0≤y)(h0:txtZ y≠[48])(h1:txtZ y≠[49]) :
 chkF (txtZ x) (txtZ y)=if bigZ x=true∨bigZ y=true then 14 else if Nat.gcd x.natAbs y.natAbs=1 then 0 else 12:=by
 unfold chkF gcdB;rw[if_neg,zbx,zbx,zcy,zcy]
 ·cases bigZ x<;>cases bigZ y<;>simp
 ·rintro(h |h |h |h |h)
  ·exact zn4 h
  ·exact zn4 h
  ·rw[zfg]at h;omega
  ·exact h0 h
  ·exact h1 h
theorem txtZ_1:txtZ 1=[49]:=by
 have:decN 1=[1]:=by unfold decN;rw[if_neg (by decide),zeb (by decide)];show _ :: decL 0=_;rw[zce]
 show txtZ ((1:Nat):Int)=_
 rw[zdz];unfold txtN;rw[this];rfl
theorem zh6(n:Nat):txtZ (n:Int)=[49]↔n=1:=by
 constructor
 ·intro h
  have:txtZ (n:Int)=txtZ 1:=h.trans txtZ_1.symm;have:=zgp this;omega
 ·rintro rfl;exact txtZ_1
theorem z06:chkZ [49]=0:=by
 rw[←txtZ_1,zbx]
 have:decN 1=[1]:=by unfold decN;rw[if_neg (by decide),zeb (by decide)];show _ :: decL 0=_;rw[zce]
 unfold bigZ;rw[show(1:Int).natAbs=1 from rfl,this];rfl
theorem z08:bigZ 1=false:=by
 have:=z06;rw[←txtZ_1,zbx]at this
 cases h:bigZ 1 with
 |false=>rfl
 |true=>rw[h]at this;cases this
def slI(l:List UInt8):Int:=if slN l<l.length then(slN l:Int)else -1
theorem zuo{l:List UInt8}{k:Nat}(h:slN l=k)(hk:k<l.length):slI l=k:=by subst h;unfold slI;rw[if_pos hk]
theorem zk3{l:List UInt8}(h:slN l=l.length):slI l = -1:=by unfold slI;rw[if_neg (by omega)]
theorem zgt(s:ByteArray)(w:World)(hs:s.size≤1000000) :
 Calls Tryz.prog 176 #[.string s] w fun e w'=>e=.returned (.int .i64 (slI s.data.toList))∧w=w':=by
 go_enter Tryz.func176,Tryz.ntmps176;go_wp2_with fail;go_loop [3] (fun i=>∃k:Nat,k≤s.size∧i=.int .i64 k∧Hid (∀j,j<k→s.data.toList[j]?≠some 47)) (fun i=>s.size-(intOf i).toNat)
 case atStart=>exact⟨0,Nat.zero_le _,rfl,fun j hj=>absurd hj (Nat.not_lt_zero _)⟩
 case round =>
  obtain⟨k,hk,rfl,hd⟩:=hrel
  by_cases Z7:k<s.size
  ·by_cases hc:((s[k].toNat:Int) == 47)=true
   ·have e:Hid (slI s.data.toList=k):=zuo (z1k (by rw[zab];exact Z7) hd.out (by rw[Lib.data_getElem? s k Z7,zt9 (c:=s[k]) (n:=47) (by simpa using hc) (by omega)];rfl)) (by rw[zab];exact Z7)
    go_wp2;go_ret;exact⟨zax e.out.symm,rfl⟩
   ·have hc:((s[k].toNat:Int) == 47)=false:=by simpa using hc
    have HN:Hid (∀j,j<k+1→s.data.toList[j]?≠some 47):=fun j hj=>by
     by_cases e:j=k
     ·subst e
      rw[Lib.data_getElem? s j Z7]
      intro h;injection h with h
      rw[h]at hc;cases hc
     ·exact hd.out j (by omega)
    go_wp2;go_round
    case rel=>exact⟨k+1,by omega,by go_num,HN⟩
    case measure=>simp[intOf];omega
  ·have e:Hid (slI s.data.toList = -1):=zk3 (zqn fun j hj=>hd.out j (by rw[zab]at hj;omega))
   go_wp2;go_ret;exact⟨zax e.out.symm,rfl⟩
theorem zok(s:ByteArray)(w:World)(hs:s.size≤1000000)(h:slN s.data.toList=s.data.toList.length) :
 Calls Tryz.prog 174 #[.string s] w fun e w'=>e=.returned (.tuple #[.string s,.string ⟨#[49]⟩])∧w=w':=by
 have hc:=zgt s w hs;rw[zk3 h]at hc;have HC:=Z9 hc;clear hc h;go_enter Tryz.func174,Tryz.ntmps174;go_wp2_with fail;refine HC.out.mono ?_;rintro e w' ⟨rfl,rfl⟩;go_wp2_with fail;go_ret2;exact⟨rfl,rfl⟩
theorem zma(s:ByteArray)(k:Nat)(w:World)(hs:s.size≤1000000)(h:slN s.data.toList=k)(hk:k<s.size) :
 Calls Tryz.prog 174 #[.string s] w fun e w'=>e=.returned (.tuple #[.string (s.extract 0 k),.string (s.extract (k+1) s.size)])∧∃q,w'=w.drewN q:=by
 have hc:=zgt s w hs;rw[zuo h (by rw[zab];exact hk)]at hc;have HC:=Z9 hc;clear hc h;have wr1:IntKind.i64.wrap ((k:Int)+1)=(k:Int)+1:=by rw[IntKind.wrap_i64];omega
 go_enter Tryz.func174,Tryz.ntmps174;go_wp2_with fail;refine HC.out.mono ?_;rintro e w' ⟨rfl,rfl⟩;go_wp2_with fail;go_quiet (fail);go_wp2_with fail;go_ret2;exact⟨rfl,_,rfl⟩
def zes(w:World)(n d:ByteArray)(e:Ending)(w':World):Prop:=e=.returned (.tuple #[.string n,.string d])∧Below w.heap.size w w'
def zh4(w:World)(g:ByteArray)(e:Ending)(w':World):Prop:=e=.returned (.tuple #[.string g,.int .i64 0])∧Below w.heap.size w w'
def zcg(w:World)(z:Int)(e:Ending)(w':World):Prop :=
 ∃a n c,e=.returned (.tuple #[.slice a n c,.bool (decide (z<0)),.bool true])∧(decN z.natAbs).length=n∧Below w.heap.size w w'
def zxv(w:World)(e:Ending)(w':World):Prop:=e=.returned (.tuple #[.slice none 0 0,.bool false,.bool false])∧Below w.heap.size w w'
theorem zep(s:ByteArray)(z:Int)(w:World)(hs:s.size≤1000000)(h:rdZ s.data.toList=some z):Calls Tryz.prog 175 #[.string s] w (zcg w z) :=
 (zdm s w hs).mono fun e w' hp=>by
  rcases hp with⟨y,a,n,c,e1,e2,e3,_,_,e6⟩ |⟨e1,_⟩
  ·rw[h]at e1;injection e1 with e1;subst e1
   exact⟨a,n,c,e2,e3,e6⟩
  ·rw[h]at e1;cases e1
theorem zfv(s:ByteArray)(w:World)(hs:s.size≤1000000)(h:rdZ s.data.toList=none):Calls Tryz.prog 175 #[.string s] w (zxv w) :=
 (zdm s w hs).mono fun e w' hp=>by
  rcases hp with⟨y,a,n,c,e1,_⟩ |⟨_,e2,e3⟩
  ·rw[h]at e1;cases e1
  ·exact⟨e2,e3⟩
theorem z63(s n d:ByteArray)(HN:Hid (∀W,Calls Tryz.prog 175 #[.string n] W (zxv W)))(HD:Hid (∀W,Calls Tryz.prog 175 #[.string d] W (zxv W)))(w:World)
 (HW:Hid (Calls Tryz.prog 174 #[.string s] w (zes w n d))) :
 Calls Tryz.prog 137 #[.string s] w (za6 w 12):=by
 go_enter Tryz.func137,Tryz.ntmps137;go_wp2_with fail;refine HW.out.mono ?_;rintro e w1 ⟨rfl,b1⟩;have B:=Z9 b1;clear b1;go_wp2_with fail;refine(HN.out _).mono ?_;rintro e w2 ⟨rfl,b2⟩;have B0:=Z9 (B.out.trans (b2.mono B.out.size));clear b2 B;obtain⟨B⟩:Nonempty (Hid (Below w.heap.size w w2)):=⟨B0⟩;clear B0;go_wp2_with fail;refine(HD.out _).mono ?_;rintro e w3 ⟨rfl,b3⟩;have B1:=Z9 (B.out.trans (b3.mono B.out.size));clear b3 B;obtain⟨B⟩:Nonempty (Hid (Below w.heap.size w w3)):=⟨B1⟩;clear B1;go_wp2_with fail;go_ret;exact⟨rfl,B.out⟩
theorem z5l(s n d:ByteArray)(y:Int)(HN:Hid (∀W,Calls Tryz.prog 175 #[.string n] W (zxv W)))(HD:Hid (∀W,Calls Tryz.prog 175 #[.string d] W (zcg W y)))(byy:Bool)(SY:Hid (decide (y<0)=byy))(w:World)
 (HW:Hid (Calls Tryz.prog 174 #[.string s] w (zes w n d))) :
 Calls Tryz.prog 137 #[.string s] w (za6 w 12):=by
 go_enter Tryz.func137,Tryz.ntmps137;go_wp2_with fail;refine HW.out.mono ?_;rintro e w1 ⟨rfl,b1⟩;have B:=Z9 b1;clear b1;go_wp2_with fail;refine(HN.out _).mono ?_;rintro e w2 ⟨rfl,b2⟩;have B0:=Z9 (B.out.trans (b2.mono B.out.size));clear b2 B;obtain⟨B⟩:Nonempty (Hid (Below w.heap.size w w2)):=⟨B0⟩;clear B0;go_wp2_with fail;refine(HD.out _).mono ?_;rintro e w3 ⟨a2,n2,c2,rfl,l3,b3⟩;have B1:=Z9 (B.out.trans (b3.mono B.out.size));have L3:=Z9 l3;clear b3 B l3;obtain⟨B⟩:Nonempty (Hid (Below w.heap.size w w3)):=⟨B1⟩;clear B1;rw[SY.out];go_wp2_with fail;go_ret;exact⟨rfl,B.out⟩
theorem z62(s n d:ByteArray)(x:Int)(HN:Hid (∀W,Calls Tryz.prog 175 #[.string n] W (zcg W x)))(HD:Hid (∀W,Calls Tryz.prog 175 #[.string d] W (zxv W)))(bx:Bool)(SX:Hid (decide (x<0)=bx))(w:World)
 (HW:Hid (Calls Tryz.prog 174 #[.string s] w (zes w n d))) :
 Calls Tryz.prog 137 #[.string s] w (za6 w 12):=by
 go_enter Tryz.func137,Tryz.ntmps137;go_wp2_with fail;refine HW.out.mono ?_;rintro e w1 ⟨rfl,b1⟩;have B:=Z9 b1;clear b1;go_wp2_with fail;refine(HN.out _).mono ?_;rintro e w2 ⟨a1,n1,c1,rfl,l2,b2⟩;have B0:=Z9 (B.out.trans (b2.mono B.out.size));have L2:=Z9 l2;clear b2 B l2;obtain⟨B⟩:Nonempty (Hid (Below w.heap.size w w2)):=⟨B0⟩;clear B0;rw[SX.out];go_wp2_with fail;refine(HD.out _).mono ?_;rintro e w3 ⟨rfl,b3⟩;have B1:=Z9 (B.out.trans (b3.mono B.out.size));clear b3 B;obtain⟨B⟩:Nonempty (Hid (Below w.heap.size w w3)):=⟨B1⟩;clear B1;go_wp2_with fail;go_ret;exact⟨rfl,B.out⟩
theorem z5m(s n d:ByteArray)(x y:Int)(HN:Hid (∀W,Calls Tryz.prog 175 #[.string n] W (zcg W x)))(HD:Hid (∀W,Calls Tryz.prog 175 #[.string d] W (zcg W y)))(bx:Bool)(SX:Hid (decide (x<0)=bx))(SY:Hid (decide (y<0)=true))(w:World)
 (HW:Hid (Calls Tryz.prog 174 #[.string s] w (zes w n d))) :
 Calls Tryz.prog 137 #[.string s] w (za6 w 12):=by
 go_enter Tryz.func137,Tryz.ntmps137;go_wp2_with fail;refine HW.out.mono ?_;rintro e w1 ⟨rfl,b1⟩;have B:=Z9 b1;clear b1;go_wp2_with fail;refine(HN.out _).mono ?_;rintro e w2 ⟨a1,n1,c1,rfl,l2,b2⟩;have B0:=Z9 (B.out.trans (b2.mono B.out.size));have L2:=Z9 l2;clear b2 B l2;obtain⟨B⟩:Nonempty (Hid (Below w.heap.size w w2)):=⟨B0⟩;clear B0;rw[SX.out];go_wp2_with fail;refine(HD.out _).mono ?_;rintro e w3 ⟨a2,n2,c2,rfl,l3,b3⟩;have B1:=Z9 (B.out.trans (b3.mono B.out.size));have L3:=Z9 l3;clear b3 B l3;obtain⟨B⟩:Nonempty (Hid (Below w.heap.size w w3)):=⟨B1⟩;clear B1;rw[SY.out];go_wp2_with fail;go_ret;exact⟨rfl,B.out⟩
theorem z29(s n d:ByteArray)(x y:Int)(HN:Hid (∀W,Calls Tryz.prog 175 #[.string n] W (zcg W x)))(HD:Hid (∀W,Calls Tryz.prog 175 #[.string d] W (zcg W y)))(bx:Bool)(SX:Hid (decide (x<0)=bx))(SY:Hid (decide (y<0)=false))(d0:(d.toList == [48])=true)(w:World)
 (HW:Hid (Calls Tryz.prog 174 #[.string s] w (zes w n d))) :
 Calls Tryz.prog 137 #[.string s] w (za6 w 12):=by
 go_enter Tryz.func137,Tryz.ntmps137;go_wp2_with fail;refine HW.out.mono ?_;rintro e w1 ⟨rfl,b1⟩;have B:=Z9 b1;clear b1;go_wp2_with fail;refine(HN.out _).mono ?_;rintro e w2 ⟨a1,n1,c1,rfl,l2,b2⟩;have B0:=Z9 (B.out.trans (b2.mono B.out.size));have L2:=Z9 l2;clear b2 B l2;obtain⟨B⟩:Nonempty (Hid (Below w.heap.size w w2)):=⟨B0⟩;clear B0;rw[SX.out];go_wp2_with fail;refine(HD.out _).mono ?_;rintro e w3 ⟨a2,n2,c2,rfl,l3,b3⟩;have B1:=Z9 (B.out.trans (b3.mono B.out.size));have L3:=Z9 l3;clear b3 B l3;obtain⟨B⟩:Nonempty (Hid (Below w.heap.size w w3)):=⟨B1⟩;clear B1;rw[SY.out];go_wp2_with fail;go_ret;exact⟨rfl,B.out⟩
theorem z5k(s n d:ByteArray)(x y:Int)(HN:Hid (∀W,Calls Tryz.prog 175 #[.string n] W (zcg W x)))(HD:Hid (∀W,Calls Tryz.prog 175 #[.string d] W (zcg W y)))(bx:Bool)(SX:Hid (decide (x<0)=bx))(SY:Hid (decide (y<0)=false))(d0:(d.toList == [48])=false)(d1:(d.toList == [49])=true)(i:Int)(HS:Hid (∀W,Calls Tryz.prog 176 #[.string s] W fun e w'=>e=.returned (.int .i64 i)∧W=w'))(hi:decide ((0:Int)≤i)=true)(w:World)
 (HW:Hid (Calls Tryz.prog 174 #[.string s] w (zes w n d))) :
 Calls Tryz.prog 137 #[.string s] w (za6 w 12):=by
 go_enter Tryz.func137,Tryz.ntmps137;go_wp2_with fail;refine HW.out.mono ?_;rintro e w1 ⟨rfl,b1⟩;have B:=Z9 b1;clear b1;go_wp2_with fail;refine(HN.out _).mono ?_;rintro e w2 ⟨a1,n1,c1,rfl,l2,b2⟩;have B0:=Z9 (B.out.trans (b2.mono B.out.size));have L2:=Z9 l2;clear b2 B l2;obtain⟨B⟩:Nonempty (Hid (Below w.heap.size w w2)):=⟨B0⟩;clear B0;rw[SX.out];go_wp2_with fail;refine(HD.out _).mono ?_;rintro e w3 ⟨a2,n2,c2,rfl,l3,b3⟩;have B1:=Z9 (B.out.trans (b3.mono B.out.size));have L3:=Z9 l3;clear b3 B l3;obtain⟨B⟩:Nonempty (Hid (Below w.heap.size w w3)):=⟨B1⟩;clear B1;rw[SY.out];go_wp2_with fail;refine(HS.out _).mono ?_
 rintro e w' ⟨rfl,rfl⟩;go_wp2_with fail;go_ret;exact⟨rfl,B.out⟩
theorem z5o(s n d:ByteArray)(x y:Int)(HN:Hid (∀W,Calls Tryz.prog 175 #[.string n] W (zcg W x)))(HD:Hid (∀W,Calls Tryz.prog 175 #[.string d] W (zcg W y)))(bx:Bool)(SX:Hid (decide (x<0)=bx))(SY:Hid (decide (y<0)=false))(d0:(d.toList == [48])=false)(d1:(d.toList == [49])=false)(i:Int)(HS:Hid (∀W,Calls Tryz.prog 176 #[.string s] W fun e w'=>e=.returned (.int .i64 i)∧W=w'))(hi:decide ((0:Int)≤i)=true)(HB:Hid (1000<(decN x.natAbs).length∨1000<(decN y.natAbs).length))(w:World)
 (HW:Hid (Calls Tryz.prog 174 #[.string s] w (zes w n d))) :
 Calls Tryz.prog 137 #[.string s] w (za6 w 14):=by
 go_enter Tryz.func137,Tryz.ntmps137;go_wp2_with fail;refine HW.out.mono ?_;rintro e w1 ⟨rfl,b1⟩;have B:=Z9 b1;clear b1;go_wp2_with fail;refine(HN.out _).mono ?_;rintro e w2 ⟨a1,n1,c1,rfl,l2,b2⟩;have B0:=Z9 (B.out.trans (b2.mono B.out.size));have L2:=Z9 l2;clear b2 B l2;obtain⟨B⟩:Nonempty (Hid (Below w.heap.size w w2)):=⟨B0⟩;clear B0;rw[SX.out];go_wp2_with fail;refine(HD.out _).mono ?_;rintro e w3 ⟨a2,n2,c2,rfl,l3,b3⟩;have B1:=Z9 (B.out.trans (b3.mono B.out.size));have L3:=Z9 l3;clear b3 B l3;obtain⟨B⟩:Nonempty (Hid (Below w.heap.size w w3)):=⟨B1⟩;clear B1;rw[SY.out];go_wp2_with fail;refine(HS.out _).mono ?_
 rintro e w' ⟨rfl,rfl⟩;have l2:=L2.out;have l3:=L3.out
 rcases HB.out with h |h
 ·have hb:1000<n1:=by omega
  clear l2 l3 h;go_wp2_with fail;go_ret;exact⟨rfl,B.out⟩
 ·by_cases hb:1000<n1
  ·clear l2 l3 h
   go_wp2_with fail;go_ret;exact⟨rfl,B.out⟩
  ·have ZS:1000<n2:=by omega
   clear l2 l3 h;go_wp2_with fail;go_ret;exact⟨rfl,B.out⟩
theorem z3b(s n d:ByteArray)(x y:Int)(HN:Hid (∀W,Calls Tryz.prog 175 #[.string n] W (zcg W x)))(HD:Hid (∀W,Calls Tryz.prog 175 #[.string d] W (zcg W y)))(bx:Bool)(SX:Hid (decide (x<0)=bx))(SY:Hid (decide (y<0)=false))(d0:(d.toList == [48])=false)(i:Int)(HS:Hid (∀W,Calls Tryz.prog 176 #[.string s] W fun e w'=>e=.returned (.int .i64 i)∧W=w'))(hi:decide ((0:Int)≤i)=false)(HB:Hid (1000<(decN x.natAbs).length∨1000<(decN y.natAbs).length))(w:World)
 (HW:Hid (Calls Tryz.prog 174 #[.string s] w (zes w n d))) :
 Calls Tryz.prog 137 #[.string s] w (za6 w 14):=by
 go_enter Tryz.func137,Tryz.ntmps137;go_wp2_with fail;refine HW.out.mono ?_;rintro e w1 ⟨rfl,b1⟩;have B:=Z9 b1;clear b1;go_wp2_with fail;refine(HN.out _).mono ?_;rintro e w2 ⟨a1,n1,c1,rfl,l2,b2⟩;have B0:=Z9 (B.out.trans (b2.mono B.out.size));have L2:=Z9 l2;clear b2 B l2;obtain⟨B⟩:Nonempty (Hid (Below w.heap.size w w2)):=⟨B0⟩;clear B0;rw[SX.out];go_wp2_with fail;refine(HD.out _).mono ?_;rintro e w3 ⟨a2,n2,c2,rfl,l3,b3⟩;have B1:=Z9 (B.out.trans (b3.mono B.out.size));have L3:=Z9 l3;clear b3 B l3;obtain⟨B⟩:Nonempty (Hid (Below w.heap.size w w3)):=⟨B1⟩;clear B1;rw[SY.out];go_wp2_with fail;refine(HS.out _).mono ?_
 rintro e w' ⟨rfl,rfl⟩;have l2:=L2.out;have l3:=L3.out
 rcases HB.out with h |h
 ·have hb:1000<n1:=by omega
  clear l2 l3 h;go_wp2_with fail;go_ret;exact⟨rfl,B.out⟩
 ·by_cases hb:1000<n1
  ·clear l2 l3 h
   go_wp2_with fail;go_ret;exact⟨rfl,B.out⟩
  ·have ZS:1000<n2:=by omega
   clear l2 l3 h;go_wp2_with fail;go_ret;exact⟨rfl,B.out⟩
theorem z5n(s n d:ByteArray)(x y:Int)(HN:Hid (∀W,Calls Tryz.prog 175 #[.string n] W (zcg W x)))(HD:Hid (∀W,Calls Tryz.prog 175 #[.string d] W (zcg W y)))(bx:Bool)(SX:Hid (decide (x<0)=bx))(SY:Hid (decide (y<0)=false))(d0:(d.toList == [48])=false)(d1:(d.toList == [49])=false)(i:Int)(HS:Hid (∀W,Calls Tryz.prog 176 #[.string s] W fun e w'=>e=.returned (.int .i64 i)∧W=w'))(hi:decide ((0:Int)≤i)=true)(g:ByteArray)(HG:Hid (∀W,Calls Tryz.prog 177 #[.string n,.string d] W (zh4 W g)))(Ww:Hid ((decN x.natAbs).length≤1000∧(decN y.natAbs).length≤1000))(hg:(g.toList == [49])=false)(w:World)
 (HW:Hid (Calls Tryz.prog 174 #[.string s] w (zes w n d))) :
 Calls Tryz.prog 137 #[.string s] w (za6 w 12):=by
 go_enter Tryz.func137,Tryz.ntmps137;go_wp2_with fail;refine HW.out.mono ?_;rintro e w1 ⟨rfl,b1⟩;have B:=Z9 b1;clear b1;go_wp2_with fail;refine(HN.out _).mono ?_;rintro e w2 ⟨a1,n1,c1,rfl,l2,b2⟩;have B0:=Z9 (B.out.trans (b2.mono B.out.size));have L2:=Z9 l2;clear b2 B l2;obtain⟨B⟩:Nonempty (Hid (Below w.heap.size w w2)):=⟨B0⟩;clear B0;rw[SX.out];go_wp2_with fail;refine(HD.out _).mono ?_;rintro e w3 ⟨a2,n2,c2,rfl,l3,b3⟩;have B1:=Z9 (B.out.trans (b3.mono B.out.size));have L3:=Z9 l3;clear b3 B l3;obtain⟨B⟩:Nonempty (Hid (Below w.heap.size w w3)):=⟨B1⟩;clear B1;rw[SY.out];go_wp2_with fail;refine(HS.out _).mono ?_
 rintro e w' ⟨rfl,rfl⟩;have l2:=L2.out;have l3:=L3.out;have Y9:=Ww.out;have k2:n1≤1000:=by omega
 have k3:n2≤1000:=by omega
 clear l2 l3 Y9;go_wp2_with fail;refine(HG.out _).mono ?_;rintro e w4 ⟨rfl,b4⟩;have B4:=Z9 (B.out.trans (b4.mono B.out.size));clear b4;go_wp2_with fail;refine(HS.out _).mono ?_;rintro e w' ⟨rfl,rfl⟩;go_wp2_with fail;go_ret;exact⟨rfl,B4.out⟩
theorem z3a(s n d:ByteArray)(x y:Int)(HN:Hid (∀W,Calls Tryz.prog 175 #[.string n] W (zcg W x)))(HD:Hid (∀W,Calls Tryz.prog 175 #[.string d] W (zcg W y)))(bx:Bool)(SX:Hid (decide (x<0)=bx))(SY:Hid (decide (y<0)=false))(d0:(d.toList == [48])=false)(d1:(d.toList == [49])=false)(i:Int)(HS:Hid (∀W,Calls Tryz.prog 176 #[.string s] W fun e w'=>e=.returned (.int .i64 i)∧W=w'))(hi:decide ((0:Int)≤i)=true)(g:ByteArray)(HG:Hid (∀W,Calls Tryz.prog 177 #[.string n,.string d] W (zh4 W g)))(Ww:Hid ((decN x.natAbs).length≤1000∧(decN y.natAbs).length≤1000))(hg:(g.toList == [49])=true)(w:World)
 (HW:Hid (Calls Tryz.prog 174 #[.string s] w (zes w n d))) :
 Calls Tryz.prog 137 #[.string s] w (za6 w 0):=by
 go_enter Tryz.func137,Tryz.ntmps137;go_wp2_with fail;refine HW.out.mono ?_;rintro e w1 ⟨rfl,b1⟩;have B:=Z9 b1;clear b1;go_wp2_with fail;refine(HN.out _).mono ?_;rintro e w2 ⟨a1,n1,c1,rfl,l2,b2⟩;have B0:=Z9 (B.out.trans (b2.mono B.out.size));have L2:=Z9 l2;clear b2 B l2;obtain⟨B⟩:Nonempty (Hid (Below w.heap.size w w2)):=⟨B0⟩;clear B0;rw[SX.out];go_wp2_with fail;refine(HD.out _).mono ?_;rintro e w3 ⟨a2,n2,c2,rfl,l3,b3⟩;have B1:=Z9 (B.out.trans (b3.mono B.out.size));have L3:=Z9 l3;clear b3 B l3;obtain⟨B⟩:Nonempty (Hid (Below w.heap.size w w3)):=⟨B1⟩;clear B1;rw[SY.out];go_wp2_with fail;refine(HS.out _).mono ?_
 rintro e w' ⟨rfl,rfl⟩;have l2:=L2.out;have l3:=L3.out;have Y9:=Ww.out;have k2:n1≤1000:=by omega
 have k3:n2≤1000:=by omega
 clear l2 l3 Y9;go_wp2_with fail;refine(HG.out _).mono ?_;rintro e w4 ⟨rfl,b4⟩;have B4:=Z9 (B.out.trans (b4.mono B.out.size));clear b4;go_wp2_with fail;refine(HS.out _).mono ?_;rintro e w' ⟨rfl,rfl⟩;go_wp2_with fail;go_ret;exact⟨rfl,B4.out⟩
theorem z64(s n d:ByteArray)(x y:Int)(HN:Hid (∀W,Calls Tryz.prog 175 #[.string n] W (zcg W x)))(HD:Hid (∀W,Calls Tryz.prog 175 #[.string d] W (zcg W y)))(bx:Bool)(SX:Hid (decide (x<0)=bx))(SY:Hid (decide (y<0)=false))(d0:(d.toList == [48])=false)(i:Int)(HS:Hid (∀W,Calls Tryz.prog 176 #[.string s] W fun e w'=>e=.returned (.int .i64 i)∧W=w'))(hi:decide ((0:Int)≤i)=false)(g:ByteArray)(HG:Hid (∀W,Calls Tryz.prog 177 #[.string n,.string d] W (zh4 W g)))(Ww:Hid ((decN x.natAbs).length≤1000∧(decN y.natAbs).length≤1000))(w:World)
 (HW:Hid (Calls Tryz.prog 174 #[.string s] w (zes w n d))) :
 Calls Tryz.prog 137 #[.string s] w (za6 w 0):=by
 go_enter Tryz.func137,Tryz.ntmps137;go_wp2_with fail;refine HW.out.mono ?_;rintro e w1 ⟨rfl,b1⟩;have B:=Z9 b1;clear b1;go_wp2_with fail;refine(HN.out _).mono ?_;rintro e w2 ⟨a1,n1,c1,rfl,l2,b2⟩;have B0:=Z9 (B.out.trans (b2.mono B.out.size));have L2:=Z9 l2;clear b2 B l2;obtain⟨B⟩:Nonempty (Hid (Below w.heap.size w w2)):=⟨B0⟩;clear B0;rw[SX.out];go_wp2_with fail;refine(HD.out _).mono ?_;rintro e w3 ⟨a2,n2,c2,rfl,l3,b3⟩;have B1:=Z9 (B.out.trans (b3.mono B.out.size));have L3:=Z9 l3;clear b3 B l3;obtain⟨B⟩:Nonempty (Hid (Below w.heap.size w w3)):=⟨B1⟩;clear B1;rw[SY.out];go_wp2_with fail;refine(HS.out _).mono ?_
 rintro e w' ⟨rfl,rfl⟩;have l2:=L2.out;have l3:=L3.out;have Y9:=Ww.out;have k2:n1≤1000:=by omega
 have k3:n2≤1000:=by omega
 clear l2 l3 Y9;go_wp2_with fail;refine(HG.out _).mono ?_;rintro e w4 ⟨rfl,b4⟩;have B4:=Z9 (B.out.trans (b4.mono B.out.size));clear b4;go_wp2_with fail;refine(HS.out _).mono ?_;rintro e w' ⟨rfl,rfl⟩;go_wp2_with fail;go_ret;exact⟨rfl,B4.out⟩
theorem list_beq{l m:List UInt8}:(l == m)=false↔l≠m:=by simp
theorem z6s:(decN (1:Int).natAbs).length=1:=by
 have:decN 1=[1]:=by unfold decN;rw[if_neg (by decide),zeb (by decide)];show _ :: decL 0=_;rw[zce]
 show(decN 1).length=1
 rw[this];rfl
theorem zbz{z:Int}(h:bigZ z=false):(decN z.natAbs).length≤1000:=by unfold bigZ at h;simpa using h
theorem zju{z:Int}(h:bigZ z=true):1000<(decN z.natAbs).length:=by unfold bigZ at h;simpa using h
theorem zo3(n d:ByteArray)(x y:Int)(W:World)(hn:n.data.toList=txtZ x)(hd:d.data.toList=txtZ y)(bx:bigZ x=false)(byy:bigZ y=false)(h1:n.size≤1000000)(h2:d.size≤1000000) :
 Calls Tryz.prog 177 #[.string n,.string d] W (zh4 W ⟨(txtZ (Nat.gcd x.natAbs y.natAbs:Int)).toArray⟩):=zvb n d x y W hn hd bx byy h1 h2
theorem zyq(s:ByteArray)(w:World)(hs:s.size≤1000000)(h:slN s.data.toList=s.data.toList.length) :
 Calls Tryz.prog 137 #[.string s] w (za6 w (chkR s.data.toList)):=by
 have HW:Hid (Calls Tryz.prog 174 #[.string s] w (zes w s ⟨#[49]⟩)):=(zok s w hs h).mono fun e w' ⟨e1,e2⟩=>⟨e1,by subst e2;exact Below.refl _ _⟩
 have Xr:rdZ (⟨#[49]⟩:ByteArray).data.toList=some 1:=by show rdZ [49]=_;rw[←txtZ_1,zcy]
 have HD:Hid (∀W,Calls Tryz.prog 175 #[.string ⟨#[49]⟩] W (zcg W 1)):=fun W=>zep _ 1 W (by show(1:Nat)≤_;omega) Xr
 have HS:Hid (∀W,Calls Tryz.prog 176 #[.string s] W fun e w'=>e=.returned (.int .i64 (-1))∧W=w'):=fun W=>by
  have:=zgt s W hs
  rwa [zk3 h]at this
 rw[zro h]
 rcases zct s.data.toList with⟨e1,e2⟩ |⟨x,e1,e2,e3⟩
 ·rw[e1]
  exact z5l s s _ 1 (fun W=>zfv s W hs e2) HD false rfl w HW
 ·have HN:Hid (∀W,Calls Tryz.prog 175 #[.string s] W (zcg W x)):=fun W=>zep s x W hs e1
  cases hb:bigZ x with
  |true =>
   rw[e3,hb,if_pos rfl];exact z3b s s _ x 1 HN HD _ rfl rfl (by rw[zac];rfl) (-1) HS rfl (.inl (zju hb)) w HW
  |false =>
   rw[e3,hb,if_neg (by simp)];exact z64 s s _ x 1 HN HD _ rfl rfl (by rw[zac];rfl) (-1) HS rfl _ (fun W=>zo3 s ⟨#[49]⟩ x 1 W e2 txtZ_1.symm hb z08 hs (by show(1:Nat)≤_;omega)) ⟨zbz hb,by rw[z6s];omega⟩ w HW
theorem zu0(s:ByteArray)(k:Nat)(w:World)(hs:s.size≤1000000)(h:slN s.data.toList=k)(hk:k<s.size) :
 Calls Tryz.prog 137 #[.string s] w (za6 w (chkR s.data.toList)):=by
 rw[zn6 h (by rw[zab];exact hk)];have HW0:=zma s k w hs h hk
 have HSI:∀W,Calls Tryz.prog 176 #[.string s] W fun e w'=>e=.returned (.int .i64 (k:Int))∧W=w':=fun W=>by
  have:=zgt s W hs
  rwa [zuo h (by rw[zab];exact hk)]at this
 obtain⟨n,hn⟩:∃n,n=s.extract 0 k:=⟨_,rfl⟩
 obtain⟨d,hd⟩:∃d,d=s.extract (k+1) s.size:=⟨_,rfl⟩
 rw[←hn,←hd]at HW0;have en:s.data.toList.take k=n.data.toList:=by rw[hn,Lib.extract_data];simp
 have ed:s.data.toList.drop (k+1)=d.data.toList:=by rw[hd,Lib.extract_to_end]
 rw[en,ed];have sn:n.size≤1000000:=by rw[hn];simp;omega
 have sd:d.size≤1000000:=by rw[hd];simp;omega
 have HW:Hid (Calls Tryz.prog 174 #[.string s] w (zes w n d)):=HW0.mono fun e w' ⟨e1,q,e2⟩=>⟨e1,by subst e2;exact zav (Below.refl _ _) q⟩
 have HS:=Z9 HSI;have hi:decide ((0:Int)≤(k:Int))=true:=by simp
 clear HW0 HSI hn hd en ed h hk
 rcases zct n.data.toList with⟨n1,n2⟩ |⟨x,n1,n2,n3⟩
 ·rw[zei (.inl n1)]
  rcases zct d.data.toList with⟨d1,d2⟩ |⟨y,d1,d2,d3⟩
  ·exact z63 s n d (fun W=>zfv n W sn n2) (fun W=>zfv d W sd d2) w HW
  ·exact z5l s n d y (fun W=>zfv n W sn n2) (fun W=>zep d y W sd d1) _ rfl w HW
 ·have HN:Hid (∀W,Calls Tryz.prog 175 #[.string n] W (zcg W x)):=fun W=>zep n x W sn n1
  rcases zct d.data.toList with⟨d1,d2⟩ |⟨y,d1,d2,d3⟩
  ·rw[zei (.inr (.inl d1))]
   exact z62 s n d x HN (fun W=>zfv d W sd d2) _ rfl w HW
  ·have HD:Hid (∀W,Calls Tryz.prog 175 #[.string d] W (zcg W y)):=fun W=>zep d y W sd d1
   by_cases hy:y<0
   ·rw[zei (.inr (.inr (.inl (by rw[d2,zfg];exact hy))))]
    exact z5m s n d x y HN HD _ rfl (by show decide _=true;simpa using hy) w HW
   ·have hy':decide (y<0)=false:=by simpa using hy
    by_cases h0:d.data.toList=[48]
    ·rw[zei (.inr (.inr (.inr (.inl h0))))]
     exact z29 s n d x y HN HD _ rfl hy' (by rw[zac,h0];rfl) w HW
    ·have h0':(d.toList == [48])=false:=by rw[zac];exact list_beq.2 h0
     by_cases h1:d.data.toList=[49]
     ·rw[zei (.inr (.inr (.inr (.inr h1))))]
      exact z5k s n d x y HN HD _ rfl hy' h0' (by rw[zac,h1];rfl) _ HS hi w HW
     ·have h1':(d.toList == [49])=false:=by rw[zac];exact list_beq.2 h1
      have ef:chkF n.data.toList d.data.toList=if bigZ x=true∨bigZ y=true then 14 else if Nat.gcd x.natAbs y.natAbs=1 then 0 else 12:=by
       rw[n2,d2];exact zn9 x y (by omega) (by rw[←d2];exact h0) (by rw[←d2];exact h1)
      rw[ef]
      by_cases hb:bigZ x=true∨bigZ y=true
      ·rw[if_pos hb]
       exact z5o s n d x y HN HD _ rfl hy' h0' h1' _ HS hi (by
        rcases hb with hb |hb
        ·exact .inl (zju hb)
        ·exact .inr (zju hb)) w HW
      ·rw[if_neg hb]
       have bx:bigZ x=false:=by cases h:bigZ x with |false=>rfl |true=>exact absurd (.inl h) hb
       have by2:bigZ y=false:=by cases h:bigZ y with |false=>rfl |true=>exact absurd (.inr h) hb
       have HG:Hid (∀W,Calls Tryz.prog 177 #[.string n,.string d] W (zh4 W ⟨(txtZ (Nat.gcd x.natAbs y.natAbs:Int)).toArray⟩)):=fun W=>zo3 n d x y W n2 d2 bx by2 sn sd
       by_cases hg:Nat.gcd x.natAbs y.natAbs=1
       ·rw[if_pos hg]
        exact z3a s n d x y HN HD _ rfl hy' h0' h1' _ HS hi _ HG ⟨zbz bx,zbz by2⟩ (by rw[zac,hg];show((txtZ ((1:Nat):Int)) == [49])=true;rw[(zh6 1).2 rfl];rfl) w HW
       ·rw[if_neg hg]
        exact z5n s n d x y HN HD _ rfl hy' h0' h1' _ HS hi _ HG ⟨zbz bx,zbz by2⟩ (by rw[zac];exact list_beq.2 (fun h=>hg ((zh6 _).1 h))) w HW
theorem zyr(s:ByteArray)(w:World)(hs:s.size≤1000000) :
 Calls Tryz.prog 137 #[.string s] w (za6 w (chkR s.data.toList)):=by
 by_cases h:slN s.data.toList<s.size
 ·exact zu0 s _ w hs rfl h
 ·exact zyq s w hs (by have:=z1j s.data.toList;rw[zab]at this ⊢;omega)
def z1c(w:World)(x y:Int)(e:Ending)(w':World):Prop :=
 ∃a c la b d lb,e=.returned (.tuple #[.agg #[.bool (decide (x<0)),.slice a (la:List Nat).length c],.agg #[.bool (decide (y<0)),.slice b (lb:List Nat).length d],.int .i64 0]) ∧
  la.length≤c∧lb.length≤d∧Nums .u32 w' a la∧Nums .u32 w' b lb∧Rep la x.natAbs∧Rep lb y.natAbs∧Below w.heap.size w w'
theorem zgd(s:ByteArray)(w:World)(hs:s.size≤1000000):Calls Tryz.prog 204 #[.string s] w fun e w'=>e=.returned (.int .i64 (chkZ s.data.toList))∧w=w' :=
 (zxq s w hs).mono fun _ _ ⟨a,b⟩=>⟨a,b.symm⟩
theorem zvs(s t:ByteArray)(x y:Int)(w:World)(hs:s.size≤100000)(ht:t.size≤100000)(hx:s.data.toList=txtZ x)(hy:t.data.toList=txtZ y)(bx:bigZ x=false)(byy:bigZ y=false) :
 Calls Tryz.prog 226 #[.string s,.string t] w (z1c w x y):=by
 have X0:=fun W=>zgd s W (by omega)
 have VV:=fun W=>zgd t W (by omega)
 rw[hx,zbx,bx]at X0;rw[hy,zbx,byy]at VV;simp only[Bool.false_eq_true,if_false]at X0 VV
 have hr1:=fun W=>zqv s x W hs hx
 have Zc:=fun W=>zqv t y W ht hy
 have HC1:=Z9 X0;have HC2:=Z9 VV;have Y6:=Z9 hr1;have YB:=Z9 Zc;obtain⟨W0,Z3⟩:∃W0,W0=(w.alloc (.cells #[.bool false,.slice none 0 0] 241)).alloc (.cells #[.bool false,.slice none 0 0] 241):=⟨_,rfl⟩
 have Wx:Box2 W0 w.heap.size false (.slice none 0 0):=by rw[Z3];exact Box2.alloc (show Box2 (w.alloc (.cells #[.bool false,.slice none 0 0] 241)) w.heap.size false (.slice none 0 0)from World.alloc_heap_new w _) _
 have ZP:Box2 W0 (w.heap.size+1) false (.slice none 0 0):=by
  rw[Z3];have:=World.alloc_heap_new (w.alloc (.cells #[.bool false,.slice none 0 0] 241)) (.cells #[.bool false,.slice none 0 0] 241);rw[World.size_alloc]at this;exact this
 have YJ:Below w.heap.size w W0:=by rw[Z3];exact((Below.refl _ w).alloc (Nat.le_refl _) _).alloc (by simp) _
 have HA0:=Z9 Wx;have HB0:=Z9 ZP;have HBL:=Z9 YJ;have HW0:=Z9 Z3;clear X0 VV hr1 Zc hx hy bx byy Wx ZP YJ Z3;go_enter Tryz.func226,Tryz.ntmps226;go_wp2_with fail;rw[←HW0.out];refine(HC1.out _).mono ?_;rintro e w' ⟨rfl,rfl⟩;go_wp2_with fail;refine(HC2.out _).mono ?_;rintro e w' ⟨rfl,rfl⟩;go_wp2_with fail;refine(Y6.out W0).mono ?_;rintro e W1 ⟨a,c,la,rfl,SH,Wo,Yu,ZL⟩;obtain⟨k1,Yy⟩:∃k1,k1=la.length:=⟨_,rfl⟩
 rw[←Yy]at SH ⊢;have HN1:=Z9 Wo;have HP1:=Z9 Yu;have HB1:=Z9 ZL;have HK1:=Z9 Yy;clear Wo Yu ZL Yy;go_wp2_with fail;refine(YB.out W1).mono ?_;rintro e W2 ⟨b,d,lb,rfl,Wi,WS,Wr,ZS⟩;obtain⟨k2,YC⟩:∃k2,k2=lb.length:=⟨_,rfl⟩
 rw[←YC]at Wi ⊢;have HN2:=Z9 WS;have HP2:=Z9 Wr;have HK2:=Z9 YC;have hb02:Below W0.heap.size W0 W2:=HB1.out.trans (ZS.mono HB1.out.size);have HB02:=Z9 hb02;have HBB:=Z9 ZS;have Zo:w.heap.size+1<W0.heap.size:=HB0.out.lt;have hA2:Box2 W2 w.heap.size false (.slice none 0 0):=(hb02.block _ HA0.out.lt).trans HA0.out;have hB2:Box2 W2 (w.heap.size+1) false (.slice none 0 0):=(hb02.block _ HB0.out.lt).trans HB0.out;clear WS Wr YC ZS hb02;obtain⟨nx,YZ⟩:∃nx,nx=decide (x<0):=⟨_,rfl⟩
 obtain⟨ny,Wq⟩:∃ny,ny=decide (y<0):=⟨_,rfl⟩
 rw[←YZ,←Wq];have HNX:=Z9 YZ;have HNY:=Z9 Wq;have a0:=hA2.cell0;have a1:=hA2.cell1;have af0:=hA2.frozen 0;have af1:=hA2.frozen 1;have hA3:Box2 ((W2.setCell ⟨w.heap.size,0,none⟩ (.bool nx)).setCell ⟨w.heap.size,1,none⟩ (.slice a k1 c)) w.heap.size nx (.slice a k1 c):=(hA2.set0 nx).set1 _;have hB3:Box2 ((W2.setCell ⟨w.heap.size,0,none⟩ (.bool nx)).setCell ⟨w.heap.size,1,none⟩ (.slice a k1 c)) (w.heap.size+1) false (.slice none 0 0):=(hB2.other (by show w.heap.size+1≠w.heap.size;omega) _).other (by show w.heap.size+1≠w.heap.size;omega) _;have b0:=hB3.cell0;have b1:=hB3.cell1;have bf0:=hB3.frozen 0
 have bf1:=hB3.frozen 1;have hA4:Box2 ((((W2.setCell ⟨w.heap.size,0,none⟩ (.bool nx)).setCell ⟨w.heap.size,1,none⟩ (.slice a k1 c)).setCell ⟨w.heap.size+1,0,none⟩ (.bool ny)).setCell ⟨w.heap.size+1,1,none⟩ (.slice b k2 d)) w.heap.size nx (.slice a k1 c):=(hA3.other (by show w.heap.size≠w.heap.size+1;omega) _).other (by show w.heap.size≠w.heap.size+1;omega) _;have hB4:Box2 ((((W2.setCell ⟨w.heap.size,0,none⟩ (.bool nx)).setCell ⟨w.heap.size,1,none⟩ (.slice a k1 c)).setCell ⟨w.heap.size+1,0,none⟩ (.bool ny)).setCell ⟨w.heap.size+1,1,none⟩ (.slice b k2 d)) (w.heap.size+1) ny (.slice b k2 d):=(hB3.set0 ny).set1 _
 have HA4:=Z9 hA4;have HB4:=Z9 hB4;clear YZ Wq hA2 hB2 hA3 hB3 hA4 hB4
 have ow1:W2.ownsRow W0.heap.size 247 1 (.slice a k1 c) k1 (nums .u32 la):=by
  have:=HN1.out;rw[←HK1.out]at this;obtain⟨h1,h2⟩:=this;refine⟨h1,?_⟩
  rcases h2 with h |⟨g,cap,cur,e1,e2,e3,e4⟩
  ·exact .inl h
  ·exact .inr ⟨g,cap,cur,e1,e2,(HBB.out.block g (Z8 e3)).trans e3,e4⟩
 have ow2:W2.ownsRow W0.heap.size 247 1 (.slice b k2 d) k2 (nums .u32 lb):=by
  have:=HN2.out;rw[←HK2.out]at this;exact zja this HB1.out.size
 have hkeep:∀{v:Value}{k:Nat}{xs:List Value}{W:World}{B:Nat}{u:Value}{i:Nat},W.ownsRow W0.heap.size 247 1 v k xs→B<W0.heap.size→(W.setCell ⟨B,i,none⟩ u).ownsRow W0.heap.size 247 1 v k xs:=fun {v k xs W B u i} h hB =>
  h.kept (row:=some B) (za1 (zb5 _ _) (.inl rfl) _) (.inr (fun e=>by have:=(h.lt B e).1;omega))
 have ow3:=hkeep (hkeep (hkeep (hkeep ow1 (B:=w.heap.size) (u:=.bool nx) (i:=0) (by omega)) (B:=w.heap.size) (u:=.slice a k1 c) (i:=1) (by omega)) (B:=w.heap.size+1) (u:=.bool ny) (i:=0) (by omega)) (B:=w.heap.size+1) (u:=.slice b k2 d) (i:=1) (by omega);have ow4:=hkeep (hkeep (hkeep (hkeep ow2 (B:=w.heap.size) (u:=.bool nx) (i:=0) (by omega)) (B:=w.heap.size) (u:=.slice a k1 c) (i:=1) (by omega)) (B:=w.heap.size+1) (u:=.bool ny) (i:=0) (by omega)) (B:=w.heap.size+1) (u:=.slice b k2 d) (i:=1) (by omega);have OW3:=Z9 ow3;have OW4:=Z9 ow4;clear ow1 ow2 hkeep ow3 ow4;go_wp2_with fail;have q0:=HA4.out.cell0
 have q1:=HA4.out.cell1;have q2:=HB4.out.cell0;have q3:=HB4.out.cell1;refine bodyPost_ret (v:=.tuple #[.agg #[.bool nx,.slice a k1 c],.agg #[.bool ny,.slice b k2 d],.int .i64 0]) (by simp[results,Tryz.results226,go_sem,q0,q1,q2,q3]) rfl ?_;obtain⟨a3,c3,e3,ZE,hlc3,hn3⟩:=zau OW3.out
 injection e3 with e31 _ e33
 subst e31 e33;obtain⟨a4,c4,e4,hl4,hlc4,Tc⟩:=zau OW4.out
 injection e4 with e41 _ e43
 subst e41 e43;refine⟨a,c,la,b,d,lb,by rw[HNX.out,HNY.out,ZE,hl4],by omega,by omega,hn3,Tc,HP1.out,HP2.out,?_⟩;have b2:=HBL.out.trans (HB02.out.mono HBL.out.size);exact(((b2.setCell (p:=⟨w.heap.size,0,none⟩) (Nat.le_refl _) _).setCell (p:=⟨w.heap.size,1,none⟩) (Nat.le_refl _) _).setCell (p:=⟨w.heap.size+1,0,none⟩) (by show w.heap.size≤w.heap.size+1;omega) _).setCell (p:=⟨w.heap.size+1,1,none⟩) (by show w.heap.size≤w.heap.size+1;omega) _
theorem zkp(a b:Option Addr)(n m c d A B:Nat)(la lb:List Nat)(w:World)(Zt:la.length=n)(ZC:lb.length=m)(hn:n≤100000)(hm:m≤100000)(Wp:n≤c)
 (ra:Rep la A) (rb:Rep lb B) (ha:Nums .u32 w a la) (hb:Nums .u32 w b lb) (h0:0<B) :
 Calls Tryz.prog 227 #[.slice a n c,.slice b m d] w (zoh w A B):=by
 rcases Nat.lt_or_ge A B with h |h
 ·exact zny a b n m c d A B la lb w Zt ZC hn hm Wp ra rb ha hb h
 ·match m,ZC with
  |0,ZC =>
   rw[List.eq_nil_of_length_eq_zero ZC]at rb;have:=rb.2.2;simp[val]at this;omega
  |1,ZC=>exact ztr a b n c d A B la lb w Zt ZC hn ra rb ha hb h
  |p+2,ZC=>exact zpz a b n p c d A B la lb w Zt ZC hn (by omega) ra rb ha hb h
theorem MagAt.len{w:World}{v:Value}{N k:Nat}(h:MagAt w v N)(hk:N<Bs ^ k):∃a n c l,v=.slice a n c∧(l:List Nat).length=n∧n≤k∧n≤c∧Nums .u32 w a l∧Rep l N:=by
 obtain⟨a,c,l,h1,h2,h3,h4⟩:=h;exact⟨a,_,c,l,h1,rfl,zb9 l N k h4 hk,h2,h3,h4⟩
def KM:Nat:=112
theorem ztz:KM=112:=rfl
theorem zg8{z:Int}(h:bigZ z=false):z.natAbs<Bs ^ KM:=by
 have h1:=zbz h;obtain⟨k,hk⟩:∃k,k=1000:=⟨_,rfl⟩
 rw[←hk]at h1;have h2:=(ze5 z.natAbs k (by omega)).1 h1;rw[z2a KM];exact Nat.lt_trans h2 (Nat.pow_lt_pow_right (by omega) (by rw[ztz];omega))
theorem zjv{m n:Nat}(h:m≤n)(hb:bigZ (n:Int)=false):bigZ (m:Int)=false:=by
 have h1:=zbz hb;have h2:=zn0 h;unfold bigZ;simp only[Int.natAbs_natCast]at h1 ⊢;simp;omega
def GcM(w:World)(gx gy G:Nat)(gk:Nat)(wr:World):Prop :=
 ∃(X Y:Nat)(nx ny:Bool)(vx vy:Value),gk=Y∧Box2 wr gx nx vx∧Box2 wr gy ny vy∧MagAt wr vx X∧MagAt wr vy Y∧Nat.gcd X Y=G∧X<Bs ^ KM∧Y<Bs ^ KM∧Below w.heap.size w wr
theorem zzd{W:World}{B:Nat}{neg:Bool}{a':Option Addr}{n' c':Nat}{a:Option Addr}{l:List Nat}(h:Box2 W B neg (.slice a' n' c'))(hn:Nums .u32 W a l)(u:Value)(i:Nat):Nums .u32 (W.setCell ⟨B,i,none⟩ u) a l:=fun e he=>by
 obtain⟨g,o,e1,hg,hc⟩:=hn e he;refine⟨g,o,e1,by simpa[World.setCell]using hg,?_⟩
 have ZT:B≠g:=by
  intro hB;subst hB;unfold World.cell? at hc;rw[show W.heap[B]?=_ from h]at hc;simp only at hc
  match ho:o+e,hc with
  |0,hc=>simp at hc
  |1,hc=>simp at hc
  |k+2,hc=>simp at hc
 rw[World.cell?_setCell_other _ _ _ _ (by intro h;injection h with h;exact ZT h)];exact hc
theorem zgy{W:World}{B:Nat}{neg:Bool}{a':Option Addr}{n' c':Nat}{v:Value}{N:Nat}(h:Box2 W B neg (.slice a' n' c'))(hm:MagAt W v N)(u:Value)(i:Nat):MagAt (W.setCell ⟨B,i,none⟩ u) v N:=by
 obtain⟨a,c,l,h1,h2,h3,h4⟩:=hm;exact⟨a,c,l,h1,h2,zzd h h3 u i,h4⟩
theorem zrg(s t:ByteArray)(x y:Int)(w:World)(hs:s.size≤100000)(ht:t.size≤100000)(hx:s.data.toList=txtZ x)(hy:t.data.toList=txtZ y)(bx:bigZ x=false)(byy:bigZ y=false) :
 Calls Tryz.prog 205 #[.string s,.string t] w (zh4 w ⟨(txtZ (Nat.gcd x.natAbs y.natAbs:Int)).toArray⟩):=by
 have hp:=zvs s t x y w hs ht hx hy bx byy;obtain⟨G,hG⟩:∃G,G=Nat.gcd x.natAbs y.natAbs:=⟨_,rfl⟩
 rw[←hG]
 have hGb:bigZ (G:Int)=false:=by
  rcases Nat.eq_zero_or_pos x.natAbs with h |h
  ·rw[hG,h,Nat.gcd_zero_left]
   refine zjv (n:=y.natAbs) (Nat.le_refl _) ?_;unfold bigZ at byy ⊢;simpa using byy
  ·refine zjv (n:=x.natAbs) (by rw[hG];exact Nat.gcd_le_left _ h) ?_
   unfold bigZ at bx ⊢;simpa using bx
 have ZZ:=zg8 bx;have Wa:=zg8 byy;have HP:=Z9 hp;have HG:=Z9 hG;have HGB:=Z9 hGb;have HBX:=Z9 ZZ;have HBY:=Z9 Wa;clear hp hx hy bx byy hG hGb ZZ Wa;go_enter Tryz.func205,Tryz.ntmps205;go_wp2_with fail;refine HP.out.mono ?_;rintro e w1 ⟨a,c,la,b,d,lb,rfl,T6,Ta,Vr,Zf,UG,Zi,b1⟩;obtain⟨nx,YZ⟩:∃nx,nx=decide (x<0):=⟨_,rfl⟩
 obtain⟨ny,Wq⟩:∃ny,ny=decide (y<0):=⟨_,rfl⟩
 obtain⟨k1,Yy⟩:∃k1,k1=la.length:=⟨_,rfl⟩
 obtain⟨k2,YC⟩:∃k2,k2=lb.length:=⟨_,rfl⟩
 rw[←YZ,←Wq,←Yy,←YC];have HMA:=Z9 (⟨a,c,la,by rw[Yy],T6,Vr,UG⟩:MagAt w1 (.slice a k1 c) x.natAbs);have HMB:=Z9 (⟨b,d,lb,by rw[YC],Ta,Zf,Zi⟩:MagAt w1 (.slice b k2 d) y.natAbs);have B1:=Z9 b1;clear T6 Ta Vr Zf UG Zi b1 YZ Wq Yy YC;obtain⟨W2,Z4⟩:∃W2,W2=(w1.alloc (.cells #[.bool nx,.slice a k1 c] 241)).alloc (.cells #[.bool ny,.slice b k2 d] 241):=⟨_,rfl⟩
 have Wx:Box2 W2 w1.heap.size nx (.slice a k1 c):=by rw[Z4];exact Box2.alloc (show Box2 (w1.alloc (.cells #[.bool nx,.slice a k1 c] 241)) w1.heap.size nx (.slice a k1 c)from World.alloc_heap_new w1 _) _
 have ZP:Box2 W2 (w1.heap.size+1) ny (.slice b k2 d):=by
  rw[Z4];have:=World.alloc_heap_new (w1.alloc (.cells #[.bool nx,.slice a k1 c] 241)) (.cells #[.bool ny,.slice b k2 d] 241);rw[World.size_alloc]at this;exact this
 have hbl1:Below w1.heap.size w1 W2:=by rw[Z4];exact((Below.refl _ w1).alloc (Nat.le_refl _) _).alloc (by simp) _
 have Zr:GcM w w1.heap.size (w1.heap.size+1) G y.natAbs W2 :=
  ⟨x.natAbs,y.natAbs,nx,ny,_,_,rfl,Wx,ZP,MagAt.below HMA.out hbl1,MagAt.below HMB.out hbl1,HG.out.symm,HBX.out,HBY.out,B1.out.trans (hbl1.mono B1.out.size)⟩
 have ST:=Z9 Zr;have HW2:=Z9 Z4;have SZ:=Z9 B1.out.size;clear Z4 Wx ZP hbl1 Zr;go_wp2_with fail;rw[←HW2.out];obtain⟨gx,UV⟩:∃gx,gx=w1.heap.size:=⟨_,rfl⟩
 have Uz:w.heap.size≤gx:=by rw[UV];exact SZ.out
 have GW:=Z9 Uz;rw[←UV]at ST ⊢;clear Uz UV HW2;go_loopg [] y.natAbs (fun k wr=>GcM w gx (gx+1) G k wr)
 case atStart=>exact ST.out
 case round =>
  obtain⟨w4,rfl⟩:∃w4:World,w4=wr:=⟨_,rfl⟩
  obtain⟨X,Y,mx,my,vx,vy,hk,h1,h2,h3,h4,h5,h6,h7,h8⟩:=hrel;have hk':=hk.symm;clear hk;subst hk';obtain⟨a1,n1,c1,l1,rfl,e1,e2,e3,e4,e5⟩:=h3.len h6;obtain⟨a2,n2,c2,l2,rfl,f1,f2,f3,f4,f5⟩:=h4.len h7;rw[ztz]at e2 f2;have H1:=Z9 h1;have H2:=Z9 h2;have N1:=Z9 e4;have N2:=Z9 f4;have R1:=Z9 e5;have R2:=Z9 f5;have L1:=Z9 e1;have L2:=Z9 f1;have HM1:=Z9 h3;have HM2:=Z9 h4;have GG:=Z9 h5;have BB:=Z9 h8;have P1:=Z9 h6;have P2:=Z9 h7
  by_cases Zd:Y=0
  ·subst Zd
   have hl:l2=[]:=zyv l2 f5;have hn:n2=0:=by rw[←f1,hl];rfl
   subst hn;have hG2:X=G:=by rw[←h5,Nat.gcd_zero_right]
   have Wu:=ziq false a1 n1 c1 X l1 w4 e1 (by omega) e5 e4
   have ez:(if false=true then -(X:Int)else(X:Int))=(G:Int):=by simp[hG2]
   rw[ez]at Wu;have HWR:=Z9 Wu;clear h1 h2 h3 h4 h5 h6 h7 h8 e1 e4 e5 f1 f4 f5 hl hG2 Wu ez;have q1:=H1.out.cell1;have q2:=H2.out.cell1;go_wp2_with fail;refine HWR.out.mono ?_;rintro e w5 ⟨hq,b5⟩
   rcases hq with⟨hq,_⟩ |⟨_,rfl⟩
   ·rw[HGB.out]at hq;cases hq
   have B5:=Z9 b5;clear b5;go_wp2_with fail;go_ret2;exact⟨rfl,BB.out.trans (B5.out.mono BB.out.size)⟩
  ·have hyp:0<Y:=by omega
   have hn:0<n2:=by
    rcases Nat.eq_zero_or_pos n2 with h |h
    ·rw[h]at f1
     rw[List.eq_nil_of_length_eq_zero f1]at f5;have:=f5.2.2;simp[val]at this;omega
    ·exact h
   have hdv:=zkp a1 a2 n1 n2 c1 c2 X Y l1 l2 w4 e1 f1 (by omega) (by omega) e3 e5 f5 e4 f4 hyp;have HDV:=Z9 hdv;have HYP:=Z9 hyp;have q1:=H1.out.cell1;have q2:=H2.out.cell1;clear h1 h2 h3 h4 h5 h6 h7 h8 e1 e4 e5 f1 f4 f5 hdv Zd hyp;go_wp2_with fail;refine HDV.out.mono ?_;rintro e w5 ⟨v1,v2,rfl,m1,m2,b5⟩
   obtain⟨a3,n3,c3,e3,m3⟩:∃a3 n3 c3,v2=.slice a3 n3 c3∧MagAt w5 (.slice a3 n3 c3) (X % Y):=by
    obtain⟨a3,c3,l3,q,_⟩:=id m2;exact⟨a3,_,c3,q,q ▸ m2⟩
   subst e3;clear m2;have m2:=m3;clear m3;have hx5:Box2 w5 gx mx (.slice a1 n1 c1):=(b5.block _ H1.out.lt).trans H1.out;have hy5:Box2 w5 (gx+1) my (.slice a2 n2 c2):=(b5.block _ H2.out.lt).trans H2.out;have hx6:Box2 (w5.setCell ⟨gx,1,none⟩ (.slice a2 n2 c2)) gx mx (.slice a2 n2 c2):=hx5.set1 _;have hy6:Box2 (w5.setCell ⟨gx,1,none⟩ (.slice a2 n2 c2)) (gx+1) my (.slice a2 n2 c2):=hy5.other (by show gx+1≠gx;omega) _;have hx7:Box2 ((w5.setCell ⟨gx,1,none⟩ (.slice a2 n2 c2)).setCell ⟨gx+1,1,none⟩ (.slice a3 n3 c3)) gx mx (.slice a2 n2 c2):=hx6.other (by show gx≠gx+1;omega) _;have hy7:Box2 ((w5.setCell ⟨gx,1,none⟩ (.slice a2 n2 c2)).setCell ⟨gx+1,1,none⟩ (.slice a3 n3 c3)) (gx+1) my (.slice a3 n3 c3):=hy6.set1 _
   have Z7:X % Y<Y:=Nat.mod_lt _ HYP.out
   have hrel:GcM w gx (gx+1) G (X % Y) ((w5.setCell ⟨gx,1,none⟩ (.slice a2 n2 c2)).setCell ⟨gx+1,1,none⟩ (.slice a3 n3 c3)):=by
    refine⟨Y,X % Y,mx,my,_,_,rfl,hx7,hy7,?_,?_,?_,P2.out,by have:=P2.out;omega,?_⟩
    ·exact zgy hy6 (zgy hx5 (HM2.out.below b5) _ _) _ _
    ·exact zgy hy6 (zgy hx5 m2 _ _) _ _
    ·rw[Nat.gcd_comm,←Nat.gcd_rec,Nat.gcd_comm];exact GG.out
    ·exact((BB.out.trans (b5.mono BB.out.size)).setCell (p:=⟨gx,1,none⟩) GW.out _).setCell (p:=⟨gx+1,1,none⟩) (by have:=GW.out;show w.heap.size≤gx+1;omega) _
   have HREL:=Z9 hrel;have HLT:=Z9 Z7;have r1:=hx5.cell1;have r2:=hy5.cell1;have r3:=hx5.frozen 1;have r4:=hy6.frozen 1;have r5:=hy6.cell1;clear m1 m2 b5 hx5 hy5 hx6 hy6 hx7 hy7 Z7 hrel;go_wp2_with fail;go_roundg (X % Y)
   case measure=>exact HLT.out
   case rel=>exact HREL.out
end Go.Proofs.YtkobkpepgdddeaaGreatDoor
