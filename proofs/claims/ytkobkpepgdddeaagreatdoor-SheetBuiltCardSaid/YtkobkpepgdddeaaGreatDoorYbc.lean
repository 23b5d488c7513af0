/-
  Plain reading of expressions and contracts from tokens: what the reader gives, by a bound of its depth. No condition.
-/
import Derived.Test.YtkobkpepgdddeaaGreatDoorYaf
import Derived.Test.YtkobkpepgdddeaaGreatDoorYah
import Derived.Test.YtkobkpepgdddeaaGreatDoorYak
import Derived.Test.YtkobkpepgdddeaaGreatDoorYal
import Derived.Test.YtkobkpepgdddeaaGreatDoorYao
import Derived.Test.YtkobkpepgdddeaaGreatDoorYat
import Derived.Test.YtkobkpepgdddeaaGreatDoorYbb
import Derived.Test.YtkobkpepgdddeaaGreatDoorYba
import Derived.Deep.RegionHeld3
namespace Go.Proofs.YtkobkpepgdddeaaGreatDoor
open Go.RowKit
set_option maxHeartbeats 16000000
set_option maxRecDepth 100000
namespace Rd
end Rd
def zb5(n:Nat)(l:List Tk):Rd Ex :=
 if zap l=[108,101,115,115]∨zap l=[101,113,117,97,108]∨zap l=[97,110,100]∨zap l=[111,114]∨zap l=[110,111,116]then rdE n false l else rdE n true l
open Go.RowKit
theorem zqk(n:Nat):Nat0 (zb5 n):=fun l=>by
 unfold zb5;rw[zsr]
 split
 ·exact rdE0 n false l
 ·exact rdE0 n true l
theorem zya(a b:List Tk)(R:LexR):preL a (preL b R)=preL (a ++ b) R:=by cases R<;>simp[preL]
theorem z83(t:Tk)(R:LexR):pre1 t R=preL [t] R:=by cases R<;>rfl
theorem z9k{c:UInt8}(h:c.toNat=10):blQ c=true:=by unfold blQ;simp;omega
theorem z2f(b:Bool)(a:List UInt8){c:UInt8}(hc:c.toNat=10)(X:List UInt8)(h:skS b a=a.length):skS b (a ++ c :: X)=a.length+1+skS false X:=by
 induction a generalizing b with
 |nil =>
  cases b
  ·rw[List.nil_append,zh9 (z9k hc)];simp;omega
  ·rw[List.nil_append,zox hc];simp;omega
 |cons d a ih =>
  have l1:=zgi false a;have l2:=zgi true a;rw[List.cons_append]
  cases b
  ·by_cases hb:blQ d=true
   ·rw[zh9 hb]at h ⊢;rw[ih _ (by simpa using h)];simp;omega
   ·by_cases h2:d.toNat=35
    ·rw[zh8 h2]at h ⊢;rw[ih _ (by simpa using h)];simp;omega
    ·rw[zhp hb h2]at h;simp at h
  ·by_cases hn:d.toNat=10
   ·rw[zox hn]at h ⊢;rw[ih _ (by simpa using h)];simp;omega
   ·rw[zsy hn]at h ⊢;rw[ih _ (by simpa using h)];simp;omega
theorem z2e(b:Bool)(a X:List UInt8)(h:skS b a<a.length):skS b (a ++ X)=skS b a:=by
 induction a generalizing b with
 |nil=>simp at h
 |cons d a ih =>
  rw[List.cons_append]
  cases b
  ·by_cases hb:blQ d=true
   ·rw[zh9 hb]at h ⊢;rw[zh9 hb,ih _ (by simpa using h)]
   ·by_cases h2:d.toNat=35
    ·rw[zh8 h2]at h ⊢;rw[zh8 h2,ih _ (by simpa using h)]
    ·rw[zhp hb h2,zhp hb h2]
  ·by_cases hn:d.toNat=10
   ·rw[zox hn]at h ⊢;rw[zox hn,ih _ (by simpa using h)]
   ·rw[zsy hn]at h ⊢;rw[zsy hn,ih _ (by simpa using h)]
theorem zrj{c:UInt8}(hc:c.toNat=10)(X:List UInt8):∀(n off:Nat)(a:List UInt8),a.length≤n →
 lexL off (a ++ c :: X)=match lexL off a with
  | .no i e=>.no i e
  | .yes ts=>preL ts (lexL (off+a.length+1) X):=by
 intro n
 induction n with
 |zero =>
  intro off a ha;obtain rfl:a=[]:=List.length_eq_zero_iff.1 (by omega);rw[zbc (l:=[]) rfl];dsimp only;rw[znl];exact zih (k:=1) (by simp) (by rw[List.nil_append,zh9 (z9k hc)];simp;omega)
 |succ n ih =>
  intro off a ha
  rcases Nat.lt_or_ge (skS false a) a.length with Z4 |UP
  ·have hs:=z2e false a (c :: X) Z4
   have hdr:(a ++ c :: X).drop (skS false a)=a.drop (skS false a) ++ c :: X:=zcd _ (by omega)
   have Z0:a.drop (skS false a)≠[]:=fun h=>by have:=congrArg List.length h;simp at this;omega
   have hone:=zte (z9k hc) Z0 X;have ZR:skS false (a ++ c :: X)<(a ++ c :: X).length:=by rw[hs];simp;omega
   cases ho:oneL (a.drop (skS false a))with
   |no e =>
    rw[zek Z4 ho,zek (e:=e) ZR (by rw[hs,hdr,hone];exact ho),hs]
   |yes t m =>
    have hm:=zi2 ho;have hp:=zd6 ho;rw[List.length_drop]at hm;rw[zcc Z4 ho,zcc (t:=t) (n:=m) ZR (by rw[hs,hdr,hone];exact ho),hs,zcd _ (by omega),ih _ _ (by rw[List.length_drop];omega)]
    cases hL:lexL (off+skS false a+m) (a.drop (skS false a+m))with
    |no i e=>rfl
    |yes ts =>
     show pre1 _ (preL ts _)=preL (_ :: ts) _
     rw[z83,zya,List.length_drop,show off+skS false a+m+(a.length-(skS false a+m))+1=off+a.length+1 by omega];rfl
  ·have hf:skS false a=a.length:=by have:=zgi false a;omega
   rw[zbc hf];dsimp only;rw[znl]
   have e:(a ++ c :: X).drop (a.length+1)=X:=by
    rw[←List.drop_drop,List.drop_left];rfl
   have:=zih (off:=off) (k:=a.length+1) (l:=a ++ c :: X) (by simp) (by rw[e];exact z2f false a hc X hf);rw[this,e];rfl
def mvT(d:Int)(t:Tk):Tk:={ t with place:=t.place+d }
def mvR(d:Nat):LexR→LexR
 | .no i e=>.no (i+d) e
 | .yes l=>.yes (l.map (mvT d))
theorem z3z(d:Nat)(t:Tk)(R:LexR):mvR d (pre1 t R)=pre1 (mvT d t) (mvR d R):=by cases R<;>rfl
theorem zu7(d:Nat):∀(n off:Nat)(a:List UInt8),a.length≤n→lexL (off+d) a=mvR d (lexL off a):=by
 intro n
 induction n with
 |zero =>
  intro off a ha;obtain rfl:a=[]:=List.length_eq_zero_iff.1 (by omega);rw[zbc (l:=[]) rfl,zbc (l:=[]) rfl];rfl
 |succ n ih =>
  intro off a ha
  rcases Nat.lt_or_ge (skS false a) a.length with Z4 |UP
  ·cases ho:oneL (a.drop (skS false a))with
   |no e =>
    rw[zek Z4 ho,zek Z4 ho]
    show LexR.no _ _=LexR.no _ _
    congr 1;omega
   |yes t m =>
    have hm:=zi2 ho;have hp:=zd6 ho;rw[List.length_drop]at hm;rw[zcc Z4 ho,zcc Z4 ho,z3z,←ih _ _ (by rw[List.length_drop];omega)];have e1:off+d+skS false a+m=off+skS false a+m+d:=by omega
    have e2:((off+d+skS false a:Nat):Int)=((off+skS false a:Nat):Int)+(d:Int):=by omega
    rw[e1,e2];rfl
  ·have hf:skS false a=a.length:=by have:=zgi false a;omega
   rw[zbc hf,zbc hf];rfl
theorem z6u{W:World}{cb g o:Nat}{t:Tk}(hO:W.heap[cb]?=some (.cells #[.int .u8 0,.string ⟨#[]⟩,.string ⟨#[]⟩,.int .i64 0,.slice none 0 0] 25))(h:∀j,j<5→W.cell? ⟨g,o+j,none⟩=(tkC t)[j]?):g≠cb:=fun e=>by
 subst e
 have hc:∀i,W.cell? ⟨g,i,none⟩=(#[.int .u8 0,.string ⟨#[]⟩,.string ⟨#[]⟩,.int .i64 0,.slice none 0 0]:Array Value)[i]?:=fun i=>by simp[World.cell?,hO]
 have h0:(#[.int .u8 0,.string ⟨#[]⟩,.string ⟨#[]⟩,.int .i64 0,.slice none 0 0]:Array Value)[o]?=some (.int .u8 t.kind):=(hc o).symm.trans (h 0 (by omega));have h4:(#[.int .u8 0,.string ⟨#[]⟩,.string ⟨#[]⟩,.int .i64 0,.slice none 0 0]:Array Value)[o+4]?=some (.int .i64 t.place):=(hc (o+4)).symm.trans (h 4 (by omega))
 match o,h0,h4 with
 |0,_,h4=>simp at h4
 |1,h0,_=>simp at h0
 |2,h0,_=>simp at h0
 |3,h0,_=>simp at h0
 |4,h0,_=>simp at h0
 |o+5,h0,_=>simp at h0
def CBx(cb:Nat)(lo:Nat)(x:Ex)(W:World):Prop:=∃n a len cap,W.heap[cb]?=some (.cells #[.int .u8 x.kind,.string x.rat,.string x.name,.int .i64 x.date,.slice a len cap] 25)∧ExOn (fun g=>lo≤g∧g<W.heap.size) n W [.int .u8 x.kind,.string x.rat,.string x.name,.int .i64 x.date,.slice a len cap] x
theorem CBx.stab(cb:Nat):∀lo x W W',CBx cb lo x W→W.heap.size≤W'.heap.size→(∀g,(lo≤g∨g=cb)→g<W.heap.size→W'.heap[g]?=W.heap[g]?)→CBx cb lo x W':=by
 rintro lo x W W' ⟨n,a,len,cap,hb,hx⟩ hz hk;exact⟨n,a,len,cap,(hk cb (.inr rfl) (Z8 hb)).trans hb,(hx.keep (w':=W') fun g ⟨g1,g2⟩=>hk g (.inl g1) g2).mono fun g ⟨g1,g2⟩=>⟨g1,by omega⟩⟩
theorem ybp(cb:Nat):RdF 61 cb (.cells #[.int .u8 0,.string ⟨#[]⟩,.string ⟨#[]⟩,.int .i64 0,.slice none 0 0] 25) (CBx cb) (zb5 20001):=by
 intro rb W l h Z4 hO hl;have HP:=Z9 (znm rb 20001);have HHD:=Z9 (fun W (hW:RAt rb W l)=>za1 rb W l hW);have HR:=Z9 h;have HO:=Z9 hO;have HLT:=Z9 Z4;have HL:=Z9 hl;obtain⟨GR,ZX⟩:∃GR,GR=zb5 20001 l:=⟨_,rfl⟩
 rw[←ZX];unfold zb5 at ZX;clear h Z4 hO hl
 by_cases hT:zap l=[108,101,115,115]∨zap l=[101,113,117,97,108]∨zap l=[97,110,100]∨zap l=[111,114]∨zap l=[110,111,116]
 ·have HGR:Hid (GR=rdE 20001 false l):=Z9 (by rw[ZX,if_pos hT])
  clear ZX
  rcases hT with h0 |h0 |h0 |h0 |h0
  all_goals
   rw[za0 h0]at HHD;clear h0;go_enter Tryz.func61,Tryz.ntmps61;go_wp2_with fail;refine(HHD.out W HR.out).mono ?_;rintro e w1 ⟨rfl,hb⟩;have Xy:=Z9 (HR.out.below hb);have HO1:=Z9 ((hb.block cb (Z8 HO.out)).trans HO.out);have HG1:=Z9 (zaq (rb:=rb) (zae hb));clear hb;go_wp2_with fail;have HCALL:=Z9 (HP.out false w1 l Xy.out (by have:=HL.out;omega));change Hid (Calls _ _ _ _ (zaf _ _ _ (rdE 20001 false l)))at HCALL;rw[←HGR.out]at HCALL;refine HCALL.out.mono ?_;clear HCALL
   cases hq:GR with
   |no l' =>
    rintro e u ⟨rfl,hr,hg⟩;exact⟨rfl,yae rfl ⟨rfl,hr,zmm (Lib.grownBy_trans HG1.out hg) rfl rfl rfl rfl (fun _ _=>rfl),(hg.block cb (Z8 HO1.out) (fun e=>by injection e with e;have:=HLT.out;omega)).trans HO1.out⟩⟩
   |ok x l' =>
    rintro e u ⟨v,rfl,⟨n,a,len,cap,rfl,hx⟩,hr,hg⟩;have hOu:u.heap[cb]?=some (.cells #[.int .u8 0,.string ⟨#[]⟩,.string ⟨#[]⟩,.int .i64 0,.slice none 0 0] 25):=(hg.block cb (Z8 HO1.out) (fun e=>by injection e with e;have:=HLT.out;omega)).trans HO1.out;have WK:cb<W.heap.size:=(Z8 HO.out);have Yt:=HG1.out.size;obtain⟨V,hV⟩:∃V,V=(((((u.setCell ⟨cb,0,none⟩ (.int .u8 x.kind)).setCell ⟨cb,1,none⟩ (.string x.rat)).setCell ⟨cb,2,none⟩ (.string x.name)).setCell ⟨cb,3,none⟩ (.int .i64 x.date)).setCell ⟨cb,4,none⟩ (.slice a len cap)):=⟨_,rfl⟩
    have hk:∀g,g≠cb→V.heap[g]?=u.heap[g]?:=fun g h=>by
     rw[hV,Below.heap_setCell _ _ _ _ (by show g≠cb;exact h),Below.heap_setCell _ _ _ _ (by show g≠cb;exact h),Below.heap_setCell _ _ _ _ (by show g≠cb;exact h),Below.heap_setCell _ _ _ _ (by show g≠cb;exact h),Below.heap_setCell _ _ _ _ (by show g≠cb;exact h)]
    have hz:u.heap.size=V.heap.size:=by rw[hV];simp only[World.size_setCell]
    have Z2:V.heap[cb]?=some (.cells #[.int .u8 x.kind,.string x.rat,.string x.name,.int .i64 x.date,.slice a len cap] 25):=by rw[hV];exact zck hOu _ _ _ _ _
    have VU:CBx cb W.heap.size x V:=⟨n,a,len,cap,Z2,(hx.keep (w':=V) fun g ⟨g1,_⟩=>hk g (by omega)).mono fun g ⟨g1,g2⟩=>⟨by omega,by omega⟩⟩;have VV:RAt rb V l':=hr.move (cb:=cb) (by have:=HLT.out;omega) hk (Nat.le_of_eq hz) (fun g o t ht=>z6u hOu ht);have YT:Kp2 rb cb W V:=zmm (Lib.grownBy_trans HG1.out hg) (by rw[hV];simp only[zdn]) (by rw[hV];simp only[zdn]) (by rw[hV];simp only[zdn]) hz hk;rw[hV]at VU VV YT;have HFIN:=Z9 (And.intro VU (And.intro VV YT));obtain⟨z0,z1,z2,z3,z4⟩:=zad hOu;have fz:∀i,u.frozen? ⟨cb,i,none⟩=false:=Lib.frozen_of_heap hOu
    have zb':=(Z8 hOu);clear hx hr hg hV hk hz Z2 VU VV YT WK hOu Yt;go_wp2_with fail;go_end0;exact yad hq ⟨rfl,HFIN.out.1,HFIN.out.2.1,HFIN.out.2.2⟩
 have HGR:Hid (GR=rdE 20001 true l):=Z9 (by rw[ZX,if_neg hT]);have d0:=zct (fun e=>hT (.inl e));have d1:=zct (fun e=>hT (.inr (.inl e)));have d2:=zct (fun e=>hT (.inr (.inr (.inl e))));have d3:=zct (fun e=>hT (.inr (.inr (.inr (.inl e)))));have d4:=zct (fun e=>hT (.inr (.inr (.inr (.inr (e))))));obtain⟨S,hS⟩:∃S,S=zfb l:=⟨_,rfl⟩
 rw[←hS]at HHD d0 d1 d2 d3 d4;clear ZX hS hT;go_enter Tryz.func61,Tryz.ntmps61;go_wp2_with fail;refine(HHD.out W HR.out).mono ?_;rintro e w1 ⟨rfl,hb⟩;have Xy:=Z9 (HR.out.below hb);have HO1:=Z9 ((hb.block cb (Z8 HO.out)).trans HO.out);have HG1:=Z9 (zaq (rb:=rb) (zae hb));clear hb;go_wp2_with fail;have HCALL:=Z9 (HP.out true w1 l Xy.out (by have:=HL.out;omega));change Hid (Calls _ _ _ _ (zaf _ _ _ (rdE 20001 true l)))at HCALL;rw[←HGR.out]at HCALL;refine HCALL.out.mono ?_;clear HCALL
 cases hq:GR with
 |no l' =>
  rintro e u ⟨rfl,hr,hg⟩;exact⟨rfl,yae rfl ⟨rfl,hr,zmm (Lib.grownBy_trans HG1.out hg) rfl rfl rfl rfl (fun _ _=>rfl),(hg.block cb (Z8 HO1.out) (fun e=>by injection e with e;have:=HLT.out;omega)).trans HO1.out⟩⟩
 |ok x l' =>
  rintro e u ⟨v,rfl,⟨n,a,len,cap,rfl,hx⟩,hr,hg⟩;have hOu:u.heap[cb]?=some (.cells #[.int .u8 0,.string ⟨#[]⟩,.string ⟨#[]⟩,.int .i64 0,.slice none 0 0] 25):=(hg.block cb (Z8 HO1.out) (fun e=>by injection e with e;have:=HLT.out;omega)).trans HO1.out;have WK:cb<W.heap.size:=(Z8 HO.out);have Yt:=HG1.out.size;obtain⟨V,hV⟩:∃V,V=(((((u.setCell ⟨cb,0,none⟩ (.int .u8 x.kind)).setCell ⟨cb,1,none⟩ (.string x.rat)).setCell ⟨cb,2,none⟩ (.string x.name)).setCell ⟨cb,3,none⟩ (.int .i64 x.date)).setCell ⟨cb,4,none⟩ (.slice a len cap)):=⟨_,rfl⟩
  have hk:∀g,g≠cb→V.heap[g]?=u.heap[g]?:=fun g h=>by
   rw[hV,Below.heap_setCell _ _ _ _ (by show g≠cb;exact h),Below.heap_setCell _ _ _ _ (by show g≠cb;exact h),Below.heap_setCell _ _ _ _ (by show g≠cb;exact h),Below.heap_setCell _ _ _ _ (by show g≠cb;exact h),Below.heap_setCell _ _ _ _ (by show g≠cb;exact h)]
  have hz:u.heap.size=V.heap.size:=by rw[hV];simp only[World.size_setCell]
  have Z2:V.heap[cb]?=some (.cells #[.int .u8 x.kind,.string x.rat,.string x.name,.int .i64 x.date,.slice a len cap] 25):=by rw[hV];exact zck hOu _ _ _ _ _
  have VU:CBx cb W.heap.size x V:=⟨n,a,len,cap,Z2,(hx.keep (w':=V) fun g ⟨g1,_⟩=>hk g (by omega)).mono fun g ⟨g1,g2⟩=>⟨by omega,by omega⟩⟩;have VV:RAt rb V l':=hr.move (cb:=cb) (by have:=HLT.out;omega) hk (Nat.le_of_eq hz) (fun g o t ht=>z6u hOu ht);have YT:Kp2 rb cb W V:=zmm (Lib.grownBy_trans HG1.out hg) (by rw[hV];simp only[zdn]) (by rw[hV];simp only[zdn]) (by rw[hV];simp only[zdn]) hz hk;rw[hV]at VU VV YT;have HFIN:=Z9 (And.intro VU (And.intro VV YT));obtain⟨z0,z1,z2,z3,z4⟩:=zad hOu;have fz:∀i,u.frozen? ⟨cb,i,none⟩=false:=Lib.frozen_of_heap hOu
  have zb':=(Z8 hOu);clear hx hr hg hV hk hz Z2 VU VV YT WK hOu Yt;go_wp2_with fail;go_end0;exact yad hq ⟨rfl,HFIN.out.1,HFIN.out.2.1,HFIN.out.2.2⟩
theorem Ex.depth_le:∀(x:Ex),x.depth≤x.size
 | .mk k r n d l=>by
  rw[Ex.depth_is,Ex.size_is]
  show 1+maxD l≤1+(l.map Ex.size).sum
  have h:maxD l≤(l.map Ex.size).sum:=zy5 fun y hy=>by
   have h1:=Ex.depth_le y;obtain⟨i,hi,rfl⟩:=List.getElem_of_mem hy
   have h2:l.map Ex.size=(l.take i).map Ex.size ++ (l[i].size :: (l.drop (i+1)).map Ex.size):=by
    rw[←List.map_cons,←List.drop_eq_getElem_cons hi,←List.map_append,List.take_append_drop]
   rw[h2,List.sum_append,List.sum_cons];omega
  omega
termination_by x=>SizeOf.sizeOf x
decreasing_by
 have:=List.sizeOf_lt_of_mem hy;simp only[Ex.mk.sizeOf_spec];omega
theorem ExW.below{n:Nat}{x:Ex}{cs:List Value}{w w' Wg:World}(h:ExW n x cs w Wg)(hb:Below w.heap.size w w'):ExW n x cs w' Wg :=
 ⟨ExAt.below hb h.at_,h.kok,h.size,h.small,h.shp,h.old.trans (hb.mono h.old.size)⟩
theorem zpa(n:Nat)(x:Ex)(cs:List Value)(w Wg:World)(h:ExW n x cs w Wg):Calls Tryz.prog 46 #[.agg cs.toArray] w (IntP w (chkX x)):=by
 have XX:=h.at_.shape;obtain⟨a,len,cap,rfl,_⟩:=XX;obtain⟨W0,Z7⟩:∃W0,W0=w.alloc (.cells #[.int .u8 x.kind,.string x.rat,.string x.name,.int .i64 x.date,.slice a len cap] 25):=⟨_,rfl⟩
 have hB0:Below w.heap.size w W0:=by rw[Z7];exact zaa w _
 have Z2:W0.heap[w.heap.size]?=some (.cells #[.int .u8 x.kind,.string x.rat,.string x.name,.int .i64 x.date,.slice a len cap] 25):=by rw[Z7];exact heap_alloc_new w _
 have h0:=h.below hB0;have Xc:=x.depth_le
 have HC:∀W,Below W0.heap.size W0 W→_:=fun W hW=>zad ((hW.block _ (Z8 Z2)).trans Z2)
 have HSZ:Hid (∀W,Below W0.heap.size W0 W→Calls Tryz.prog 90 #[.agg #[.int .u8 x.kind,.string x.rat,.string x.name,.int .i64 x.date,.slice a len cap]] W (IntP W (x.size:Int))):=fun W hW=>zkv n x _ W (ExAt.below hW h0.at_) h.size
 obtain⟨M,hM⟩:∃M,M=min x.depth 61:=⟨_,rfl⟩
 have VS:Hid (x.size≤500→∀W,Below W0.heap.size W0 W→Calls Tryz.prog 91 #[.agg #[.int .u8 x.kind,.string x.rat,.string x.name,.int .i64 x.date,.slice a len cap],.int .i64 60] W (IntP W (M:Int))):=fun h5s W hW=>by
  have q:=zme n x _ 60 W (ExAt.below hW h0.at_) (by omega) (by omega) (by omega);rw[hM];exact q
 have HST:Hid (x.size≤500→∀W,Below W0.heap.size W0 W→Calls Tryz.prog 82 #[.agg #[.int .u8 x.kind,.string x.rat,.string x.name,.int .i64 x.date,.slice a len cap]] W (U8P W x.srt)):=fun h5s W hW=>by
  have:=zic h.shp n x _ W (ExAt.below hW h0.at_) h.kok (by omega) h.small (h0.old.trans (hW.mono h0.old.size))
  rwa [←Ex.srt_is]at this
 obtain⟨R,hR⟩:∃R,R=chkX x:=⟨_,rfl⟩
 rw[←hR];have HRR:=Z9 hR;have HW0:=Z9 Z7;have HB0:=Z9 hB0;have HCC:=Z9 HC;obtain⟨c0,c1,c2,c3,c4⟩:=HC W0 (Below.refl _ _);obtain⟨sz,ZS⟩:∃q,q=x.size:=⟨_,rfl⟩
 obtain⟨dp,Xo⟩:∃q,q=x.depth:=⟨_,rfl⟩
 obtain⟨st,ZN⟩:∃q,q=x.srt:=⟨_,rfl⟩
 have hcx:R=if 500<sz∨60<dp then 4 else if st=0 then 8 else 0:=by rw[hR,ZS,Xo,ZN];rfl
 have hszb:sz≤100000:=by rw[ZS];exact h.size
 rw[←ZS]at HSZ VS HST Xc;rw[←Xo]at Xc hM;have HM:=Z9 hM;have hM61:M≤61:=by omega
 rw[←ZN]at HST;have HCX:=Z9 hcx;clear hM hR Z7 hB0 HC h0 h Z2 ZS Xo ZN hcx
 by_cases h5:500<sz
 ·have e:R=4:=by rw[HCX.out,if_pos (.inl h5)]
  have E:=Z9 e;clear e;go_enter Tryz.func46,Tryz.ntmps46;go_wp2_with fail;rw[←HW0.out];refine(HSZ.out _ (Below.refl _ _)).mono ?_;rintro e w1 ⟨rfl,hb⟩;have HB:=Z9 (HB0.out.trans (hb.mono HB0.out.size));clear hb c0 c1 c2 c3 c4;have d5:decide ((500:Int)<(sz:Int))=true:=by simp;omega
  go_wp2_with fail;go_ret;exact⟨by rw[E.out];rfl,HB.out⟩
 ·by_cases h6:60<dp
  ·have e:R=4:=by rw[HCX.out,if_pos (.inr h6)]
   have E:=Z9 e;clear e;go_enter Tryz.func46,Tryz.ntmps46;go_wp2_with fail;rw[←HW0.out];refine(HSZ.out _ (Below.refl _ _)).mono ?_;rintro e w1 ⟨rfl,hb⟩;have ZT:=Z9 hb;clear hb c0 c1 c2 c3 c4;obtain⟨c0,c1,c2,c3,c4⟩:=HCC.out w1 ZT.out;have d5:decide ((500:Int)<(sz:Int))=false:=by simp;omega
   go_wp2_with fail;refine(VS.out (by omega) _ ZT.out).mono ?_;rintro e w2 ⟨rfl,hb⟩;have HB:=Z9 (HB0.out.trans ((ZT.out.trans (hb.mono ZT.out.size)).mono HB0.out.size));clear hb c0 c1 c2 c3 c4;have d6:decide ((60:Int)<(M:Int))=true:=by have:=HM.out;simp;omega
   go_wp2_with fail;go_ret;exact⟨by rw[E.out];rfl,HB.out⟩
  ·have e:R=if st=0 then 8 else 0:=by rw[HCX.out,if_neg (by omega)]
   have E:=Z9 e;clear e;go_enter Tryz.func46,Tryz.ntmps46;go_wp2_with fail;rw[←HW0.out];refine(HSZ.out _ (Below.refl _ _)).mono ?_;rintro e w1 ⟨rfl,hb⟩;have ZT:=Z9 hb;clear hb c0 c1 c2 c3 c4;obtain⟨c0,c1,c2,c3,c4⟩:=HCC.out w1 ZT.out;have d5:decide ((500:Int)<(sz:Int))=false:=by simp;omega
   go_wp2_with fail;refine(VS.out (by omega) _ ZT.out).mono ?_;rintro e w2 ⟨rfl,hb⟩;have ZY:=Z9 (ZT.out.trans (hb.mono ZT.out.size));clear hb c0 c1 c2 c3 c4;obtain⟨c0,c1,c2,c3,c4⟩:=HCC.out w2 ZY.out;have d6:decide ((60:Int)<(M:Int))=false:=by have:=HM.out;simp;omega
   go_wp2_with fail;refine(HST.out (by omega) _ ZY.out).mono ?_;rintro e w3 ⟨rfl,hb⟩;have HB:=Z9 (HB0.out.trans ((ZY.out.trans (hb.mono ZY.out.size)).mono HB0.out.size));clear hb c0 c1 c2 c3 c4
   by_cases h0:st=0
   ·have q:((st:Int) == 0)=true:=znv h0
    have e:R=8:=by rw[E.out,if_pos h0]
    have E2:=Z9 e;clear e h0;go_wp2_with fail;go_ret;exact⟨by rw[E2.out];rfl,HB.out⟩
   ·have q:((st:Int) == 0)=false:=zfi h0
    have e:R=0:=by rw[E.out,if_neg h0]
    have E2:=Z9 e;clear e h0;go_wp2_with fail;go_ret;exact⟨by rw[E2.out];rfl,HB.out⟩
theorem zoh(n:Nat):SmR (zb5 n):=fun l hl x l' h=>by
 unfold zb5 at h
 split at h
 ·exact zks n false l hl x l' h
 ·exact zks n true l hl x l' h
noncomputable def zf9(s:ByteArray):Option Ex × Int × Int :=
 match lexL 0 s.data.toList with
 | .no i er=>(none,(i:Int),er)
 | .yes ts=>match zb5 20001 ts with
  | .ok x []=>if chkX x=0 then(some x,(s.size:Int),0)else(none,(s.size:Int),chkX x)
  | .ok _ (t :: _)=>(none,t.place,12)
  | .no []=>(none,(s.size:Int),12)
  | .no (t :: _)=>(none,t.place,12)
def RxP(w:World)(o:Option Ex × Int × Int)(e:Ending)(w':World):Prop :=
 ∃v,e=.returned (.tuple #[v,.int .i64 o.2.1,.int .i64 o.2.2])∧(match o.1 with |some x=>VEx w.heap.size x w' v |none=>v=.agg #[.int .u8 0,.string ⟨#[]⟩,.string ⟨#[]⟩,.int .i64 0,.slice none 0 0])∧Below w.heap.size w w'
theorem zk8{u:World}{b c:Nat}{v0 v1 v2 v3 v4:Value}(h:c≠b):(((((u.setCell ⟨b,0,none⟩ v0).setCell ⟨b,1,none⟩ v1).setCell ⟨b,2,none⟩ v2).setCell ⟨b,3,none⟩ v3).setCell ⟨b,4,none⟩ v4).heap[c]?=u.heap[c]?:=by
 rw[Below.heap_setCell _ _ _ _ (by show c≠b;exact h),Below.heap_setCell _ _ _ _ (by show c≠b;exact h),Below.heap_setCell _ _ _ _ (by show c≠b;exact h),Below.heap_setCell _ _ _ _ (by show c≠b;exact h),Below.heap_setCell _ _ _ _ (by show c≠b;exact h)]
theorem ycz(args:Array Value)(W:World):(callFunc 61 args).run Tryz.prog W=.ok (.enter 61 args) W:=by kernel_rfl
theorem zju{w:World}{s:ByteArray}{a er:Int}(Vk:er≠0)(HW:Hid (Calls Tryz.prog 60 #[.string s,.func (.func 61) #[] #[.pointer (some ⟨w.heap.size+1,0,none⟩)]] ((w.alloc zC).alloc zC) (fun e u=>e=.returned (.tuple #[.int .i64 a,.int .i64 er])∧Kp2 (w.heap.size+1) (w.heap.size+1) ((w.alloc zC).alloc zC) u∧∃z0 z1 z2 z3 z4,u.heap[w.heap.size+1]?=some (.cells #[z0,z1,z2,z3,z4] 25)))) :
 Calls Tryz.prog 25 #[.string s] w (RxP w (none,a,er)):=by
 have hmf:∀(fn:Fn)(first cap:Array Value)(w:World),(Instr.makeFunc fn first cap).run Tryz.prog w=.ok (.func fn first cap) w:=fun _ _ _ _=>rfl
 have Z3:Below w.heap.size w ((w.alloc zC).alloc zC):=(zaa w zC).alloc (by simp) _;have Z2:((w.alloc zC).alloc zC).heap[w.heap.size]?=some zC:=(Below.heap_alloc _ _ _ (by simp)).trans (heap_alloc_new w zC);have ZS:((w.alloc zC).alloc zC).heap.size=w.heap.size+1+1:=by simp
 go_enter Tryz.func25,Tryz.ntmps25;go_wp2_with fail;change Calls _ _ _ ((w.alloc zC).alloc zC) _;refine HW.out.mono ?_;rintro e u ⟨rfl,hk,z0,z1,z2,z3,z4,hz⟩;have hr:u.heap[w.heap.size]?=some (.cells #[.int .u8 0,.string ⟨#[]⟩,.string ⟨#[]⟩,.int .i64 0,.slice none 0 0] 25):=(hk.2.2.2.2 w.heap.size (by omega) (by omega) (by omega)).trans Z2;have HB:=Z9 (zjw Z3 hk (Nat.le_succ _));have e1:(er == 0)=false:=by simp[Vk]
 have e2:(er != 0)=true:=by simp[Vk]
 obtain⟨c0,c1,c2,c3,c4⟩:=zad hz;have fz:∀i,u.frozen? ⟨w.heap.size+1,i,none⟩=false:=Lib.frozen_of_heap hz
 have l1:=(Z8 hz);obtain⟨r0,r1,r2,r3,r4⟩:=zad hr;have fr:∀i,u.frozen? ⟨w.heap.size,i,none⟩=false:=Lib.frozen_of_heap hr
 have l0:=(Z8 hr);have hz':=zck hz (.int .u8 0) (.string ⟨#[]⟩) (.string ⟨#[]⟩) (.int .i64 0) (.slice none 0 0);have hr':=zck ((zk8 (v0:=.int .u8 0) (v1:=.string ⟨#[]⟩) (v2:=.string ⟨#[]⟩) (v3:=.int .i64 0) (v4:=.slice none 0 0) (show w.heap.size≠w.heap.size+1 by omega)).trans hr) (.int .u8 0) (.string ⟨#[]⟩) (.string ⟨#[]⟩) (.int .i64 0) (.slice none 0 0);have HRC:=Z9 (zad hr');have HBF:Hid (Below w.heap.size w ((((((((((u.setCell ⟨w.heap.size+1,0,none⟩ (.int .u8 0)).setCell ⟨w.heap.size+1,1,none⟩ (.string ⟨#[]⟩)).setCell ⟨w.heap.size+1,2,none⟩ (.string ⟨#[]⟩)).setCell ⟨w.heap.size+1,3,none⟩ (.int .i64 0)).setCell ⟨w.heap.size+1,4,none⟩ (.slice none 0 0)).setCell ⟨w.heap.size,0,none⟩ (.int .u8 0)).setCell ⟨w.heap.size,1,none⟩ (.string ⟨#[]⟩)).setCell ⟨w.heap.size,2,none⟩ (.string ⟨#[]⟩)).setCell ⟨w.heap.size,3,none⟩ (.int .i64 0)).setCell ⟨w.heap.size,4,none⟩ (.slice none 0 0))):=Z9 (((((((((HB.out.setCell (p:=⟨w.heap.size+1,0,none⟩) (Nat.le_succ _) _).setCell (p:=⟨w.heap.size+1,1,none⟩) (Nat.le_succ _) _).setCell (p:=⟨w.heap.size+1,2,none⟩) (Nat.le_succ _) _).setCell (p:=⟨w.heap.size+1,3,none⟩) (Nat.le_succ _) _).setCell (p:=⟨w.heap.size+1,4,none⟩) (Nat.le_succ _) _).setCell (p:=⟨w.heap.size,0,none⟩) (Nat.le_refl _) _).setCell (p:=⟨w.heap.size,1,none⟩) (Nat.le_refl _) _).setCell (p:=⟨w.heap.size,2,none⟩) (Nat.le_refl _) _).setCell (p:=⟨w.heap.size,3,none⟩) (Nat.le_refl _) _ |>.setCell (p:=⟨w.heap.size,4,none⟩) (Nat.le_refl _) _)
 clear hk hz hr Z3 Z2 ZS HW hz' hr';go_wp2_with fail;obtain⟨q0,q1,q2,q3,q4⟩:=HRC.out;exact bodyPost_ret (v:=.tuple #[.agg #[.int .u8 0,.string ⟨#[]⟩,.string ⟨#[]⟩,.int .i64 0,.slice none 0 0],.int .i64 a,.int .i64 er]) (by simp only[results,Tryz.results25];simp[go_sem,q0,q1,q2,q3,q4]) rfl ⟨_,rfl,rfl,HBF.out⟩
theorem ybm{w w':World}{o o':Option Ex × Int × Int}{e:Ending}(E:o=o')(h:RxP w o' e w'):RxP w o e w':=E ▸ h
theorem zxt{w Wg:World}{s:ByteArray}{a:Int}{x:Ex}(hx:GdX x)(ZS:x.size≤100000)(Yp:zb6 Wg)(Y8:Below Wg.heap.size Wg w)(HW:Hid (Calls Tryz.prog 60 #[.string s,.func (.func 61) #[] #[.pointer (some ⟨w.heap.size+1,0,none⟩)]] ((w.alloc zC).alloc zC) (fun e u=>e=.returned (.tuple #[.int .i64 a,.int .i64 0])∧Kp2 (w.heap.size+1) (w.heap.size+1) ((w.alloc zC).alloc zC) u∧∃lo,((w.alloc zC).alloc zC).heap.size≤lo∧CBx (w.heap.size+1) lo x u))) :
 Calls Tryz.prog 25 #[.string s] w (RxP w (if chkX x=0 then(some x,a,0)else(none,a,chkX x))):=by
 have hmf:∀(fn:Fn)(first cap:Array Value)(w:World),(Instr.makeFunc fn first cap).run Tryz.prog w=.ok (.func fn first cap) w:=fun _ _ _ _=>rfl
 have Z3:Below w.heap.size w ((w.alloc zC).alloc zC):=(zaa w zC).alloc (by simp) _;have Z2:((w.alloc zC).alloc zC).heap[w.heap.size]?=some zC:=(Below.heap_alloc _ _ _ (by simp)).trans (heap_alloc_new w zC);have hsw:((w.alloc zC).alloc zC).heap.size=w.heap.size+1+1:=by simp
 obtain⟨d,Xn,Wo⟩:=hx;obtain⟨K,hK⟩:∃K,K=chkX x:=⟨_,rfl⟩
 rw[←hK]
 obtain⟨OUT,Xl⟩:∃o,o=(if K=0 then(some x,a,0)else(none,a,K):Option Ex × Int × Int):=⟨_,rfl⟩
 rw[←Xl];have HOUT:=Z9 Xl
 have HCK:Hid (∀n cs u,ExAt n u cs x→Below w.heap.size w u→Calls Tryz.prog 46 #[.agg cs.toArray] u (IntP u K)):=Z9 (fun n cs u ZZ X7=>by
  rw[hK]
  exact zpa (max n d) x cs u Wg ⟨ZZ.up (by omega),Wo.up (by omega),ZS,⟨d,Xn⟩,Yp,Y8.trans (X7.mono Y8.size)⟩)
 clear hK Xn Wo ZS Yp Y8 Xl;go_enter Tryz.func25,Tryz.ntmps25;go_wp2_with fail;change Calls _ _ _ ((w.alloc zC).alloc zC) _;refine HW.out.mono ?_;rintro e u ⟨rfl,hk,lo,WK,n,xa,xl,xc,hz,hx⟩;have hr:u.heap[w.heap.size]?=some (.cells #[.int .u8 0,.string ⟨#[]⟩,.string ⟨#[]⟩,.int .i64 0,.slice none 0 0] 25):=(hk.2.2.2.2 w.heap.size (by omega) (by omega) (by omega)).trans Z2;have HB:=Z9 (zjw Z3 hk (Nat.le_succ _));obtain⟨c0,c1,c2,c3,c4⟩:=zad hz;have l1:=(Z8 hz);have l0:=(Z8 hr);have HCC:=Z9 (HCK.out n [.int .u8 x.kind,.string x.rat,.string x.name,.int .i64 x.date,.slice xa xl xc] u (hx.at fun g h=>h.2) HB.out)
 have HZ:=Z9 hz;have HR:=Z9 hr;have HX:=Z9 hx;have hlo2:w.heap.size+1+1≤lo:=by omega
 clear hk hz hr Z3 Z2 HW hx WK hsw;go_wp2_with fail;refine HCC.out.mono ?_;rintro e u2 ⟨rfl,hb⟩;have hz:=(hb.block _ l1).trans HZ.out;have hr:=(hb.block _ l0).trans HR.out;have ZY:=Z9 (HB.out.trans (hb.mono HB.out.size))
 have Zu:ExOn (fun g=>lo≤g∧g<u2.heap.size) n u2 [.int .u8 x.kind,.string x.rat,.string x.name,.int .i64 x.date,.slice xa xl xc] x:=(HX.out.keep (w':=u2) fun g ⟨_,g2⟩=>hb.block g g2).mono fun g ⟨g1,g2⟩=>⟨g1,Nat.lt_of_lt_of_le g2 hb.size⟩
 have HX2:=Z9 Zu;clear hb Zu c0 c1 c2 c3 c4 l0 l1;obtain⟨c0,c1,c2,c3,c4⟩:=zad hz;have fz:∀i,u2.frozen? ⟨w.heap.size+1,i,none⟩=false:=Lib.frozen_of_heap hz
 have l1:=(Z8 hz);obtain⟨r0,r1,r2,r3,r4⟩:=zad hr;have fr:∀i,u2.frozen? ⟨w.heap.size,i,none⟩=false:=Lib.frozen_of_heap hr
 have l0:=(Z8 hr)
 by_cases Xk:K=0
 ·subst Xk
  have hr':=zck hr (.int .u8 x.kind) (.string x.rat) (.string x.name) (.int .i64 x.date) (.slice xa xl xc);have HRC:=Z9 (zad hr');have HBF:Hid (Below w.heap.size w (((((u2.setCell ⟨w.heap.size,0,none⟩ (.int .u8 x.kind)).setCell ⟨w.heap.size,1,none⟩ (.string x.rat)).setCell ⟨w.heap.size,2,none⟩ (.string x.name)).setCell ⟨w.heap.size,3,none⟩ (.int .i64 x.date)).setCell ⟨w.heap.size,4,none⟩ (.slice xa xl xc))):=Z9 (((((ZY.out.setCell (p:=⟨w.heap.size,0,none⟩) (Nat.le_refl _) _).setCell (p:=⟨w.heap.size,1,none⟩) (Nat.le_refl _) _).setCell (p:=⟨w.heap.size,2,none⟩) (Nat.le_refl _) _).setCell (p:=⟨w.heap.size,3,none⟩) (Nat.le_refl _) _).setCell (p:=⟨w.heap.size,4,none⟩) (Nat.le_refl _) _)
  have HV:Hid (VEx w.heap.size x (((((u2.setCell ⟨w.heap.size,0,none⟩ (.int .u8 x.kind)).setCell ⟨w.heap.size,1,none⟩ (.string x.rat)).setCell ⟨w.heap.size,2,none⟩ (.string x.name)).setCell ⟨w.heap.size,3,none⟩ (.int .i64 x.date)).setCell ⟨w.heap.size,4,none⟩ (.slice xa xl xc)) (.agg #[.int .u8 x.kind,.string x.rat,.string x.name,.int .i64 x.date,.slice xa xl xc])):=Z9 ⟨n,xa,xl,xc,rfl,(HX2.out.keep (w':=(((((u2.setCell ⟨w.heap.size,0,none⟩ (.int .u8 x.kind)).setCell ⟨w.heap.size,1,none⟩ (.string x.rat)).setCell ⟨w.heap.size,2,none⟩ (.string x.name)).setCell ⟨w.heap.size,3,none⟩ (.int .i64 x.date)).setCell ⟨w.heap.size,4,none⟩ (.slice xa xl xc))) fun g ⟨g1,_⟩=>zk8 (show g≠w.heap.size by omega)).mono fun g ⟨g1,g2⟩=>⟨by omega,by simpa only [World.size_setCell]using g2⟩⟩
  clear hz hr hr';go_wp2_with fail;obtain⟨q0,q1,q2,q3,q4⟩:=HRC.out;exact bodyPost_ret (v:=.tuple #[.agg #[.int .u8 x.kind,.string x.rat,.string x.name,.int .i64 x.date,.slice xa xl xc],.int .i64 a,.int .i64 0]) (by simp only[results,Tryz.results25];simp[go_sem,q0,q1,q2,q3,q4]) rfl (ybm (show OUT=(some x,a,0)by rw[HOUT.out];simp) ⟨_,rfl,HV.out,HBF.out⟩)
 ·have e2:(K != 0)=true:=by simp[Xk]
  have hr':=zck ((zk8 (v0:=.int .u8 0) (v1:=.string ⟨#[]⟩) (v2:=.string ⟨#[]⟩) (v3:=.int .i64 0) (v4:=.slice none 0 0) (show w.heap.size≠w.heap.size+1 by omega)).trans hr) (.int .u8 0) (.string ⟨#[]⟩) (.string ⟨#[]⟩) (.int .i64 0) (.slice none 0 0);have HRC:=Z9 (zad hr');have HBF:Hid (Below w.heap.size w ((((((((((u2.setCell ⟨w.heap.size+1,0,none⟩ (.int .u8 0)).setCell ⟨w.heap.size+1,1,none⟩ (.string ⟨#[]⟩)).setCell ⟨w.heap.size+1,2,none⟩ (.string ⟨#[]⟩)).setCell ⟨w.heap.size+1,3,none⟩ (.int .i64 0)).setCell ⟨w.heap.size+1,4,none⟩ (.slice none 0 0)).setCell ⟨w.heap.size,0,none⟩ (.int .u8 0)).setCell ⟨w.heap.size,1,none⟩ (.string ⟨#[]⟩)).setCell ⟨w.heap.size,2,none⟩ (.string ⟨#[]⟩)).setCell ⟨w.heap.size,3,none⟩ (.int .i64 0)).setCell ⟨w.heap.size,4,none⟩ (.slice none 0 0))):=Z9 (((((((((ZY.out.setCell (p:=⟨w.heap.size+1,0,none⟩) (Nat.le_succ _) _).setCell (p:=⟨w.heap.size+1,1,none⟩) (Nat.le_succ _) _).setCell (p:=⟨w.heap.size+1,2,none⟩) (Nat.le_succ _) _).setCell (p:=⟨w.heap.size+1,3,none⟩) (Nat.le_succ _) _).setCell (p:=⟨w.heap.size+1,4,none⟩) (Nat.le_succ _) _).setCell (p:=⟨w.heap.size,0,none⟩) (Nat.le_refl _) _).setCell (p:=⟨w.heap.size,1,none⟩) (Nat.le_refl _) _).setCell (p:=⟨w.heap.size,2,none⟩) (Nat.le_refl _) _).setCell (p:=⟨w.heap.size,3,none⟩) (Nat.le_refl _) _ |>.setCell (p:=⟨w.heap.size,4,none⟩) (Nat.le_refl _) _)
  clear hz hr hr';go_wp2_with fail;obtain⟨q0,q1,q2,q3,q4⟩:=HRC.out;exact bodyPost_ret (v:=.tuple #[.agg #[.int .u8 0,.string ⟨#[]⟩,.string ⟨#[]⟩,.int .i64 0,.slice none 0 0],.int .i64 a,.int .i64 K]) (by simp only[results,Tryz.results25];simp[go_sem,q0,q1,q2,q3,q4]) rfl (ybm (HOUT.out.trans (if_neg Xk)) ⟨_,rfl,rfl,HBF.out⟩)
theorem zkq(s:ByteArray)(w Wg:World)(hs:s.size≤20000)(Yp:zb6 Wg)(Y8:Below Wg.heap.size Wg w):Calls Tryz.prog 25 #[.string s] w (RxP w (zf9 s)):=by
 have YX:((w.alloc zC).alloc zC).heap[w.heap.size+1]?=some zC:=by
  have:=heap_alloc_new (w.alloc zC) zC
  rwa [World.size_alloc]at this
 have HW:=zog 61 (w.heap.size+1) zC (CBx (w.heap.size+1)) (zb5 20001) (ybp _) ycz (CBx.stab _) s ((w.alloc zC).alloc zC) hs YX;unfold zf9
 cases hl:lexL 0 s.data.toList with
 |no i er =>
  rw[hl]at HW;exact zju (zi4 hl) (Z9 (HW.mono fun e u ⟨h1,h2,h3⟩=>⟨h1,h2,_,_,_,_,_,h3⟩))
 |yes ts =>
  rw[hl]at HW;have hts:=zfh _ 0 _ (Nat.le_refl _) hl;have Z6:=zgn hl;rw[zab]at Z6;dsimp only
  cases hf:zb5 20001 ts with
  |no l =>
   cases l with
   |nil =>
    refine zju (by decide) (Z9 (HW.mono fun e u h => ?_));have h2:=zjp hf h;exact⟨h2.1,h2.2.1,_,_,_,_,_,h2.2.2⟩
   |cons t l =>
    refine zju (by decide) (Z9 (HW.mono fun e u h => ?_));have h2:=zjp hf h;exact⟨h2.1,h2.2.1,_,_,_,_,_,h2.2.2⟩
  |ok x l =>
   have hg:=zoh 20001 ts hts x l hf
   cases l with
   |nil =>
    refine zxt hg.1 (by have:=hg.2;omega) Yp Y8 (Z9 (HW.mono fun e u h => ?_));obtain⟨lo,h1,h2,h3,h4⟩:=zjo hf h;exact⟨h1,h4,lo,h2,h3⟩
   |cons t l =>
    refine zju (by decide) (Z9 (HW.mono fun e u h => ?_));obtain⟨lo,h1,h2,⟨n,a,len,cap,h3,_⟩,h4⟩:=zjo hf h;exact⟨h1,h4,_,_,_,_,_,h3⟩
def LZ(l:List UInt8)(zs:List Tk):Prop:=∃ts,lexL 0 l=.yes ts∧ts.map zpT=zs
theorem yc7(d:Int)(l:List Tk):(l.map (mvT d)).map zpT=l.map zpT:=by
 rw[List.map_map];exact List.map_congr_left fun t _=>rfl
theorem LZ.at{l:List UInt8}{zs:List Tk}(h:LZ l zs)(off:Nat):∃ts,lexL off l=.yes ts∧ts.map zpT=zs:=by
 obtain⟨ts,h1,h2⟩:=h;refine⟨ts.map (mvT off),?_,by rw[yc7];exact h2⟩;have:=zu7 off l.length 0 l (Nat.le_refl _);rw[Nat.zero_add]at this;rw[this,h1];rfl
theorem LZ.nil:LZ [] []:=⟨[],zbc rfl,rfl⟩
theorem LZ.tok{l r:List UInt8}{zs:List Tk}{t:Tk}{n:Nat}(hs:skS false l=0)(ho:oneL l=.yes t n)(hr:l.drop n=r)(h:LZ r zs):LZ l (zpT t :: zs):=by
 obtain⟨ts,h1,h2⟩:=h.at (0+0+n);have hp:=zd6 ho;have Y6:=zi2 ho;have hd:l.drop (0+n)=r:=by rw[Nat.zero_add];exact hr
 have:=zcc (off:=0) (l:=l) (t:=t) (n:=n) (by omega) (by rw[hs];exact ho);rw[hs,hd,h1]at this;exact⟨_,this,by rw[←h2];rfl⟩
theorem LZ.lf{a l:List UInt8}{za zs:List Tk}(ha:LZ a za)(h:LZ l zs):LZ (a ++ 10 :: l) (za ++ zs):=by
 obtain⟨ta,h1,h2⟩:=ha;obtain⟨ts,h3,h4⟩:=h.at (0+a.length+1);have:=zrj (c:=10) rfl l a.length 0 a (Nat.le_refl _);rw[h1]at this;dsimp only at this;rw[h3]at this;exact⟨ta ++ ts,this,by rw[List.map_append,h2,h4]⟩
def zmk(c:UInt8):Tk:=⟨5,bsL [c],bsL [],0,0⟩
def zwd(s:List UInt8):Tk:=⟨1,bsL s,bsL [],0,0⟩
theorem LZ.mark{c:UInt8}{l:List UInt8}{zs:List Tk}(hc:mkB c=true)(hd:¬(c.toNat=45∧dgH l=true))(h:LZ l zs):LZ (c :: l) (zmk c :: zs):=by
 have hn:=(zk2 c).1 hc;exact LZ.tok (t:=⟨5,bsL [c],bsL [],0,0⟩) (zhp (by unfold blQ;simp;omega) (by omega)) (zde hc hd) rfl h
theorem LZ.word{w l:List UInt8}{zs:List Tk}{c:UInt8}{r:List UInt8}(hw:w=c :: r)(hc:letB c=true)(hr:spn wdQ r=r.length)(UD:w.length≤40)(hl:l=[]∨∃d q,l=d :: q∧wdQ d=false)(h:LZ l zs):LZ (w ++ l) (zwd w :: zs):=by
 subst hw
 have Xh:spn wdQ (r ++ l)=r.length:=by
  rcases hl with rfl |⟨d,q,rfl,hd⟩
  ·rw[List.append_nil];exact hr
  ·rw[ziz r q hd];exact hr
 have hb:¬blQ c=true∧¬c.toNat=35:=by
  unfold letB at hc;unfold blQ;simp at hc ⊢;omega
 refine LZ.tok (t:=zwd (c :: r)) (n:=r.length+1) ?_ ?_ ?_ h
 ·rw[List.cons_append];exact zhp hb.1 hb.2
 ·rw[List.cons_append,zdd hc,Xh,if_neg (by rw[List.length_cons]at UD;omega)]
  have e:(c :: (r ++ l)).take (r.length+1)=c :: r:=by rw[List.take_succ_cons,List.take_left]
  rw[e];rfl
 ·rw[List.cons_append,List.drop_succ_cons,List.drop_left]
def StpE(X:List Tk):Prop:=tIs 5 [42] X=false∧tIs 5 [43] X=false∧tIs 5 [45] X=false
def ExE{α:Type}(f:List Tk→Rd α):Prop:=∀l X a l',StpE X→f l=.ok a l'→f (l ++ X)=.ok a (l' ++ X)
theorem zt0{α β:Type}{r r':Rd α}{g:α→List Tk→Rd β}{b:β}{l' X:List Tk}(hX:StpE X)(hr:∀a l,r=.ok a l→r'=.ok a (l ++ X))(hg:∀a,ExE (g a))(h:r.bind g=.ok b l'):r'.bind g=.ok b (l' ++ X):=by
 obtain⟨a,l1,e1,e2⟩:=zak h;rw[hr a l1 e1];exact hg a l1 X b l' hX e2
theorem ExE.bind{α β:Type}{f:List Tk→Rd α}{g:α→List Tk→Rd β}(hf:ExE f)(hg:∀a,ExE (g a)):ExE fun l=>(f l).bind g:=fun l X _b _l' hX h=>zt0 hX (fun a l1 e=>hf l X a l1 hX e) hg h
theorem ExE.ok{α:Type}(a:α):ExE fun l=>Rd.ok a l:=fun l X b l' _ h=>by injection h with h1 h2;subst h1 h2;rfl
theorem zh6(k:Int)(s:List UInt8):ExE (tEat k s):=fun l X a l' _ h=>by
 cases l with
 |nil=>cases h
 |cons t r =>
  unfold tEat at h ⊢;have e:tIs k s (t :: r ++ X)=tIs k s (t :: r):=rfl;rw[e]
  split at h
  ·rename_i h1;rw[if_pos h1];injection h with _ h;subst h;rfl
  ·cases h
theorem z8a(k:Int):ExE (tOf k):=fun l X a l' _ h=>by
 cases l with
 |nil=>cases h
 |cons t r =>
  show(if t.kind=k then Rd.ok t (r ++ X)else _)=_
  change (if t.kind=k then Rd.ok t r else _)=_ at h
  split at h
  ·rename_i h1;rw[if_pos h1];injection h with h h2;subst h h2;rfl
  ·cases h
theorem tName_exe:ExE zdc:=fun l X a l' _ h=>by
 cases l with
 |nil=>cases h
 |cons t r =>
  show(if t.kind=2∨(t.kind=1∧kwB t.text.data.toList=false)then Rd.ok t.text (r ++ X)else _)=_
  change (if t.kind=2∨(t.kind=1∧kwB t.text.data.toList=false)then Rd.ok t.text r else _)=_ at h
  split at h
  ·rename_i h1;rw[if_pos h1];injection h with h h2;subst h h2;rfl
  ·cases h
theorem zl5:∀(ps:List RdX),(∀p ∈ ps,ExE p)→∀c,ExE (zcg ps c)
 | [],_,_=>ExE.ok _
 |p :: ps,hp,c=>fun l X a l' hX h=>by
  unfold zcg at h ⊢;refine zt0 hX (fun u l1 e => ?_) (fun _=>(hp p (by simp)).bind fun x=>(zl5 ps (fun q hq=>hp q (by simp[hq])) true).bind fun xs=>ExE.ok _) h
  cases c with
  |true=>exact zh6 _ _ l X u l1 hX e
  |false =>
   have e2:Rd.ok () l=Rd.ok u l1:=e
   injection e2 with _ e2;subst e2;rfl
theorem zdx(k:Int)(ps:List RdX)(hp:∀p ∈ ps,ExE p):ExE (zby k ps) :=
 (zh6 _ _).bind fun _=>(zl5 ps hp _).bind fun _=>(zh6 _ _).bind fun _=>ExE.ok _
theorem z1z:ExE tFix:=tName_exe.bind fun n=>(zh6 _ _).bind fun _=>fun l X a l' hX h=>by
 cases l with
 |nil=>cases h
 |cons t r =>
  have e:tIs 1 [110,111,119] (t :: r ++ X)=tIs 1 [110,111,119] (t :: r):=rfl;rw[e]
  split at h
  ·rename_i h1;rw[if_pos h1];injection h with h h2;subst h h2;rfl
  ·rename_i h1
   rw[if_neg h1];exact((z8a 4).bind fun t=>ExE.ok (Ex.mk 2 tE0 n t.date [])) (t :: r) X a l' hX h
theorem zuf(S:RdX)(hS:ExE S):ExE (zdl S):=fun l X a l' hX h=>by
 cases l with
 |nil=>cases h
 |cons t r =>
  unfold zdl at h ⊢;have e:tIs 5 [40] (t :: r ++ X)=tIs 5 [40] (t :: r):=rfl;rw[e]
  split at h
  ·rename_i h1
   rw[if_pos h1];exact(hS.bind fun x=>(zh6 5 [41]).bind fun _=>ExE.ok x) r X a l' hX h
  ·rename_i h1
   rw[if_neg h1]
   show(if t.kind=3 then Rd.ok (Ex.mk 1 t.rat tE0 0 []) (r ++ X)else tFix (t :: r ++ X))=_
   change (if t.kind=3 then Rd.ok (Ex.mk 1 t.rat tE0 0 []) r else tFix (t :: r))=_ at h
   split at h
   ·rename_i h2;rw[if_pos h2];injection h with h h2;subst h h2;rfl
   ·rename_i h2;rw[if_neg h2];exact z1z _ X a l' hX h
theorem zqt(S T:RdX)(hS:ExE S)(hT:ExE T):ExE (zbu S T):=fun l X a l' hX h=>by
 have h2:∀p ∈ [S,S],ExE p:=by simp[hS]
 have h3:∀p ∈ [T,S,S],ExE p:=by simp[hS,hT]
 cases l with
 |nil=>cases h
 |cons t r =>
  unfold zbu at h ⊢;have e:zap (t :: r ++ X)=zap (t :: r):=rfl;rw[e]
  split at h
  ·rename_i h1;rw[if_pos h1];exact zdx _ _ h2 r X a l' hX h
  rename_i n1;rw[if_neg n1]
  split at h
  ·rename_i h1;rw[if_pos h1];exact zdx _ _ h2 r X a l' hX h
  rename_i n2;rw[if_neg n2]
  split at h
  ·rename_i h1;rw[if_pos h1];exact zdx _ _ h3 r X a l' hX h
  rename_i n3;rw[if_neg n3]
  split at h
  ·rename_i h1;rw[if_pos h1];exact zuf S hS (t :: r) X a l' hX h
  ·cases h
theorem zoq(F:RdX)(hF:ExE F):∀(n:Nat)(x:Ex),ExE (zet F n x)
 |0,_=>fun l X a l' _ h=>by cases h
 |n+1,x=>fun l X a l' hX h=>by
  unfold zet at h ⊢
  cases l with
  |nil =>
   rw[List.nil_append,if_neg (by rw[hX.1];decide)];rw[if_neg (by decide)]at h
   injection h with h h2;subst h h2;rfl
  |cons t r =>
   have e:tIs 5 [42] (t :: r ++ X)=tIs 5 [42] (t :: r):=rfl;rw[e]
   split at h
   ·rename_i h1;rw[if_pos h1];exact(hF.bind fun y=>zoq F hF n _) r X a l' hX h
   ·rename_i h1;rw[if_neg h1];injection h with h h2;subst h h2;rfl
theorem zkf(F:RdX)(hF:ExE F)(n:Nat):ExE (zda F n):=hF.bind fun x=>zoq F hF n x
theorem znb(F:RdX)(hF:ExE F)(m:Nat):∀(n:Nat)(x:Ex),ExE (tAdd F m n x)
 |0,_=>fun l X a l' _ h=>by cases h
 |n+1,x=>fun l X a l' hX h=>by
  unfold tAdd at h ⊢
  cases l with
  |nil =>
   rw[List.nil_append,if_neg (by rw[hX.2.1];decide),if_neg (by rw[hX.2.2];decide)];rw[if_neg (by decide),if_neg (by decide)]at h
   injection h with h h2;subst h h2;rfl
  |cons t r =>
   have e:tIs 5 [43] (t :: r ++ X)=tIs 5 [43] (t :: r):=rfl;have e2:tIs 5 [45] (t :: r ++ X)=tIs 5 [45] (t :: r):=rfl;rw[e,e2]
   split at h
   ·rename_i h1;rw[if_pos h1];exact((zkf F hF m).bind fun y=>znb F hF m n _) r X a l' hX h
   rename_i h1;rw[if_neg h1]
   split at h
   ·rename_i h1;rw[if_pos h1];exact((zkf F hF m).bind fun y=>znb F hF m n _) r X a l' hX h
   ·rename_i h1;rw[if_neg h1];injection h with h h2;subst h h2;rfl
theorem z1u(F:RdX)(hF:ExE F)(n:Nat):ExE (tSum F n):=(zkf F hF n).bind fun x=>znb F hF n n x
theorem zuc(S T:RdX)(hS:ExE S)(hT:ExE T):ExE (zdk S T):=fun l X a l' hX h=>by
 have h2:∀p ∈ [S,S],ExE p:=by simp[hS]
 have h3:∀p ∈ [T,T],ExE p:=by simp[hT]
 have h4:∀p ∈ [T],ExE p:=by simp[hT]
 cases l with
 |nil=>cases h
 |cons t r =>
  unfold zdk at h ⊢;have e:zap (t :: r ++ X)=zap (t :: r):=rfl;rw[e]
  split at h
  ·rename_i h1;rw[if_pos h1];exact zdx _ _ h2 r X a l' hX h
  rename_i n1;rw[if_neg n1]
  split at h
  ·rename_i h1;rw[if_pos h1];exact zdx _ _ h2 r X a l' hX h
  rename_i n2;rw[if_neg n2]
  split at h
  ·rename_i h1;rw[if_pos h1];exact zdx _ _ h3 r X a l' hX h
  rename_i n3;rw[if_neg n3]
  split at h
  ·rename_i h1;rw[if_pos h1];exact zdx _ _ h3 r X a l' hX h
  rename_i n4;rw[if_neg n4]
  split at h
  ·rename_i h1;rw[if_pos h1];exact zdx _ _ h4 r X a l' hX h
  ·cases h
theorem zkt:∀(n:Nat)(b:Bool),ExE (rdE n b)
 |0,_=>fun l X a l' _ h=>by cases h
 |n+1,true=>z1u _ (zqt _ _ (zkt n true) (zkt n false)) _
 |n+1,false=>zuc _ _ (zkt n true) (zkt n false)
theorem zgz{k:Int}{s:List UInt8}{t:Tk}{l:List Tk}(h:tIs k s (t :: l)=true):tEat k s (t :: l)=.ok () l:=if_pos h
def SX(b:Bool)(zs:List Tk)(x:Ex):Prop:=∀n,zs.length<n→rdE n b zs=.ok x []
theorem SX.of{b:Bool}{zs:List Tk}{x:Ex}{n:Nat}(h:rdE n b zs=.ok x [])(hn:zs.length<n):SX b zs x:=fun m hm=>(zku m n b zs hm hn).trans h
theorem SX.ext{b:Bool}{zs:List Tk}{x:Ex}(h:SX b zs x){X:List Tk}(hX:StpE X){n:Nat}(hn:zs.length<n):rdE n b (zs ++ X)=.ok x X:=by
 have:=zkt n b zs X x [] hX (h n hn)
 rwa [List.nil_append]at this
theorem zed(c d:UInt8)(X:List Tk):tIs 5 [d] (zmk c :: X)=(c == d):=by
 show(decide ((5:Int)=5) && ((bsL [c]).data.toList == [d]))=_
 rw[zcz];simp
theorem zkk{c:UInt8}(h:c≠42∧c≠43∧c≠45)(X:List Tk):StpE (zmk c :: X):=by
 refine⟨?_,?_,?_⟩
 all_goals
  rw[zed];simp[h]
def xoX(o:Option Ex × Int × Int):Ex:=match o.1 with |some x=>x |none=>tX0
theorem ybb(B:Nat)(k d:Int)(a b:ByteArray)(u:World):VEx B (.mk k a b d []) u (.agg #[.int .u8 k,.string a,.string b,.int .i64 d,.slice none 0 0]) :=
 ⟨1,none,0,0,rfl,none,0,0,rfl,rfl,.inl rfl⟩
theorem zjt{w w':World}{o:Option Ex × Int × Int}{e:Ending}(h:RxP w o e w') :
 ∃n a len cap,e=.returned (.tuple #[.agg #[.int .u8 (xoX o).kind,.string (xoX o).rat,.string (xoX o).name,.int .i64 (xoX o).date,.slice a len cap],.int .i64 o.2.1,.int .i64 o.2.2])∧ExAt n w' [.int .u8 (xoX o).kind,.string (xoX o).rat,.string (xoX o).name,.int .i64 (xoX o).date,.slice a len cap] (xoX o)∧Below w.heap.size w w':=by
 obtain⟨v,rfl,hv,hb⟩:=h
 have hv2:VEx w.heap.size (xoX o) w' v:=by
  unfold xoX
  cases ho:o.1 with
  |some x=>rw[ho]at hv;exact hv
  |none=>rw[ho]at hv;rw[show v=.agg #[.int .u8 0,.string ⟨#[]⟩,.string ⟨#[]⟩,.int .i64 0,.slice none 0 0]from hv];exact ybb _ _ _ _ _ _
 obtain⟨n,a,len,cap,rfl,hx⟩:=hv2;exact⟨n,a,len,cap,rfl,hx.at fun g h=>h.2,hb⟩
theorem znh{s:ByteArray}{x:Ex}{i:Int}(h:zf9 s=(some x,i,0)):∃zs,LZ s.data.toList zs∧zb5 20001 zs=.ok x []∧chkX x=0∧i=(s.size:Int):=by
 unfold zf9 at h
 cases hl:lexL 0 s.data.toList with
 |no j er=>rw[hl]at h;injection h with h _;cases h
 |yes ts =>
  rw[hl]at h;dsimp only at h
  cases hw:zb5 20001 ts with
  |no l =>
   rw[hw]at h
   cases l with
   |nil=>injection h with h _;cases h
   |cons t l=>injection h with h _;cases h
  |ok y l =>
   rw[hw]at h
   cases l with
   |cons t l=>injection h with h _;cases h
   |nil =>
    dsimp only at h
    by_cases hc:chkX y=0
    ·rw[if_pos hc]at h
     injection h with h1 h2
     injection h1 with h1
     injection h2 with h2 _
     subst h1;refine⟨ts.map zpT,⟨ts,hl,rfl⟩,?_,hc,h2.symm⟩;rw[zqk,hw];rfl
    ·rw[if_neg hc]at h;injection h with h _;cases h
theorem zy9{l:List UInt8}{zs:List Tk}(h:LZ l zs):zs.length≤l.length:=by
 obtain⟨ts,h1,h2⟩:=h;have:=zgn h1;rw[←h2,List.length_map];exact this
theorem zt7{S T:RdX}{l:List Tk}{x:Ex}{l':List Tk}(h:zdk S T l=.ok x l'):11≤x.kind∧x.kind≤15:=by
 have hk:∀(k:Int)(ps:List RdX)(l:List Tk),zby k ps l=.ok x l'→x.kind=k:=fun k ps l h=>by
  unfold zby at h;obtain⟨u,l1,e1,h⟩:=zak h;obtain⟨xs,l2,e2,h⟩:=zak h;obtain⟨v,l3,e3,h⟩:=zak h
  injection h with h1 h2
  rw[←h1];rfl
 unfold zdk at h
 split at h
 ·have:=hk _ _ _ h;omega
 split at h
 ·have:=hk _ _ _ h;omega
 split at h
 ·have:=hk _ _ _ h;omega
 split at h
 ·have:=hk _ _ _ h;omega
 split at h
 ·have:=hk _ _ _ h;omega
 ·cases h
theorem zxb{x:Ex}(h:11≤x.kind∧x.kind≤15):x.srt≠1:=by
 rw[Ex.srt_is]
 have hs:∃ps,shpL x.kind=some (ps,2):=by
  obtain⟨k,hk⟩:∃k,k=x.kind:=⟨_,rfl⟩
  rw[←hk]at h ⊢
  rcases(by omega:k=11∨k=12∨k=13∨k=14∨k=15)with rfl |rfl |rfl |rfl |rfl
  all_goals exact⟨_,rfl⟩
 obtain⟨ps,hp⟩:=hs;unfold srtP;rw[hp];dsimp only
 split<;>decide
theorem z8i{x:Ex}(h:numX x=true):x.srt=1∧chkX x=0:=by
 unfold numX at h;rw[Bool.and_eq_true]at h;exact⟨by simpa using h.2,by simpa using h.1⟩
theorem zl1{n:Nat}{zs:List Tk}{x:Ex}{l:List Tk}(h:zb5 n zs=.ok x l):∃b,zb5 n zs=rdE n b zs∧(b=false→11≤x.kind∧x.kind≤15):=by
 have key:∀b,rdE n b zs=.ok x l→(b=false→11≤x.kind∧x.kind≤15):=fun b hb e=>by
  subst e
  cases n with
  |zero=>cases hb
  |succ n=>exact zt7 hb
 unfold zb5 at h ⊢
 split
 ·rename_i hc;rw[if_pos hc]at h;exact⟨false,rfl,key false h⟩
 ·rename_i hc;rw[if_neg hc]at h;exact⟨true,rfl,fun e=>by cases e⟩
theorem yb7{s:ByteArray}{x:Ex}{i:Int}(hs:s.size≤20000)(h:zf9 s=(some x,i,0))(hn:numX x=true):∃zs,LZ s.data.toList zs∧SX true zs x∧zs.length≤s.size:=by
 obtain⟨zs,h1,h2,_,_⟩:=znh h;have hl:=zy9 h1;rw[zab]at hl;obtain⟨b,e,hb⟩:=zl1 h2
 cases b with
 |false=>exact absurd (z8i hn).1 (zxb (hb rfl))
 |true=>exact⟨zs,h1,SX.of (n:=20001) (by rw[←e];exact h2) (by omega),hl⟩
section
variable {a b c:List UInt8} {za zb zc:List Tk} {x y z:Ex}
end
open Go.RowKit
theorem z9u{s:ByteArray}{zs:List Tk}{x:Ex}(h:LZ s.data.toList zs)(hr:zb5 20001 zs=.ok x []):GdX x∧x.size≤s.size:=by
 obtain⟨ts,h1,h2⟩:=h;have h3:=zqk 20001 ts;rw[h2,hr]at h3;have hts:=zfh _ 0 _ (Nat.le_refl _) h1;have hl:=zgn h1;rw[zab]at hl
 cases hw:zb5 20001 ts with
 |no l=>rw[hw]at h3;cases h3
 |ok y l =>
  rw[hw]at h3
  injection h3 with h4 h5
  subst h4;have:=zoh 20001 ts hts _ l hw;exact⟨this.1,by omega⟩
theorem zng{s:ByteArray}(h:(zf9 s).2.2=0):∃x,zf9 s=(some x,(s.size:Int),0):=by
 unfold zf9 at h ⊢
 cases hl:lexL 0 s.data.toList with
 |no j er=>rw[hl]at h;exact absurd h (zi4 hl)
 |yes ts =>
  rw[hl]at h;dsimp only at h ⊢
  cases hw:zb5 20001 ts with
  |no l=>rw[hw]at h;cases l<;>cases h
  |ok y l =>
   rw[hw]at h
   cases l with
   |cons t l=>cases h
   |nil =>
    dsimp only at h ⊢
    by_cases hc:chkX y=0
    ·rw[if_pos hc];exact⟨y,rfl⟩
    ·rw[if_neg hc]at h;exact absurd h hc
theorem zxl{Wg:World}(hs:zb6 Wg){s:ByteArray}{x:Ex}{i:Int}(h:zf9 s=(some x,i,0)){n:Nat}{a:Option Addr}{len cap:Nat}{w:World}(ZZ:ExAt n w [.int .u8 x.kind,.string x.rat,.string x.name,.int .i64 x.date,.slice a len cap] x)(hb:Below Wg.heap.size Wg w) :
 Calls Tryz.prog 40 #[.agg #[.int .u8 x.kind,.string x.rat,.string x.name,.int .i64 x.date,.slice a len cap]] w (BelB w (numX x)):=by
 obtain⟨zs,h1,h2,h3,_⟩:=znh h;obtain⟨⟨d,g1,g2⟩,g3⟩:=z9u h1 h2
 have hc:x.size≤500∧x.depth≤60:=by
  unfold chkX at h3
  split at h3
  ·cases h3
  ·rename_i q;omega
 exact zdo (max n d) x _ w Wg ⟨ZZ.up (Nat.le_max_left _ _),g2.up (Nat.le_max_right _ _),by omega,zh7 (by omega) g1.tight,hs,hb⟩
def RdA(X:Ex)(E:Int)(W:World)(e:Ending)(w':World):Prop :=
 ∃n p l k i,e=.returned (.tuple #[.agg #[.int .u8 X.kind,.string X.rat,.string X.name,.int .i64 X.date,.slice p l k],.int .i64 i,.int .i64 E])∧ExAt n w' [.int .u8 X.kind,.string X.rat,.string X.name,.int .i64 X.date,.slice p l k] X∧Below W.heap.size W w'
structure TxA(w:World)(a:ByteArray)(X:Ex)(E:Int):Prop where
 rd:∀W,Below w.heap.size w W→Calls Tryz.prog 25 #[.string a] W (RdA X E W)
 num:E=0→∀n p l k W,Below w.heap.size w W→ExAt n W [.int .u8 X.kind,.string X.rat,.string X.name,.int .i64 X.date,.slice p l k] X→Calls Tryz.prog 40 #[.agg #[.int .u8 X.kind,.string X.rat,.string X.name,.int .i64 X.date,.slice p l k]] W (BelB W (numX X))
 sx:E=0→numX X=true→∃zs,LZ a.data.toList zs∧SX true zs X∧zs.length≤3000
theorem zm4{Wg w:World}(hs:zb6 Wg)(hb:Below Wg.heap.size Wg w)(a:ByteArray)(h:a.size≤3000):∃X E,TxA w a X E:=by
 refine⟨xoX (zf9 a),(zf9 a).2.2,fun W hW => ?_,fun hE n p l k W hW ZZ => ?_,fun hE hn => ?_⟩
 ·refine(zkq a W Wg (by omega) hs (hb.trans (hW.mono hb.size))).mono fun e u h => ?_
  obtain⟨n,p,l,k,h1,h2,h3⟩:=zjt h;exact⟨n,p,l,k,_,h1,h2,h3⟩
 ·obtain⟨x,hx⟩:=zng hE
  rw[hx]at ZZ ⊢;exact zxl hs hx ZZ (hb.trans (hW.mono hb.size))
 ·obtain⟨x,hx⟩:=zng hE
  rw[hx]at hn ⊢;obtain⟨zs,h1,h2,h3⟩:=yb7 (by omega) hx hn;exact⟨zs,h1,h2,by omega⟩
theorem bap(s t:ByteArray):(s ++ t).data.toList=s.data.toList ++ t.data.toList:=by simp
end Go.Proofs.YtkobkpepgdddeaaGreatDoor
