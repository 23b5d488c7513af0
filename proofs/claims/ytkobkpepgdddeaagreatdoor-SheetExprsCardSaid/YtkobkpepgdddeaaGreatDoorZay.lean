/-
  The reference's reader: named, name. No condition.
-/
import Derived.Test.YtkobkpepgdddeaaGreatDoorZax
import Derived.Test.YtkobkpepgdddeaaGreatDoorZak
namespace Go.Proofs.YtkobkpepgdddeaaGreatDoor
open Go.RowKit
set_option maxHeartbeats 16000000
set_option maxRecDepth 100000
theorem z3v{w w1:World}{n rb g:Nat}{v0 v1 v2:Value}(h:w1=w.drewN n)(h1:rb<w.heap.size)(h2:g<w.heap.size)(c0:w.cell? ⟨rb,0,none⟩=some v0)(c1:w.cell? ⟨rb,1,none⟩=some v1)(c2:w.cell? ⟨rb,2,none⟩=some v2) :
 rb<w1.heap.size∧g<w1.heap.size∧w1.cell? ⟨rb,0,none⟩=some v0∧w1.cell? ⟨rb,1,none⟩=some v1∧w1.cell? ⟨rb,2,none⟩=some v2:=by
 subst h;exact⟨h1,h2,c0,c1,c2⟩
theorem zv3{w w1:World}{n:Nat}{p0 p1 p2 p3 p4:Addr}{v0 v1 v2 v3 v4:Value}(h:w1=w.drewN n)(c0:w.cell? p0=some v0)(c1:w.cell? p1=some v1)(c2:w.cell? p2=some v2)(c3:w.cell? p3=some v3)(c4:w.cell? p4=some v4) :
 w1.cell? p0=some v0∧w1.cell? p1=some v1∧w1.cell? p2=some v2∧w1.cell? p3=some v3∧w1.cell? p4=some v4:=by
 subst h;exact⟨c0,c1,c2,c3,c4⟩
theorem zq7{w w1:World}(h:Below w.heap.size w w1)(o:Obj):Below w.heap.size w (w1.alloc o).drew:=(h.alloc h.size o).drew
def tNm:List Tk→Bool
 | []=>false
 |t :: _=>(t.kind == 2) ||((t.kind == 1) && !kwB t.text.data.toList)
def qNm{α:Type}:Rd α→Bool
 | .ok _ l=>tNm l
 | .no _=>false
theorem zla{α:Type}(rb:Nat)(ts:List Tk)(w:World)(r:Rd α)(h:QSt rb ts w r) :
 Calls Tryz.prog 193 #[.pointer (some ⟨rb,0,none⟩)] w (BelB w (qNm r)):=by
 have Z7:=h.lt
 cases r with
 |no l =>
  obtain⟨a,cap,nx,hb,_⟩:=h;obtain⟨c0,c1,c2⟩:=q3 hb;clear hb
  show Calls _ _ _ _ (BelB w false)
  go_enter Tryz.func193,Tryz.ntmps193;go_wp2_with fail;go_quiet (fail);go_wp2_with fail;go_ret;exact⟨rfl,zav (Below.refl _ _) _⟩
 |ok x l =>
  obtain⟨a,cap,nx,hb,h1,h2,h3,h4,h5⟩:=h;obtain⟨c0,c1,c2⟩:=q3 hb
  show Calls _ _ _ _ (BelB w (tNm l))
  cases l with
  |nil =>
   have YZ:(ts.length:Int)≤(nx:Int):=by
    have:=List.drop_eq_nil_iff.1 h4;omega
   obtain⟨n,hn⟩:∃n,n=ts.length:=⟨_,rfl⟩
   rw[←hn]at c0 YZ;have hnn:n≤nx:=by omega
   have Xz:decide ((n:Int)≤(nx:Int))=true:=decide_eq_true YZ;have XA:decide (n≤nx)=true:=decide_eq_true hnn;clear hb h5 h4 hn h1 h2 h3
   show Calls _ _ _ _ (BelB w false)
   go_enter Tryz.func193,Tryz.ntmps193;go_wp2_with fail;go_quiet (fail);go_wp2_with fail;go_ret;exact⟨rfl,zav (Below.refl _ _) _⟩
  |cons t l =>
   obtain⟨g,o,rfl,Vs,_,hg,Y1,hc⟩:=h5.nth h4;have k0:=hc 0 (by omega);have k1:=hc 1 (by omega);have k2:=hc 2 (by omega);have k3:=hc 3 (by omega);have k4:=hc 4 (by omega);rw[Nat.add_zero]at k0;change w.cell? ⟨g,o+nx*5,none⟩=some (.int .u8 t.kind)at k0;change w.cell? ⟨g,o+nx*5+1,none⟩=some (.string t.text)at k1;change w.cell? ⟨g,o+nx*5+2,none⟩=some (.string t.rat)at k2;change w.cell? ⟨g,o+nx*5+3,none⟩=some (.int .i64 t.date)at k3;change w.cell? ⟨g,o+nx*5+4,none⟩=some (.int .i64 t.place)at k4;have YZ:(nx:Int)<(ts.length:Int):=by omega
   have hnn:nx<ts.length:=Vs;have Xz:decide ((ts.length:Int)≤(nx:Int))=false:=decide_eq_false (by omega);have XA:decide (ts.length≤nx)=false:=decide_eq_false (by omega);have hn0:(0:Int)≤(nx:Int):=by omega
   have HK:=Z9 (fun W=>zht t.text W)
   show Calls _ _ _ _ (BelB w ((t.kind == 2) ||((t.kind == 1) && !kwB t.text.data.toList)))
   obtain⟨n,hn⟩:∃n,n=ts.length:=⟨_,rfl⟩
   rw[←hn]at c0 YZ hnn Xz XA h1;clear hb h5 h4 hc hn h2 h3 Vs;obtain⟨bk,V9⟩:∃b,kwB t.text.data.toList=b:=⟨_,rfl⟩
   rw[V9]at HK ⊢;clear V9;obtain⟨b2,ZS⟩:∃b,(t.kind == 2)=b:=⟨_,rfl⟩
   obtain⟨b1,ZL⟩:∃b,(t.kind == 1)=b:=⟨_,rfl⟩
   rw[ZL,ZS]
   cases b2
   ·cases b1
    ·go_enter Tryz.func193,Tryz.ntmps193
     go_wp2_with fail;go_quiet (fail);go_wp2_with fail;obtain⟨w1,Yo⟩:∃w1,w1=w.drewN nq:=⟨_,rfl⟩
     rw[←Yo];obtain⟨Wk,Ze,d0,d1,d2⟩:=z3v Yo Z7 hg c0 c1 c2;obtain⟨e0,e1,e2,e3,e4⟩:=zv3 Yo k0 k1 k2 k3 k4;have HBW:Hid (Below w.heap.size w w1):=Z9 (by rw[Yo];exact zav (Below.refl _ _) _);clear Yo Z7 c0 c1 c2 k0 k1 k2 k3 k4 hg;go_region
     all_goals
      go_wp2_with fail;go_ret;exact⟨rfl,zq7 HBW.out _⟩
    ·go_enter Tryz.func193,Tryz.ntmps193
     go_wp2_with fail;go_quiet (fail);go_wp2_with fail;obtain⟨w1,Yo⟩:∃w1,w1=w.drewN nq:=⟨_,rfl⟩
     rw[←Yo];obtain⟨Wk,Ze,d0,d1,d2⟩:=z3v Yo Z7 hg c0 c1 c2;obtain⟨e0,e1,e2,e3,e4⟩:=zv3 Yo k0 k1 k2 k3 k4;have HBW:Hid (Below w.heap.size w w1):=Z9 (by rw[Yo];exact zav (Below.refl _ _) _);clear Yo Z7 c0 c1 c2 k0 k1 k2 k3 k4 hg;go_region
     all_goals
      go_wp2_with fail;refine(HK.out _).mono ?_;rintro e u ⟨rfl,hb⟩;have HB:=Z9 hb;clear hb
      cases bk
      all_goals
       go_wp2_with fail;go_ret;exact⟨rfl,(zq7 HBW.out _).trans (HB.out.mono (zq7 HBW.out _).size)⟩
   ·go_enter Tryz.func193,Tryz.ntmps193
    go_wp2_with fail;go_quiet (fail);go_wp2_with fail;obtain⟨w1,Yo⟩:∃w1,w1=w.drewN nq:=⟨_,rfl⟩
    rw[←Yo];obtain⟨Wk,Ze,d0,d1,d2⟩:=z3v Yo Z7 hg c0 c1 c2;obtain⟨e0,e1,e2,e3,e4⟩:=zv3 Yo k0 k1 k2 k3 k4;have HBW:Hid (Below w.heap.size w w1):=Z9 (by rw[Yo];exact zav (Below.refl _ _) _);clear Yo Z7 c0 c1 c2 k0 k1 k2 k3 k4 hg;go_region
    all_goals
     go_wp2_with fail;go_ret;exact⟨rfl,zq7 HBW.out _⟩
theorem z1r{α:Type}{r:Rd α}(h:qNm r=false):(r.bind fun _ l=>zgf l)=.no r.rest:=by
 cases r with
 |no l=>rfl
 |ok x l =>
  cases l with
  |nil=>rfl
  |cons t l =>
   refine if_neg ?_;rintro(a |⟨a,b⟩)
   ·have h':((t.kind == 2) ||((t.kind == 1) && !kwB t.text.data.toList))=false:=h
    rw[a]at h';cases h'
   ·have h':((t.kind == 2) ||((t.kind == 1) && !kwB t.text.data.toList))=false:=h
    rw[a,b]at h';cases h'
theorem zuk{t:Tk}{l:List Tk}(h:tNm (t :: l)=true):zgf (t :: l)=.ok t.text l:=by
 have h':((t.kind == 2) ||((t.kind == 1) && !kwB t.text.data.toList))=true:=h;refine if_pos ?_
 by_cases e:t.kind=2
 ·exact .inl e
 ·rw[Bool.or_eq_true,Bool.and_eq_true]at h'
  rcases h' with a |⟨a,b⟩
  ·exact absurd (by simpa using a) e
  ·exact .inr ⟨by simpa using a,by simpa using b⟩
def QStr(v:Value):Prop:=∃s,v=.string s
theorem z3d{α:Type}{rb:Nat}{ts:List Tk}{w u:World}{r:Rd α}(h:QSt rb ts u r∧w.grownBy u (some rb))(n:Nat):QSt rb ts (u.drewN n) r∧w.grownBy (u.drewN n) (some rb) :=
 ⟨h.1.kept ⟨rfl,rfl,rfl,Nat.le_refl _,fun _ _ _=>rfl⟩,⟨h.2.os,h.2.tape,h.2.output,h.2.size,h.2.block⟩⟩
theorem z5q{rb:Nat}{ts:List Tk}{w W:World}{s:ByteArray}{l:List Tk}(h:QSt rb ts W (.ok s l:Rd ByteArray)∧w.grownBy W (some rb)) :
 QP VStr QStr rb ts w (.ok s l) (.returned (.string s)) W :=
 ⟨_,rfl,⟨_,rfl⟩,(fun x l e=>by injection e with e1 e2;subst e1;rfl),h.1,h.2⟩
theorem z2v{α:Type}(rb:Nat)(ts:List Tk)(w:World)(r:Rd α)(h:QSt rb ts w r) :
 Calls Tryz.prog 194 #[.pointer (some ⟨rb,0,none⟩)] w (QP VStr QStr rb ts w (r.bind fun _ l=>zgf l)):=by
 have HP:=Z9 (zla rb ts w r h);have HQ:=Z9 h
 cases hq:qNm r
 ·rw[z1r hq]
  rw[hq]at HP;clear hq h;go_enter Tryz.func194,Tryz.ntmps194;go_wp2_with fail;refine HP.out.mono ?_;rintro e u ⟨rfl,hb⟩;have HF:=Z9 (zii (β:=ByteArray) rb ts u r (HQ.out.below hb));have HB:=Z9 hb;clear hb;go_wp2_with fail;refine HF.out.mono ?_;rintro e u2 ⟨rfl,hs,hg⟩;have HG:=Z9 (And.intro hs (Lib.grownBy_trans (zan (zah HB.out)) hg));clear hs hg;go_wp2_with fail;go_ret;exact⟨_,rfl,⟨_,rfl⟩,(by intro x l e;cases e),HG.out⟩
 ·cases r with
  |no l=>cases hq
  |ok x l =>
   cases l with
   |nil=>cases hq
   |cons t l =>
    rw[Rd.bind_ok,zuk hq];rw[hq]at HP;clear hq h;go_enter Tryz.func194,Tryz.ntmps194;go_wp2_with fail;refine HP.out.mono ?_;rintro e u ⟨rfl,hb⟩;have hq:=HQ.out.below hb;obtain⟨a,cap,nx,hc,h1,h2,h3,h4,h5⟩:=hq;obtain⟨g,o,rfl,Vs,_,hg,Y1,Zs⟩:=h5.nth h4;have k1:=Zs 1 (by omega);change u.cell? ⟨g,o+nx*5+1,none⟩=some (.string t.text)at k1;obtain⟨c0,c1,c2⟩:=q3 hc;have hf:∀i,u.frozen? ⟨rb,i,none⟩=false:=Lib.frozen_of_heap hc
    have Z7:=(Z8 hc);have YZ:(nx:Int)<(ts.length:Int):=by omega
    have hnn:nx<ts.length:=Vs;have hn0:(0:Int)≤(nx:Int):=by omega
    have Wu:IntKind.i64.wrap ((nx:Int)+1)=(nx:Int)+1:=IntWalk.i64_in _ (by omega);have Um:IntKind.i64.wrap ((nx:Int)+1-1)=(nx:Int):=by rw[Int.add_sub_cancel];exact IntWalk.i64_in _ (by omega)
    have hw0:IntKind.i64.wrap (nx:Int)=(nx:Int):=IntWalk.i64_in _ (by omega);have Yo:wrap64 (nx:Int)=(nx:Int):=by unfold wrap64;omega
    have HN:=Z9 (QAt.next hc h1 h3 h4 h5);have HB:=Z9 hb;obtain⟨n,hn⟩:∃n,n=ts.length:=⟨_,rfl⟩
    rw[←hn]at c0 YZ hnn h1;clear hb hc h2 h3 h4 h5 Zs Vs hn HP HQ;go_wp2_with fail;go_quiet (fail);go_wp2_with fail;go_ret;exact z5q (z3d (r:=.ok t.text l) ⟨HN.out,Lib.grownBy_trans (zan (zah HB.out)) (Lib.grownBy_setCell u rb 1 _)⟩ _)
def chW{α:Type}(ws:List ByteArray)(r:Rd α):Option (ByteArray × List Tk):=(ws.find? fun s=>qIs 1 s.data.toList r).map fun s=>(s,r.rest.tail)
def ChP{α:Type}(rb:Nat)(ts:List Tk)(w:World)(r:Rd α)(o:Option (ByteArray × List Tk))(e:Ending)(w':World):Prop :=
 e=.returned (.string ((o.map Prod.fst).getD tE0))∧(match o with |some p=>QAt rb ts w' false p.2 |none=>QSt rb ts w' r)∧w.grownBy w' (some rb)
theorem zej{α:Type}{s:ByteArray}{ws:List ByteArray}{r:Rd α}(h:qIs 1 s.data.toList r=true):chW (s :: ws) r=some (s,r.rest.tail):=by
 unfold chW;rw[List.find?_cons,h];rfl
theorem zgh{α:Type}{s:ByteArray}{ws:List ByteArray}{r:Rd α}(h:qIs 1 s.data.toList r=false):chW (s :: ws) r=chW ws r:=by
 unfold chW;rw[List.find?_cons,h]
theorem z5v{α:Type}{k:Int}{s:List UInt8}{r:Rd α}{rb:Nat}{ts:List Tk}{w:World}(h:qIs k s r=true)(hq:QSt rb ts w r):∃t l,r.rest=t :: l∧QAt rb ts w false (t :: l):=by
 cases r with
 |no l=>cases h
 |ok x l =>
  obtain⟨t,l,rfl⟩:=zb2 h;exact⟨t,l,rfl,hq⟩
theorem zdn{α:Type}(rb:Nat)(ts:List Tk)(w:World)(r:Rd α)(h:QSt rb ts w r)(ws:List ByteArray)(g2 cap:Nat)(Yl:g2<w.heap.size)(ZT:g2≠rb)(US:ws.length≤cap)(hl:ws.length<100)
 (hc:∀i (hi:i<ws.length),w.cell? ⟨g2,i,none⟩=some (.string ws[i])) :
 Calls Tryz.prog 117 #[.pointer (some ⟨rb,0,none⟩),.slice (some ⟨g2,0,none⟩) ws.length cap] w (ChP rb ts w r (chW ws r)):=by
 obtain⟨R,hR⟩:∃R,R=chW ws r:=⟨_,rfl⟩
 rw[←hR];have ZA:Hid (chW (ws.drop 0) r=R):=Z9 hR.symm;have HQ:=Z9 h;have HP:=Z9 (fun W (hb:Below w.heap.size w W) s=>zd6 rb ts 1 s W r (h.below hb));have HC:Hid (∀W,Below w.heap.size w W→∀i (hi:i<ws.length),W.cell? ⟨g2,i,none⟩=some (.string ws[i])):=Z9 (fun W hb i hi=>((zfx hb).1 g2 i Yl).trans (hc i hi));have HNE:=Z9 ZT;obtain⟨n,hn⟩:∃n,n=ws.length:=⟨_,rfl⟩
 have HN:=Z9 hn;rw[←hn]at US hl ⊢;clear hR h hc hn ZT;go_enter Tryz.func117,Tryz.ntmps117;go_wp2_with fail;go_loopw [5] (fun iv wr=>∃k:Nat,k≤n∧iv=.int .i64 (k:Int)∧Below w.heap.size w wr∧Hid (chW (ws.drop k) r=R)) (fun iv _=>n-(intOf iv).toNat)
 case atStart=>exact⟨0,Nat.zero_le _,rfl,Below.refl _ _,ZA⟩
 case round =>
  obtain⟨k,hk,rfl,Vm,HK⟩:=hrel
  by_cases Z7:k<n
  ·have hkl:k<ws.length:=by rw[←HN.out];exact Z7
   have hck:=HC.out wr Vm k hkl;have hd:=List.drop_eq_getElem_cons hkl;have hki:(k:Int)<(n:Int):=by omega
   have Yt:(0:Int)≤(k:Int):=by omega
   obtain⟨S,hS⟩:∃S,S=ws[k]:=⟨_,rfl⟩
   rw[←hS]at hck hd;have HD:=Z9 hd;have HBW:=Z9 Vm;clear hd hS hkl Vm
   cases hq:qIs 1 S.data.toList r
   ·have HX:Hid (chW (ws.drop (k+1)) r=R):=Z9 (by have:=HK.out;rw[HD.out,zgh hq]at this;exact this)
    have HPS:=HP.out wr HBW.out S;rw[hq]at HPS;have HPH:=Z9 HPS;clear hq HPS;go_wp2_with fail;refine HPH.out.mono ?_;rintro e u ⟨rfl,hb⟩;have HB:=Z9 (HBW.out.trans (hb.mono HBW.out.size));clear hb hck;go_wp2_with fail;go_roundw
    case rel=>exact⟨k+1,Z7,by go_num,HB.out,HX⟩
    case measure=>simp[intOf]<;>omega
   ·have hR:R=some (S,r.rest.tail):=by have:=HK.out;rw[HD.out,zej hq]at this;exact this.symm
    have HR:=Z9 hR;obtain⟨t,l,WD,hqa⟩:=z5v hq (HQ.out.below HBW.out);have HPS:=HP.out wr HBW.out S;rw[hq]at HPS;have HPH:=Z9 HPS;have HQA:=Z9 hqa;have HRL:=Z9 WD;clear hq HPS hR hqa WD;go_wp2_with fail;refine HPH.out.mono ?_;rintro e u ⟨rfl,hb⟩;have hqu:=HQA.out.kept (zah hb);obtain⟨a,cap2,nx,Wb,h1,h2,h3,h4,h5⟩:=hqu;obtain⟨c0,c1,c2⟩:=q3 Wb;have hf:∀i,u.frozen? ⟨rb,i,none⟩=false:=Lib.frozen_of_heap Wb
    have ZX:=(Z8 Wb);have HN2:=Z9 (QAt.next Wb h1 h3 h4 h5);have Wu:IntKind.i64.wrap ((nx:Int)+1)=(nx:Int)+1:=IntWalk.i64_in _ (by omega);have hcu2:u.cell? ⟨g2,k,none⟩=some (.string S):=((zfx hb).1 g2 k (Nat.lt_of_lt_of_le Yl HBW.out.size)).trans hck;have HB:=Z9 (HBW.out.trans (hb.mono HBW.out.size));have Yc:=HNE.out
    have VM:rb≠g2:=fun e=>Yc e.symm
    clear hb hck Wb h1 h2 h3 h4 h5;go_wp2_with fail;go_ret;rw[HR.out];refine⟨rfl,?_,Lib.grownBy_trans (zan (zah HB.out)) (Lib.grownBy_setCell u rb 1 _)⟩
    show QAt _ _ _ _ (Rd.rest r).tail
    rw[HRL.out];exact HN2.out
  ·obtain rfl:k=n:=by omega
   have HF:Hid (R=none):=Z9 (by have:=HK.out;rw[HN.out,List.drop_eq_nil_of_le (Nat.le_refl _)]at this;exact this.symm);have HBW:=Z9 Vm;clear Vm;go_wp2_with fail;go_ret;rw[HF.out];exact⟨rfl,HQ.out.below HBW.out,zan (zah HBW.out)⟩
def kdOf(s:List UInt8):Int :=
 if s=[109,97,120]then 7 else if s=[109,105,110]then 8 else if s=[99,97,115,101]then 9 else if s=[108,101,115,115]then 11 else if s=[101,113,117,97,108]then 12 else if s=[97,110,100]then 13 else if s=[111,114]then 14 else 15
theorem zc2(s:ByteArray)(w:World):Calls Tryz.prog 120 #[.string s] w (fun e w'=>e=.returned (.int .u8 (kdOf s.data.toList))∧w'=w):=by
 rw[←zac];unfold kdOf;obtain⟨L,hL⟩:∃L,s.toList=L:=⟨_,rfl⟩
 rw[hL]
 by_cases h0:L=[109,97,120]
 ·rw[if_pos h0]
  have e0:(s.toList == [109,97,120])=true:=by rw[hL,h0];rfl
  clear hL h0;go_enter Tryz.func120,Tryz.ntmps120;go_wp2_with fail;go_ret;exact⟨rfl,rfl⟩
 rw[if_neg h0];have e0:(s.toList == [109,97,120])=false:=by rw[hL];exact beq_eq_false_iff_ne.2 h0
 by_cases h1:L=[109,105,110]
 ·rw[if_pos h1]
  have e1:(s.toList == [109,105,110])=true:=by rw[hL,h1];rfl
  clear hL h1 h0;go_enter Tryz.func120,Tryz.ntmps120;go_wp2_with fail;go_ret;exact⟨rfl,rfl⟩
 rw[if_neg h1];have e1:(s.toList == [109,105,110])=false:=by rw[hL];exact beq_eq_false_iff_ne.2 h1
 by_cases h2:L=[99,97,115,101]
 ·rw[if_pos h2]
  have e2:(s.toList == [99,97,115,101])=true:=by rw[hL,h2];rfl
  clear hL h2 h0 h1;go_enter Tryz.func120,Tryz.ntmps120;go_wp2_with fail;go_ret;exact⟨rfl,rfl⟩
 rw[if_neg h2];have e2:(s.toList == [99,97,115,101])=false:=by rw[hL];exact beq_eq_false_iff_ne.2 h2
 by_cases h3:L=[108,101,115,115]
 ·rw[if_pos h3]
  have e3:(s.toList == [108,101,115,115])=true:=by rw[hL,h3];rfl
  clear hL h3 h0 h1 h2;go_enter Tryz.func120,Tryz.ntmps120;go_wp2_with fail;go_ret;exact⟨rfl,rfl⟩
 rw[if_neg h3];have e3:(s.toList == [108,101,115,115])=false:=by rw[hL];exact beq_eq_false_iff_ne.2 h3
 by_cases h4:L=[101,113,117,97,108]
 ·rw[if_pos h4]
  have e4:(s.toList == [101,113,117,97,108])=true:=by rw[hL,h4];rfl
  clear hL h4 h0 h1 h2 h3;go_enter Tryz.func120,Tryz.ntmps120;go_wp2_with fail;go_ret;exact⟨rfl,rfl⟩
 rw[if_neg h4];have e4:(s.toList == [101,113,117,97,108])=false:=by rw[hL];exact beq_eq_false_iff_ne.2 h4
 by_cases h5:L=[97,110,100]
 ·rw[if_pos h5]
  have e5:(s.toList == [97,110,100])=true:=by rw[hL,h5];rfl
  clear hL h5 h0 h1 h2 h3 h4;go_enter Tryz.func120,Tryz.ntmps120;go_wp2_with fail;go_ret;exact⟨rfl,rfl⟩
 rw[if_neg h5];have e5:(s.toList == [97,110,100])=false:=by rw[hL];exact beq_eq_false_iff_ne.2 h5
 by_cases h6:L=[111,114]
 ·rw[if_pos h6]
  have e6:(s.toList == [111,114])=true:=by rw[hL,h6];rfl
  clear hL h6 h0 h1 h2 h3 h4 h5;go_enter Tryz.func120,Tryz.ntmps120;go_wp2_with fail;go_ret;exact⟨rfl,rfl⟩
 rw[if_neg h6];have e6:(s.toList == [111,114])=false:=by rw[hL];exact beq_eq_false_iff_ne.2 h6
 clear hL h0 h1 h2 h3 h4 h5 h6;go_enter Tryz.func120,Tryz.ntmps120;go_wp2_with fail;go_ret;exact⟨rfl,rfl⟩
def Rd.unit{α:Type}(r:Rd α):Rd Unit:=match r with | .ok _ l=>.ok () l | .no l=>.no l
theorem QSt.unit{α:Type}{rb:Nat}{ts:List Tk}{w:World}{r:Rd α}:QSt rb ts w r↔QSt rb ts w r.unit:=by cases r<;>exact Iff.rfl
theorem QSt.as{α β:Type}{rb:Nat}{ts:List Tk}{w:World}{r:Rd α}{q:Rd β}(h:QSt rb ts w r)(e:r.unit=q.unit):QSt rb ts w q:=QSt.unit.2 (e ▸ QSt.unit.1 h)
theorem z3f{rb:Nat}{ts l l':List Tk}{w w':World}{b b':Bool}(h:QAt rb ts w b l)(h':QAt rb ts w' b' l')(hg:w.grownBy w' (some rb)):∃v0 v1 v2,Below w.heap.size (((w.setCell ⟨rb,0,none⟩ v0).setCell ⟨rb,1,none⟩ v1).setCell ⟨rb,2,none⟩ v2) w':=by
 obtain⟨a,cap,nx,hx,_⟩:=h;obtain⟨a',cap',nx',hx',_⟩:=h';refine⟨.slice a' ts.length cap',.int .i64 (nx':Nat),.bool b',hg.os,hg.tape,hg.output,by simpa[World.setCell]using hg.size,fun k hk => ?_⟩
 by_cases W7:k=rb
 ·subst W7
  rw[hx'];simp[World.setCell,Array.getElem?_modify,hx]
 ·rw[Below.heap_setCell _ _ _ _ (by show k≠rb;exact W7),Below.heap_setCell _ _ _ _ (by show k≠rb;exact W7),Below.heap_setCell _ _ _ _ (by show k≠rb;exact W7)]
  exact hg.block k hk (fun e=>W7 (by injection e))
def QEx(v:Value):Prop:=∃k a b d p n c,v=.agg #[.int .u8 k,.string a,.string b,.int .i64 d,.slice p n c]
structure LsQ(rb:Nat)(ts:List Tk)(kd:Int)(B:Nat)(w:World)(k:Nat)(v:Value)(xs:List Value)(r:Rd (List Ex))(wr:World):Prop where
 blocks:LsB kd B v wr
 own:wr.ownsRow (B+2) 25 5 v k xs
 parts:∀ys l,r=.ok ys l→ys.length=k∧∃m,TwR m (B+2) ys k v xs wr
 rd:QSt rb ts wr r
 grown:w.grownBy wr (some rb)
theorem LsQ.same{rb B k:Nat}{ts:List Tk}{kd:Int}{w w1 u:World}{v:Value}{xs:List Value}{r r2:Rd (List Ex)}(h:LsQ rb ts kd B w k v xs r w1)(hg:w1.grownBy u (some rb))(hr:QSt rb ts u r2)(Zi:rb<B)(hy:∀ys l,r2=.ok ys l→∃l',r=.ok ys l'):LsQ rb ts kd B w k v xs r2 u:=by
 obtain⟨h0,h1,hz⟩:=h.blocks;refine⟨⟨?_,?_,Nat.le_trans hz hg.size⟩,?_,fun ys l e => ?_,hr,Lib.grownBy_trans h.grown hg⟩
 ·exact(hg.block _ (Z8 h0) (fun e=>by injection e with e;omega)).trans h0
 ·exact(hg.block _ (Z8 h1) (fun e=>by injection e with e;omega)).trans h1
 ·exact h.own.kept hg (by
   cases hv:v.ownBlock with
   |none=>exact .inl rfl
   |some q=>exact .inr (fun e=>by injection e with e;have:=(h.own.lt q hv).1;omega))
 ·obtain⟨l',e'⟩:=hy ys l e
  obtain⟨hl,m,css,a0,a1,a2,a3,a4⟩:=h.parts ys l' e';refine⟨hl,m,css,a0,a1,a2,?_,fun i hi Xy => ?_⟩
  ·exact a3.kept hg (by
    cases hv:v.ownBlock with
    |none=>exact .inl rfl
    |some q=>exact .inr (fun e=>by injection e with e;have:=(a3.lt q hv).1;omega))
  ·exact((a4 i hi Xy).keep (w':=u) fun g ⟨g1,g2,_⟩=>hg.block g g2 (fun e=>by injection e with e;omega)).mono fun g ⟨g1,g2,g3⟩=>⟨g1,Nat.lt_of_lt_of_le g2 hg.size,g3⟩
theorem QAt.grown{rb:Nat}{ts l:List Tk}{w w':World}{b:Bool}{row:Option Nat}(h:QAt rb ts w b l)(hg:w.grownBy w' row)(hr:∀k,row=some k→rb<k):QAt rb ts w' b l:=by
 obtain⟨a,cap,nx,hx,h1,h2,h3,h4,h5⟩:=h;refine⟨a,cap,nx,(hg.block rb (Z8 hx) (fun e=>by have:=hr _ e.symm;omega)).trans hx,h1,h2,h3,h4,h5.imp id fun⟨g,o,ha,ZT,Z7,Z1⟩=>⟨g,o,ha,ZT,Nat.lt_of_lt_of_le Z7 hg.size,fun j hj k hk => ?_⟩⟩;exact(World.cell?_of_block (w:=w) (w':=w') (a:=⟨g,o+j*5+k,none⟩) (hg.block g Z7 (fun e=>by have:=hr _ e.symm;omega))).trans (Z1 j hj k hk)
theorem QSt.grown{α:Type}{rb:Nat}{ts:List Tk}{w w':World}{r:Rd α}{row:Option Nat}(h:QSt rb ts w r)(hg:w.grownBy w' row)(hr:∀k,row=some k→rb<k):QSt rb ts w' r:=by
 cases r with
 |ok a l=>exact QAt.grown h hg hr
 |no l=>exact QAt.grown h hg hr
theorem LsQ.step{rb B k ga ca la ca2:Nat}{ts:List Tk}{kd:Int}{w w1 u w3:World}{v:Value}{xs:List Value}{r:Rd (List Ex)}{p:Rd Ex}{pa:Option Addr}{yk yd:Int}{ya yb:ByteArray}(h:LsQ rb ts kd B w k v xs r w1)(hB:B=w.heap.size)(Zi:rb<B)
 (hu:w1.drew.grownBy u (some rb)) (hpr:∀l,r=.no l→p=.no l) (hp:∀y l2,p=.ok y l2→VEx w1.heap.size y u (.agg #[.int .u8 yk,.string ya,.string yb,.int .i64 yd,.slice pa la ca2])) (ru:QSt rb ts u p)
 (hg:(u.alloc (.cells #[.int .u8 yk,.string ya,.string yb,.int .i64 yd,.slice pa la ca2] 25)).grownBy w3 v.ownBlock)
 (ZG:w3.ownsRow (B+2) 25 5 (.slice (some ⟨ga,0,none⟩) (k+1) ca) (k+1) (xs ++ [.int .u8 yk,.string ya,.string yb,.int .i64 yd,.slice pa la ca2]))
 (ZB:v.ownBlock=some ga∨ga=(u.alloc (.cells #[.int .u8 yk,.string ya,.string yb,.int .i64 yd,.slice pa la ca2] 25)).heap.size) :
 LsQ rb ts kd B w (k+1) (.slice (some ⟨ga,0,none⟩) (k+1) ca) (xs ++ [.int .u8 yk,.string ya,.string yb,.int .i64 yd,.slice pa la ca2]) (r.bind fun ys _=>p.bind fun y l2=>.ok (ys ++ [y]) l2) (w3.setCell ⟨B+1,4,none⟩ (.slice (some ⟨ga,0,none⟩) (k+1) ca)):=by
 obtain⟨o,ho⟩:∃o,o=Obj.cells #[.int .u8 yk,.string ya,.string yb,.int .i64 yd,.slice pa la ca2] 25:=⟨_,rfl⟩
 rw[←ho]at hg ZB;obtain⟨u2,XF⟩:∃u2,u2=u.alloc o:=⟨_,rfl⟩
 rw[←XF]at hg ZB;obtain⟨h0,h1,hz⟩:=h.blocks;have hu':w1.grownBy u (some rb):=⟨hu.os,hu.tape,hu.output,hu.size,hu.block⟩;have hzu:u.heap.size≤u2.heap.size:=by rw[XF];simp
 have hvb:∀g,v.ownBlock=some g→B+2≤g:=fun g e=>(h.own.lt g e).1
 have huu:w1.grownBy u2 (some rb):=by rw[XF];exact Lib.grownBy_allocR hu' _
 have keep:∀q,q<B+2→q≠rb→w3.heap[q]?=w1.heap[q]?:=fun q hq ZT=>by
  rw[hg.block q (Nat.lt_of_lt_of_le (by omega) huu.size) (fun e=>by have:=hvb q e.symm;omega),huu.block q (by omega) (fun e=>ZT (by injection e))]
 refine⟨⟨?_,?_,?_⟩,ownsRow_setCell_below ZG (by show B+1<B+2;omega) _,fun zs l2 e => ?_,?_,?_⟩
 ·rw[Below.heap_setCell _ _ _ _ (by show B≠B+1;omega),keep _ (by omega) (by omega)];exact h0
 ·have:=(keep (B+1) (by omega) (by omega)).trans h1
  simp[World.setCell,Array.getElem?_modify,this]
 ·have:=hg.size;have:=huu.size
  simp[World.setCell];omega
 ·cases hr:r with
  |no l=>rw[hr]at e;cases e
  |ok ys l1 =>
   rw[hr]at e
   cases SO:p with
   |no l=>rw[SO]at e;cases e
   |ok y l3 =>
    rw[SO]at e
    injection e with e1 e2
    subst e1;obtain⟨m2,pa',la',ca',ev,hx⟩:=hp y l3 SO
    injection ev with ev
    injection ev with ev
    injection ev with q1 ev
    injection ev with q2 ev
    injection ev with q3 ev
    injection ev with q4 ev
    injection ev with q5 ev
    rw[←q1,←q2,←q3,←q4,←q5]at hx;obtain⟨Z5,m,Vz⟩:=h.parts ys l1 hr;obtain⟨b,Y5⟩:=h.rd.rest;obtain⟨b2,Zb⟩:=ru.rest;obtain⟨v0,v1,v2,ZR⟩:=z3f Y5 Zb hu';obtain⟨ws,Um⟩:∃ws,ws=((w1.setCell ⟨rb,0,none⟩ v0).setCell ⟨rb,1,none⟩ v1).setCell ⟨rb,2,none⟩ v2:=⟨_,rfl⟩
    have Zo:ws.heap.size=w1.heap.size:=by rw[Um];simp[World.setCell]
    have ZS:Below ws.heap.size ws u2:=by
     rw[Zo,XF,Um];exact ZR.alloc hu'.size _
    have Yp:ExOn (fun g=>ws.heap.size≤g∧g<u2.heap.size) (max m m2) u2 [.int .u8 yk,.string ya,.string yb,.int .i64 yd,.slice pa la ca2] y :=
     ((hx.keep (w':=u2) fun g ⟨_,g2⟩=>by rw[XF];exact Below.heap_alloc u _ g g2).mono fun g ⟨g1,g2⟩=>⟨by rw[Zo];exact g1,by omega⟩).up (by omega)
    have htw2:TwR (max m m2) (B+2) (ys ++ [y]) k v xs ws:=by
     rw[Um];exact((((Vz.up (m:=max m m2) (by omega)).more (m:=[y]) Z5).set (p:=⟨rb,0,none⟩) (by show rb<B+2;omega) v0).set (p:=⟨rb,1,none⟩) (by show rb<B+2;omega) v1).set (p:=⟨rb,2,none⟩) (by show rb<B+2;omega) v2
    have hs:=htw2.snoc (by simp[Z5]) (y:=y) (by simp[List.getElem_append_right,Z5]) (by rw[Zo];exact hz) ZS Yp hg (v':=.slice (some ⟨ga,0,none⟩) (k+1) ca) (by
     rcases ZB with e |e
     ·exact .inl e.symm
     ·right;rw[e];rfl) ZG
    exact⟨by simp[Z5],_,hs.set (p:=⟨B+1,4,none⟩) (by show B+1<B+2;omega) _⟩
 ·have hpu:(r.bind fun ys _=>p.bind fun y l2=>.ok (ys ++ [y]) l2:Rd (List Ex)).unit=p.unit:=by
   cases hr:r with
   |no l=>rw[hpr l hr];rfl
   |ok ys l1=>cases p<;>rfl
  have hq:QSt rb ts u2 p:=by rw[XF];exact ru.below (zaf u _)
  exact((hq.grown hg (fun g e=>by have:=hvb g e;omega)).setNew (by omega) _ _).as hpu.symm
 ·refine zaq ?_ (by omega) _ _
  have hwu:w.grownBy u2 (some rb):=Lib.grownBy_trans h.grown huu
  exact⟨hg.os.trans hwu.os,hg.tape.trans hwu.tape,hg.output.trans hwu.output,Nat.le_trans hwu.size hg.size,fun j hj ZT=>by
   rw[hg.block j (Nat.lt_of_lt_of_le hj hwu.size) (fun e=>by have:=hvb j e.symm;omega)]
   exact hwu.block j hj ZT⟩
def fnQ(b:Bool):Nat:=if b=true then 67 else 66
def remQ(ps:List RdX)(c:Bool)(q:Rd (List Ex)):Rd (List Ex):=q.bind fun ys l=>remR ps ys c l
theorem zyw(c:Bool)(q:Rd (List Ex)):remQ [] c q=q:=by
 cases q with
 |no l=>rfl
 |ok ys l=>exact zqu ys c l
def comQ(c:Bool)(q:Rd (List Ex)):Rd (List Ex):=q.bind fun ys l=>(if c=true then tEat 5 [44] l else .ok () l).bind fun _ l1=>.ok ys l1
theorem zvf(p:RdX)(ps:List RdX)(c:Bool)(q:Rd (List Ex)):remQ (p :: ps) c q=remQ ps true ((comQ c q).bind fun ys l=>(p l).bind fun y l2=>.ok (ys ++ [y]) l2):=by
 cases q with
 |no l=>rfl
 |ok ys l =>
  cases c with
  |false =>
   show remR (p :: ps) ys false l=_
   rw[zhg]
   show _=remQ ps true ((p l).bind _)
   cases p l<;>rfl
  |true =>
   show remR (p :: ps) ys true l=_
   rw[zms]
   show _=remQ ps true (((tEat 5 [44] l).bind _).bind _)
   cases h:tEat 5 [44] l with
   |no l1=>rfl
   |ok u l1 =>
    show(p l1).bind _=remQ ps true ((p l1).bind _)
    cases p l1<;>rfl
theorem zm2{w:World}{B k:Nat}{v:Value}{xs:List Value}(h:w.ownsRow B 25 5 v k xs):∃a n c,v=.slice a n c:=by
 rcases h.2 with⟨rfl,_⟩ |h
 ·exact⟨_,_,_,rfl⟩
 ·obtain⟨a,c,_,rfl,_⟩:=h
  exact⟨_,_,_,rfl⟩
theorem zwe{rb B k lv cv:Nat}{ts:List Tk}{kd:Int}{xs:List Value}{q:Rd (List Ex)}{av:Option Addr}{w u:World}{GR:Rd Ex}(hB:B=w.heap.size)(Zi:rb<B)(h:LsQ rb ts kd B w k (.slice av lv cv) xs q u)
 (ZK:GR=q.bind fun ys l=>.ok (.mk kd tE0 tE0 0 ys) l) :
 ∃W',W'=((((u.setCell ⟨B,0,none⟩ (.int .u8 kd)).setCell ⟨B,1,none⟩ (.string ⟨#[]⟩)).setCell ⟨B,2,none⟩ (.string ⟨#[]⟩)).setCell ⟨B,3,none⟩ (.int .i64 0)).setCell ⟨B,4,none⟩ (.slice av lv cv) ∧
  W'.heap[B]?=some (.cells #[.int .u8 kd,.string ⟨#[]⟩,.string ⟨#[]⟩,.int .i64 0,.slice av lv cv] 25) ∧
  QP (VEx w.heap.size) QEx rb ts w GR (.returned (.agg #[.int .u8 kd,.string ⟨#[]⟩,.string ⟨#[]⟩,.int .i64 0,.slice av lv cv])) W':=by
 refine⟨_,rfl,za2 h.blocks.1 _ _ _ _ _,_,rfl,⟨_,_,_,_,_,_,_,rfl⟩,?_,?_,?_⟩
 ·intro x l e
  subst ZK
  cases q with
  |no l=>cases e
  |ok ys l1 =>
   injection e with e1 e2
   subst e1;obtain⟨Z5,m,Vz⟩:=h.parts ys l1 rfl;obtain⟨av',lv',cv',ev,X3⟩:=TwR.done (x:=.mk kd tE0 tE0 0 ys) Vz Z5
   injection ev with q1 q2 q3
   rw[←q1,←q2,←q3]at X3;refine⟨_,av,lv,cv,rfl,(X3.keep fun g ⟨g1,_⟩ => ?_).mono fun g ⟨g1,g2⟩=>⟨by omega,by simpa[World.setCell]using g2⟩⟩;rw[Below.heap_setCell _ _ _ _ (by show g≠B;omega),Below.heap_setCell _ _ _ _ (by show g≠B;omega),Below.heap_setCell _ _ _ _ (by show g≠B;omega),Below.heap_setCell _ _ _ _ (by show g≠B;omega),Below.heap_setCell _ _ _ _ (by show g≠B;omega)]
 ·refine(((((h.rd.setNew Zi _ _).setNew Zi _ _).setNew Zi _ _).setNew Zi _ _).setNew Zi _ _).as ?_
  subst ZK
  cases q<;>rfl
 ·exact zaq (zaq (zaq (zaq (zaq h.grown (by omega) _ _) (by omega) _ _) (by omega) _ _) (by omega) _ _) (by omega) _ _
theorem zle{rb n0:Nat}{ts:List Tk}(S T:RdX)(XB:∀(b:Bool) (W:World) (r:Rd (List Ex)),QSt rb ts W r→(∀x l,r=.ok x l→l.length<n0)→Calls Tryz.prog (fnQ b) #[.pointer (some ⟨rb,0,none⟩)] W (QP (VEx W.heap.size) QEx rb ts W (r.bind fun _ l=>za9 S T b l)))
 (cS:∀l,(S l).Cons l) (cT:∀l,(T l).Cons l) (kd:Int) (nt ns:Nat) (hnt:nt≤3) (hns:ns≤3) (w:World) (r:Rd Unit) (h:QSt rb ts w r) (hl:∀x l,r=.ok x l→l.length≤n0) :
 Calls Tryz.prog 119 #[.pointer (some ⟨rb,0,none⟩),.int .u8 kd,.int .i64 (nt:Int),.int .i64 (ns:Int)] w (QP (VEx w.heap.size) QEx rb ts w (r.bind fun _ l=>zbf kd (List.replicate nt T ++ List.replicate ns S) l)):=by
 obtain⟨i0,hi,ZN,ZO,ZD⟩:=info_parts z1x;have HI0:=Z9 hi;have HI1:=Z9 ZN;have HI2:=Z9 ZO;have HI3:=Z9 ZD;have HP:=Z9 XB;have HR:=Z9 h;have ZH:=h.lt;obtain⟨n,hn⟩:∃n,n=nt+ns:=⟨_,rfl⟩
 obtain⟨ps,Wt⟩:∃ps,ps=List.replicate nt T ++ List.replicate ns S:=⟨_,rfl⟩
 have Yg:ps.length=n:=by rw[Wt,hn];simp
 have HPAT:Hid (∀k,k<n→ps.drop k=za9 S T (decide (nt≤k)) :: ps.drop (k+1)):=Z9 (fun k hk=>by
  rw[List.drop_eq_getElem_cons (by rw[Yg];exact hk)]
  congr 1
  subst Wt
  by_cases YC:k<nt
  ·rw[List.getElem_append_left (by simpa using YC),List.getElem_replicate]
   unfold za9;rw[if_neg (by simp;omega)]
  ·rw[List.getElem_append_right (by simp;omega),List.getElem_replicate]
   unfold za9;rw[if_pos (by simp;omega)])
 have HPL:=Z9 Yg;rw[←Wt]
 obtain⟨GR,ZK⟩:∃GR,GR=r.bind fun _ l=>zbf kd ps l:=⟨_,rfl⟩
 rw[←ZK]
 have HCN:Hid (∀b l,(za9 S T b l).Cons l):=fun b l=>by
  unfold za9
  split
  ·exact cS l
  ·exact cT l
 have HL:=Z9 hl;have HGR:=Z9 ZK;have hnn:(nt:Int)+(ns:Int)=(n:Int):=by omega
 have hwn:IntKind.i64.wrap ((nt:Int)+(ns:Int))=(n:Int):=by rw[hnn];exact IntWalk.i64_in _ (by omega)
 have hwn2:wrap64 ((nt:Int)+(ns:Int))=(n:Int):=by unfold wrap64;omega
 have HNS:=Z9 hn;have XG:=Z9 (fun s W (q:Rd (List Ex)) (hq:QSt rb ts W q)=>zi2 rb ts s W q hq);have Zf:n≤6:=by omega
 clear h XB ZK hl cS cT hi ZN ZO ZD Yg Wt hn hnn;go_enter Tryz.func119,Tryz.ntmps119;go_wp2_with fail;obtain⟨B,Yf⟩:∃B,B=w.heap.size:=⟨_,rfl⟩
 obtain⟨W0,Z3⟩:∃W0,W0=((w.alloc (.cells #[.int .u8 0,.string ⟨#[]⟩,.string ⟨#[]⟩,.int .i64 0,.slice none 0 0] 25)).alloc (.cells #[.int .u8 kd,.string ⟨#[]⟩,.string ⟨#[]⟩,.int .i64 0,.slice none 0 0] 25)):=⟨_,rfl⟩
 have hT:LsB kd B (.slice none 0 0) W0:=by
  rw[Z3,Yf];refine⟨?_,?_,?_⟩
  ·show((w.heap.push _).push _)[w.heap.size]?=_
   rw[Array.getElem?_push,if_neg (by simp),Array.getElem?_push,if_pos rfl]
  ·show((w.heap.push _).push _)[w.heap.size+1]?=_
   rw[Array.getElem?_push,if_pos (by simp)]
  ·simp
 have ZP:Below w.heap.size w W0:=by rw[Z3];exact(zaf w _).alloc (by simp) _
 rw[←Z3];rw[←Yf]at ZH ⊢;have HT:=Z9 hT;have HBB:=Z9 Yf;have hq00:QSt rb ts W0 (r.bind fun _ l=>.ok [] l:Rd (List Ex)):=(HR.out.below ZP).as (by cases r<;>rfl);have HM:=Z9 (XG.out ⟨#[40]⟩ W0 _ hq00);have HG0:=Z9 (zan (rb:=rb) (zah ZP))
 obtain⟨q0,Zn⟩:∃q0:Rd (List Ex),q0=r.bind fun _ l=>(tEat 5 [40] l).bind fun _ l1=>.ok [] l1:=⟨_,rfl⟩
 have HU0:Hid (∀u,QSt rb ts u ((r.bind fun _ l=>.ok [] l:Rd (List Ex)).bind fun _ l=>tEat 5 (ByteArray.mk #[40]).data.toList l)→QSt rb ts u q0):=Z9 (fun u hu=>hu.as (by
  rw[Zn]
  cases r with
  |no l=>rfl
  |ok x l =>
   show(tEat 5 [40] l).unit=((tEat 5 [40] l).bind _).unit
   cases tEat 5 [40] l<;>rfl))
 have HLQ:Hid (∀ys l,q0=.ok ys l→ys=[]∧l.length<n0):=Z9 (by
  intro ys l e;rw[Zn]at e
  cases hr:r with
  |no l=>rw[hr]at e;cases e
  |ok x l1 =>
   rw[hr]at e
   cases ht:tEat 5 [40] l1 with
   |no l2=>have e:(tEat 5 [40] l1).bind _=_:=e;rw[ht]at e;cases e
   |ok x l2 =>
    have e:((tEat 5 [40] l1).bind fun _ l1=>.ok [] l1:Rd (List Ex))=.ok ys l:=e;rw[ht]at e
    injection e with e1 e2
    subst e2
    exact⟨e1.symm,Nat.lt_of_lt_of_le ((zcx 5 [40] l1).lt ht) (HL.out _ _ hr)⟩)
 obtain⟨R,hR⟩:∃R,R=remQ ps false q0:=⟨_,rfl⟩
 have hE:GR=R.bind fun xs l2=>(tEat 5 [41] l2).bind fun _ l3=>.ok (.mk kd tE0 tE0 0 xs) l3:=by
  rw[HGR.out,hR,Zn]
  cases r with
  |no l=>rfl
  |ok x l =>
   show zbf kd ps l=_
   rw[zmg]
   show _=(remQ ps false ((tEat 5 [40] l).bind _)).bind _
   cases tEat 5 [40] l<;>rfl
 have HE:=Z9 hE;have HRR:=Z9 hR.symm;clear hT ZP Z3 Yf hq00 Zn hR hE;refine HM.out.mono ?_;rintro e u ⟨v,rfl,rfl,_,hr,hg⟩
 have HLS:Hid (LsQ rb ts kd B w 0 (.slice none 0 0) [] q0 u):=by
  refine Z9 ⟨⟨?_,?_,?_⟩,⟨by simp,.inl ⟨rfl,rfl⟩⟩,fun ys l e => ?_,HU0.out u hr,Lib.grownBy_trans HG0.out hg⟩
  ·exact(hg.block _ (Z8 HT.out.1) (fun e=>by injection e with e;omega)).trans HT.out.1
  ·exact(hg.block _ (Z8 HT.out.2.1) (fun e=>by injection e with e;omega)).trans HT.out.2.1
  ·exact Nat.le_trans HT.out.2.2 hg.size
  ·obtain⟨rfl,_⟩:=HLQ.out ys l e
   exact⟨rfl,0,TwR.nil _ _ _ _⟩
 clear hr hg;go_wp2_with fail;go_loopw [10] (fun iv wr=>∃(k:Nat)(q:Rd (List Ex))(v:Value)(xs:List Value),k≤n∧iv=.int .i64 (k:Int)∧LsQ rb ts kd B w k v xs q wr∧(∀ys l,q=.ok ys l→l.length<n0)∧Hid (remQ (ps.drop k) (decide (0<k)) q=R)) (fun iv _=>n-(intOf iv).toNat)
 case atStart=>exact⟨0,q0,.slice none 0 0,[],Nat.zero_le _,rfl,HLS.out,fun ys l e=>(HLQ.out ys l e).2,HRR.out⟩
 case round =>
  obtain⟨w1,rfl⟩:∃w1:World,w1=wr:=⟨_,rfl⟩
  obtain⟨k,q,v,xs,hk,rfl,T7,Z5,XS⟩:=hrel;have HLSW:=Z9 T7;have HLEN:=Z9 Z5;have hrB:rb<B:=ZH;clear T7 Z5 HLS
  by_cases Z7:k<n
  ·cases hq:q with
   |no lq =>
    have hqr:q=R:=by rw[←XS.out,hq];rfl
    have hrd:=HLSW.out.rd;rw[hq]at hrd;obtain⟨ca0,ccap,cnx,cb,_⟩:=hrd;obtain⟨c0,c1,c2⟩:=q3 cb;have hrw1:rb<w1.heap.size:=HLSW.out.rd.lt;have HQR:=Z9 hqr;clear cb hq hqr;have HMC:=Z9 (XG.out ⟨#[41]⟩ w1 q HLSW.out.rd)
    have HQ4:Hid (∀u,QSt rb ts u (q.bind fun _ l=>tEat 5 (ByteArray.mk #[41]).data.toList l)→QSt rb ts u (q.bind fun ys l=>(tEat 5 [41] l).bind fun _ l1=>.ok ys l1:Rd (List Ex))):=Z9 (fun u hu=>hu.as (by
     cases q with
     |no l=>rfl
     |ok x l =>
      show(tEat 5 [41] l).unit=((tEat 5 [41] l).bind _).unit
      cases tEat 5 [41] l<;>rfl))
    have HFG:Hid (GR=(q.bind fun ys l=>(tEat 5 [41] l).bind fun _ l1=>.ok ys l1:Rd (List Ex)).bind fun ys l=>.ok (.mk kd tE0 tE0 0 ys) l):=Z9 (by
     rw[HE.out,←HQR.out]
     cases q with
     |no l=>rfl
     |ok x l =>
      show(tEat 5 [41] l).bind _=((tEat 5 [41] l).bind _).bind _
      cases tEat 5 [41] l<;>rfl)
    go_wp2_with fail;refine HMC.out.mono ?_;rintro e u1 ⟨v1,rfl,rfl,_,hr,hg⟩
    have HLS1:=Z9 (HLSW.out.same hg (HQ4.out u1 hr) hrB (fun ys l e=>by
     cases q with
     |no l=>cases e
     |ok x l1 =>
      have e:((tEat 5 [41] l1).bind fun _ l1=>.ok x l1:Rd (List Ex))=.ok ys l:=e
      cases ht:tEat 5 [41] l1 with
      |no l2=>rw[ht]at e;cases e
      |ok z l2=>rw[ht]at e;injection e with e1 e2;subst e1;exact⟨_,rfl⟩))
    clear hr hg;obtain⟨av,lv,cv,rfl⟩:=zm2 HLS1.out.own;have Zw:=zwe HBB.out hrB HLS1.out HFG.out;have hd:=HLS1.out.blocks;obtain⟨o0,o1,o2,o3,o4⟩:=zae hd.2.1;obtain⟨z0,z1,z2,z3,z4⟩:=zae hd.1;have fz:∀i,u1.frozen? ⟨B,i,none⟩=false:=Lib.frozen_of_heap hd.1
    have WV:=hd.2.2;have zb:B<u1.heap.size:=by omega
    have HFIN:=Z9 Zw;clear Zw hd WV;go_wp2_with fail;obtain⟨W',hW',Zs,Yn⟩:=HFIN.out;rw[←hW'];obtain⟨c0,c1,c2,c3,c4⟩:=zae Zs;exact bodyPost_ret (v:=.agg #[.int .u8 kd,.string ⟨#[]⟩,.string ⟨#[]⟩,.int .i64 0,.slice av lv cv]) (by simp[results,Tryz.results119,go_sem,c0,c1,c2,c3,c4]) rfl Yn
   |ok ys l' =>
    have hrd:=HLSW.out.rd;rw[hq]at hrd;obtain⟨ca0,ccap,cnx,cb,_⟩:=hrd;obtain⟨c0,c1,c2⟩:=q3 cb;have hrw1:rb<w1.heap.size:=HLSW.out.rd.lt;have hki:(k:Int)<(n:Int):=by omega
    have hlk:l'.length<n0:=HLEN.out ys l' hq;have Yr:=XS.out;rw[HPAT.out k Z7,zvf]at Yr;obtain⟨b,hb⟩:∃b,b=decide (nt≤k):=⟨_,rfl⟩
    rw[←hb]at Yr;have HB:=Z9 hb;have HLK:=Z9 hlk;have HQ:=Z9 hq;have hwk:IntKind.i64.wrap ((k:Int)+1)=(k:Int)+1:=IntWalk.i64_in _ (by omega)
    by_cases WP:k=0
    ·rw[show decide (0<k)=false by simp[WP],show comQ false q=q by cases q<;>rfl]at Yr
     have HSTEP:=Z9 Yr;have HLENX:=Z9 (fun ys2 l2 (e:q=.ok ys2 l2)=>HLEN.out ys2 l2 e);have VK:decide ((0:Int)<(k:Int))=false:=by simp;omega
     have hnk:¬0<k:=by omega
     clear cb Yr hb hlk hq WP;have hd:=HLSW.out.blocks;have WW:=Z9 hd.2.1;obtain⟨o0,o1,o2,o3,o4⟩:=zae hd.2.1;have f4:=Lib.frozen_of_heap hd.2.1 4;have zz:B+1<w1.heap.size:=by have:=hd.2.2;omega
     have HHZ:=Z9 hd.2.2;have HOWN0:=Z9 HLSW.out.own
     obtain⟨p,hp⟩:∃p,p=q.bind fun _ l=>za9 S T b l:=⟨_,rfl⟩
     have HCB:=Z9 (HP.out b w1.drew q (HLSW.out.rd.below (Below.refl _ w1).drew) HLENX.out);rw[←hp]at HCB
     have YA:Hid ((∀l,q=.no l→p=.no l)∧(q.bind fun ys _=>p.bind fun y l2=>.ok (ys ++ [y]) l2:Rd (List Ex))=q.bind fun ys l=>(za9 S T b l).bind fun y l2=>.ok (ys ++ [y]) l2):=Z9 (by
      rw[hp]
      cases q with
      |no l=>exact⟨fun _ e=>by injection e with e;rw[e];rfl,rfl⟩
      |ok x l=>exact⟨fun _ e=>by(cases e),rfl⟩)
     have HLN:Hid (∀ys2 l2,(q.bind fun ys _=>p.bind fun y l2=>.ok (ys ++ [y]) l2:Rd (List Ex))=.ok ys2 l2→l2.length<n0):=Z9 (fun ys2 l2 e=>by
      rw[YA.out.2]at e
      cases hx:q with
      |no l=>rw[hx]at e;cases e
      |ok x l =>
       rw[hx]at e;have e:((za9 S T b l).bind fun y l2=>.ok (x ++ [y]) l2:Rd (List Ex))=.ok ys2 l2:=e
       cases ht:za9 S T b l with
       |no l3=>rw[ht]at e;cases e
       |ok z l3 =>
        rw[ht]at e
        injection e with e1 e2
        subst e2
        exact Nat.lt_trans ((HCN.out b l).lt ht) (HLENX.out _ _ hx))
     clear hd hp
     by_cases hkt:k<nt
     ·have hkti:(k:Int)<(nt:Int):=by omega
      have Xx:b=false:=by rw[HB.out];simp;omega
      rw[Xx]at HCB;change Hid (Calls Tryz.prog 66 _ _ _)at HCB;clear Xx;go_wp2_with fail
      go_region_law (first
       |(refine step_append_lies _ (by rfl) (.tmp 37) (.tmp 40) 23 (by rfl) (B+2) 25 i0 zio 5 72 Tryz.underlying23 HI0.out HI1.out HI2.out HI3.out rfl (by decide) v k xs (by rfl) HOW.out ⟨u.heap.size,0,none⟩ 1 1 [.int .u8 yk,.string ya,.string yb,.int .i64 yd,.slice pa pl pc] (by rfl) rfl HNW.out HON.out (by decide) (by unfold maxLen;omega) (by omega) HBS.out _ rfl ?_;intro ga ca w3 ZG Y1 ZB Wl;have YH:=Z9 Y1;have Zj:=Z9 ZG;have ZI:=Z9 ZB;have hd2w:=(Y1.block _ (show B+1<_ by rw[World.size_alloc];omega) (zrz HOWN0.out (by omega))).trans ((Below.heap_alloc u _ _ zu).trans HD2u.out);have HD2w:=Z9 hd2w;have o4w:=(zae hd2w).2.2.2.2;have f4w:=Lib.frozen_of_heap hd2w 4;clear ZG Y1 ZB hd2w)
       |(go_simp;refine HCB.out.mono ?_;rintro e u ⟨vv,rfl,⟨yk,ya,yb,yd,pa,pl,pc,rfl⟩,hx,hr,hb⟩;have HX:=Z9 hx;have HBU:=Z9 hb;have HRU:=Z9 hr;have hd2u:=(hb.block _ (show B+1<w1.heap.size by omega) (fun e=>by injection e with e;omega)).trans WW.out;have HD2u:=Z9 hd2u;have o4u:=(zae hd2u).2.2.2.2;have zu:B+1<u.heap.size:=Nat.lt_of_lt_of_le (show B+1<w1.heap.size by omega) hb.size;have HOW:=Z9 (zkj HOWN0.out hb hrB (.cells #[.int .u8 yk,.string ya,.string yb,.int .i64 yd,.slice pa pl pc] 25));have HNW:=Z9 (World.news_of_block (heap_alloc_new u (.cells #[.int .u8 yk,.string ya,.string yb,.int .i64 yd,.slice pa pl pc] 25)));have HON:=Z9 (zf3 yk yd ya yb pa pl pc);have HBS:=Z9 (show B+2≤(u.alloc (.cells #[.int .u8 yk,.string ya,.string yb,.int .i64 yd,.slice pa pl pc] 25)).heap.size by rw[World.size_alloc];omega);clear hx hb hd2u hr))
      all_goals
       have HNEW:=Z9 (HLSW.out.step HBB.out hrB HBU.out YA.out.1 HX.out HRU.out YH.out Zj.out ZI.out);clear HX YH Zj ZI HOW HNW HON HBS HBU HD2u HD2w HRU;go_wp2_with fail;go_roundw
       case rel=>exact⟨k+1,_,_,_,by omega,by go_num,HNEW.out,HLN.out,by rw[show decide (0<k+1)=true by simp,YA.out.2];exact HSTEP.out⟩
       case measure=>simp[intOf]<;>omega
     ·have hkti:¬(k:Int)<(nt:Int):=by omega
      have hktd:decide ((k:Int)<(nt:Int))=false:=decide_eq_false hkti;have Xx:b=true:=by rw[HB.out];simp;omega
      rw[Xx]at HCB;change Hid (Calls Tryz.prog 67 _ _ _)at HCB;clear Xx;go_wp2_with fail
      go_region_law (first
       |(refine step_append_lies _ (by rfl) (.tmp 44) (.tmp 47) 23 (by rfl) (B+2) 25 i0 zio 5 72 Tryz.underlying23 HI0.out HI1.out HI2.out HI3.out rfl (by decide) v k xs (by rfl) HOW.out ⟨u.heap.size,0,none⟩ 1 1 [.int .u8 yk,.string ya,.string yb,.int .i64 yd,.slice pa pl pc] (by rfl) rfl HNW.out HON.out (by decide) (by unfold maxLen;omega) (by omega) HBS.out _ rfl ?_;intro ga ca w3 ZG Y1 ZB Wl;have YH:=Z9 Y1;have Zj:=Z9 ZG;have ZI:=Z9 ZB;have hd2w:=(Y1.block _ (show B+1<_ by rw[World.size_alloc];omega) (zrz HOWN0.out (by omega))).trans ((Below.heap_alloc u _ _ zu).trans HD2u.out);have HD2w:=Z9 hd2w;have o4w:=(zae hd2w).2.2.2.2;have f4w:=Lib.frozen_of_heap hd2w 4;clear ZG Y1 ZB hd2w)
       |(go_simp;refine HCB.out.mono ?_;rintro e u ⟨vv,rfl,⟨yk,ya,yb,yd,pa,pl,pc,rfl⟩,hx,hr,hb⟩;have HX:=Z9 hx;have HBU:=Z9 hb;have HRU:=Z9 hr;have hd2u:=(hb.block _ (show B+1<w1.heap.size by omega) (fun e=>by injection e with e;omega)).trans WW.out;have HD2u:=Z9 hd2u;have o4u:=(zae hd2u).2.2.2.2;have zu:B+1<u.heap.size:=Nat.lt_of_lt_of_le (show B+1<w1.heap.size by omega) hb.size;have HOW:=Z9 (zkj HOWN0.out hb hrB (.cells #[.int .u8 yk,.string ya,.string yb,.int .i64 yd,.slice pa pl pc] 25));have HNW:=Z9 (World.news_of_block (heap_alloc_new u (.cells #[.int .u8 yk,.string ya,.string yb,.int .i64 yd,.slice pa pl pc] 25)));have HON:=Z9 (zf3 yk yd ya yb pa pl pc);have HBS:=Z9 (show B+2≤(u.alloc (.cells #[.int .u8 yk,.string ya,.string yb,.int .i64 yd,.slice pa pl pc] 25)).heap.size by rw[World.size_alloc];omega);clear hx hb hd2u hr))
      all_goals
       have HNEW:=Z9 (HLSW.out.step HBB.out hrB HBU.out YA.out.1 HX.out HRU.out YH.out Zj.out ZI.out);clear HX YH Zj ZI HOW HNW HON HBS HBU HD2u HD2w HRU;go_wp2_with fail;go_roundw
       case rel=>exact⟨k+1,_,_,_,by omega,by go_num,HNEW.out,HLN.out,by rw[show decide (0<k+1)=true by simp,YA.out.2];exact HSTEP.out⟩
       case measure=>simp[intOf]<;>omega
    ·rw[show decide (0<k)=true by simp;omega]at Yr
     obtain⟨qc,VO⟩:∃qc,qc=comQ true q:=⟨_,rfl⟩
     rw[←VO]at Yr;have HSTEP:=Z9 Yr;have VK:decide ((0:Int)<(k:Int))=true:=by simp;omega
     have hk0p:(0:Int)<(k:Int):=by omega
     have HMC:=Z9 (XG.out ⟨#[44]⟩ w1 q HLSW.out.rd)
     have HU1:Hid (∀u,QSt rb ts u (q.bind fun _ l=>tEat 5 (ByteArray.mk #[44]).data.toList l)→QSt rb ts u qc):=Z9 (fun u hu=>hu.as (by
      rw[VO,hq]
      show(tEat 5 [44] l').unit=((tEat 5 [44] l').bind _).unit
      cases tEat 5 [44] l'<;>rfl))
     have HLENX:Hid (∀ys2 l2,qc=.ok ys2 l2→l2.length<n0):=Z9 (fun ys2 l2 e=>by
      rw[VO,hq]at e;have e:((tEat 5 [44] l').bind fun _ l1=>.ok ys l1:Rd (List Ex))=.ok ys2 l2:=e
      cases ht:tEat 5 [44] l' with
      |no l3=>rw[ht]at e;cases e
      |ok z l3 =>
       rw[ht]at e
       injection e with e1 e2
       subst e2
       exact Nat.lt_trans ((zcx 5 [44] l').lt ht) HLK.out)
     have HYS:Hid (∀ys2 l2,qc=.ok ys2 l2→∃l3,q=.ok ys2 l3):=Z9 (fun ys2 l2 e=>by
      rw[VO,hq]at e;have e:((tEat 5 [44] l').bind fun _ l1=>.ok ys l1:Rd (List Ex))=.ok ys2 l2:=e
      cases ht:tEat 5 [44] l' with
      |no l3=>rw[ht]at e;cases e
      |ok z l3 =>
       rw[ht]at e
       injection e with e1 e2
       exact⟨l',by rw[hq,e1]⟩)
     clear cb Yr hb hlk hq WP VO;go_wp2_with fail;refine HMC.out.mono ?_;rintro e u1 ⟨v1,rfl,rfl,_,hr,hg⟩;have HLS1:=Z9 (HLSW.out.same hg (HU1.out u1 hr) hrB HYS.out);have hrw2:rb<u1.heap.size:=HLS1.out.rd.lt;clear hr hg c0 c1 c2;have hd:=HLS1.out.blocks;have WW:=Z9 hd.2.1;obtain⟨o0,o1,o2,o3,o4⟩:=zae hd.2.1;have f4:=Lib.frozen_of_heap hd.2.1 4;have zz:B+1<u1.heap.size:=by have:=hd.2.2;omega
     have HHZ:=Z9 hd.2.2;have HOWN0:=Z9 HLS1.out.own
     obtain⟨p,hp⟩:∃p,p=qc.bind fun _ l=>za9 S T b l:=⟨_,rfl⟩
     have HCB:=Z9 (HP.out b u1.drew qc (HLS1.out.rd.below (Below.refl _ u1).drew) HLENX.out);rw[←hp]at HCB
     have YA:Hid ((∀l,qc=.no l→p=.no l)∧(qc.bind fun ys _=>p.bind fun y l2=>.ok (ys ++ [y]) l2:Rd (List Ex))=qc.bind fun ys l=>(za9 S T b l).bind fun y l2=>.ok (ys ++ [y]) l2):=Z9 (by
      rw[hp]
      cases qc with
      |no l=>exact⟨fun _ e=>by injection e with e;rw[e];rfl,rfl⟩
      |ok x l=>exact⟨fun _ e=>by(cases e),rfl⟩)
     have HLN:Hid (∀ys2 l2,(qc.bind fun ys _=>p.bind fun y l2=>.ok (ys ++ [y]) l2:Rd (List Ex))=.ok ys2 l2→l2.length<n0):=Z9 (fun ys2 l2 e=>by
      rw[YA.out.2]at e
      cases hx:qc with
      |no l=>rw[hx]at e;cases e
      |ok x l =>
       rw[hx]at e;have e:((za9 S T b l).bind fun y l2=>.ok (x ++ [y]) l2:Rd (List Ex))=.ok ys2 l2:=e
       cases ht:za9 S T b l with
       |no l3=>rw[ht]at e;cases e
       |ok z l3 =>
        rw[ht]at e
        injection e with e1 e2
        subst e2
        exact Nat.lt_trans ((HCN.out b l).lt ht) (HLENX.out _ _ hx))
     clear hd hp
     by_cases hkt:k<nt
     ·have hkti:(k:Int)<(nt:Int):=by omega
      have Xx:b=false:=by rw[HB.out];simp;omega
      rw[Xx]at HCB;change Hid (Calls Tryz.prog 66 _ _ _)at HCB;clear Xx;go_wp2_with fail
      go_region_law (first
       |(refine step_append_lies _ (by rfl) (.tmp 37) (.tmp 40) 23 (by rfl) (B+2) 25 i0 zio 5 72 Tryz.underlying23 HI0.out HI1.out HI2.out HI3.out rfl (by decide) v k xs (by rfl) HOW.out ⟨u.heap.size,0,none⟩ 1 1 [.int .u8 yk,.string ya,.string yb,.int .i64 yd,.slice pa pl pc] (by rfl) rfl HNW.out HON.out (by decide) (by unfold maxLen;omega) (by omega) HBS.out _ rfl ?_;intro ga ca w3 ZG Y1 ZB Wl;have YH:=Z9 Y1;have Zj:=Z9 ZG;have ZI:=Z9 ZB;have hd2w:=(Y1.block _ (show B+1<_ by rw[World.size_alloc];omega) (zrz HOWN0.out (by omega))).trans ((Below.heap_alloc u _ _ zu).trans HD2u.out);have HD2w:=Z9 hd2w;have o4w:=(zae hd2w).2.2.2.2;have f4w:=Lib.frozen_of_heap hd2w 4;clear ZG Y1 ZB hd2w)
       |(go_simp;refine HCB.out.mono ?_;rintro e u ⟨vv,rfl,⟨yk,ya,yb,yd,pa,pl,pc,rfl⟩,hx,hr,hb⟩;have HX:=Z9 hx;have HBU:=Z9 hb;have HRU:=Z9 hr;have hd2u:=(hb.block _ (show B+1<u1.heap.size by omega) (fun e=>by injection e with e;omega)).trans WW.out;have HD2u:=Z9 hd2u;have o4u:=(zae hd2u).2.2.2.2;have zu:B+1<u.heap.size:=Nat.lt_of_lt_of_le (show B+1<u1.heap.size by omega) hb.size;have HOW:=Z9 (zkj HOWN0.out hb hrB (.cells #[.int .u8 yk,.string ya,.string yb,.int .i64 yd,.slice pa pl pc] 25));have HNW:=Z9 (World.news_of_block (heap_alloc_new u (.cells #[.int .u8 yk,.string ya,.string yb,.int .i64 yd,.slice pa pl pc] 25)));have HON:=Z9 (zf3 yk yd ya yb pa pl pc);have HBS:=Z9 (show B+2≤(u.alloc (.cells #[.int .u8 yk,.string ya,.string yb,.int .i64 yd,.slice pa pl pc] 25)).heap.size by rw[World.size_alloc];omega);clear hx hb hd2u hr))
      all_goals
       have HNEW:=Z9 (HLS1.out.step HBB.out hrB HBU.out YA.out.1 HX.out HRU.out YH.out Zj.out ZI.out);clear HX YH Zj ZI HOW HNW HON HBS HBU HD2u HD2w HRU;go_wp2_with fail;go_roundw
       case rel=>exact⟨k+1,_,_,_,by omega,by go_num,HNEW.out,HLN.out,by rw[show decide (0<k+1)=true by simp,YA.out.2];exact HSTEP.out⟩
       case measure=>simp[intOf]<;>omega
     ·have hkti:¬(k:Int)<(nt:Int):=by omega
      have hktd:decide ((k:Int)<(nt:Int))=false:=decide_eq_false hkti;have Xx:b=true:=by rw[HB.out];simp;omega
      rw[Xx]at HCB;change Hid (Calls Tryz.prog 67 _ _ _)at HCB;clear Xx;go_wp2_with fail
      go_region_law (first
       |(refine step_append_lies _ (by rfl) (.tmp 44) (.tmp 47) 23 (by rfl) (B+2) 25 i0 zio 5 72 Tryz.underlying23 HI0.out HI1.out HI2.out HI3.out rfl (by decide) v k xs (by rfl) HOW.out ⟨u.heap.size,0,none⟩ 1 1 [.int .u8 yk,.string ya,.string yb,.int .i64 yd,.slice pa pl pc] (by rfl) rfl HNW.out HON.out (by decide) (by unfold maxLen;omega) (by omega) HBS.out _ rfl ?_;intro ga ca w3 ZG Y1 ZB Wl;have YH:=Z9 Y1;have Zj:=Z9 ZG;have ZI:=Z9 ZB;have hd2w:=(Y1.block _ (show B+1<_ by rw[World.size_alloc];omega) (zrz HOWN0.out (by omega))).trans ((Below.heap_alloc u _ _ zu).trans HD2u.out);have HD2w:=Z9 hd2w;have o4w:=(zae hd2w).2.2.2.2;have f4w:=Lib.frozen_of_heap hd2w 4;clear ZG Y1 ZB hd2w)
       |(go_simp;refine HCB.out.mono ?_;rintro e u ⟨vv,rfl,⟨yk,ya,yb,yd,pa,pl,pc,rfl⟩,hx,hr,hb⟩;have HX:=Z9 hx;have HBU:=Z9 hb;have HRU:=Z9 hr;have hd2u:=(hb.block _ (show B+1<u1.heap.size by omega) (fun e=>by injection e with e;omega)).trans WW.out;have HD2u:=Z9 hd2u;have o4u:=(zae hd2u).2.2.2.2;have zu:B+1<u.heap.size:=Nat.lt_of_lt_of_le (show B+1<u1.heap.size by omega) hb.size;have HOW:=Z9 (zkj HOWN0.out hb hrB (.cells #[.int .u8 yk,.string ya,.string yb,.int .i64 yd,.slice pa pl pc] 25));have HNW:=Z9 (World.news_of_block (heap_alloc_new u (.cells #[.int .u8 yk,.string ya,.string yb,.int .i64 yd,.slice pa pl pc] 25)));have HON:=Z9 (zf3 yk yd ya yb pa pl pc);have HBS:=Z9 (show B+2≤(u.alloc (.cells #[.int .u8 yk,.string ya,.string yb,.int .i64 yd,.slice pa pl pc] 25)).heap.size by rw[World.size_alloc];omega);clear hx hb hd2u hr))
      all_goals
       have HNEW:=Z9 (HLS1.out.step HBB.out hrB HBU.out YA.out.1 HX.out HRU.out YH.out Zj.out ZI.out);clear HX YH Zj ZI HOW HNW HON HBS HBU HD2u HD2w HRU;go_wp2_with fail;go_roundw
       case rel=>exact⟨k+1,_,_,_,by omega,by go_num,HNEW.out,HLN.out,by rw[show decide (0<k+1)=true by simp,YA.out.2];exact HSTEP.out⟩
       case measure=>simp[intOf]<;>omega
  ·have UC:k=n:=by omega
   have hqr:q=R:=by
    rw[←XS.out,List.drop_eq_nil_of_le (by rw[HPL.out];omega)];exact(zyw _ _).symm
   have HQR:=Z9 hqr;have hki:¬(k:Int)<(n:Int):=by omega
   have hkd:decide ((k:Int)<(n:Int))=false:=decide_eq_false hki;clear hqr;have HMC:=Z9 (XG.out ⟨#[41]⟩ w1 q HLSW.out.rd)
   have HQ4:Hid (∀u,QSt rb ts u (q.bind fun _ l=>tEat 5 (ByteArray.mk #[41]).data.toList l)→QSt rb ts u (q.bind fun ys l=>(tEat 5 [41] l).bind fun _ l1=>.ok ys l1:Rd (List Ex))):=Z9 (fun u hu=>hu.as (by
    cases q with
    |no l=>rfl
    |ok x l =>
     show(tEat 5 [41] l).unit=((tEat 5 [41] l).bind _).unit
     cases tEat 5 [41] l<;>rfl))
   have HFG:Hid (GR=(q.bind fun ys l=>(tEat 5 [41] l).bind fun _ l1=>.ok ys l1:Rd (List Ex)).bind fun ys l=>.ok (.mk kd tE0 tE0 0 ys) l):=Z9 (by
    rw[HE.out,←HQR.out]
    cases q with
    |no l=>rfl
    |ok x l =>
     show(tEat 5 [41] l).bind _=((tEat 5 [41] l).bind _).bind _
     cases tEat 5 [41] l<;>rfl)
   go_wp2_with fail;refine HMC.out.mono ?_;rintro e u1 ⟨v1,rfl,rfl,_,hr,hg⟩
   have HLS1:=Z9 (HLSW.out.same hg (HQ4.out u1 hr) hrB (fun ys l e=>by
    cases q with
    |no l=>cases e
    |ok x l1 =>
     have e:((tEat 5 [41] l1).bind fun _ l1=>.ok x l1:Rd (List Ex))=.ok ys l:=e
     cases ht:tEat 5 [41] l1 with
     |no l2=>rw[ht]at e;cases e
     |ok z l2=>rw[ht]at e;injection e with e1 e2;subst e1;exact⟨_,rfl⟩))
   clear hr hg;obtain⟨av,lv,cv,rfl⟩:=zm2 HLS1.out.own;have Zw:=zwe HBB.out hrB HLS1.out HFG.out;have hd:=HLS1.out.blocks;obtain⟨o0,o1,o2,o3,o4⟩:=zae hd.2.1;obtain⟨z0,z1,z2,z3,z4⟩:=zae hd.1;have fz:∀i,u1.frozen? ⟨B,i,none⟩=false:=Lib.frozen_of_heap hd.1
   have WV:=hd.2.2;have zb:B<u1.heap.size:=by omega
   have HFIN:=Z9 Zw;clear Zw hd WV;go_wp2_with fail;obtain⟨W',hW',Zs,Yn⟩:=HFIN.out;rw[←hW'];obtain⟨c0,c1,c2,c3,c4⟩:=zae Zs;exact bodyPost_ret (v:=.agg #[.int .u8 kd,.string ⟨#[]⟩,.string ⟨#[]⟩,.int .i64 0,.slice av lv cv]) (by simp[results,Tryz.results119,go_sem,c0,c1,c2,c3,c4]) rfl Yn
def zvn(S:RdX)(l:List Tk):Rd Ex :=
 if tIs 5 [40] l=true then(S l.tail).bind fun x l=>(tEat 5 [41] l).bind fun _ l=>.ok x l
 else if tNm l=true then tFix l
 else(tOf 3 l).bind fun t l=>.ok (.mk 1 t.rat tE0 0 []) l
theorem zqi{s:List UInt8}{l:List Tk}(hs:kwB s=true):tIs 1 s l=decide (zar l=s):=by
 cases l with
 |nil =>
  show false=decide ([]=s)
  cases s with
  |nil=>exact absurd hs (by decide)
  |cons a b=>simp
 |cons t l =>
  show(decide (t.kind=1) && (t.text.data.toList == s))=decide ((if t.kind=1∧kwB t.text.data.toList=true then t.text.data.toList else[])=s)
  by_cases h1:t.kind=1
  ·by_cases h2:t.text.data.toList=s
   ·rw[if_pos ⟨h1,by rw[h2];exact hs⟩]
    simp[h1,h2]
   ·have h3:(t.text.data.toList == s)=false:=beq_eq_false_iff_ne.2 h2
    rw[h3]
    by_cases h4:kwB t.text.data.toList=true
    ·rw[if_pos ⟨h1,h4⟩];simp[h2]
    ·rw[if_neg (fun h=>h4 h.2)]
     have:([]:List UInt8)≠s:=fun e=>by rw[←e]at hs;exact absurd hs (by decide)
     simp[this]
  ·rw[if_neg (fun h=>h1 h.1)]
   have:([]:List UInt8)≠s:=fun e=>by rw[←e]at hs;exact absurd hs (by decide)
   simp[h1,this]
theorem zd5{α:Type}{s:List UInt8}(x:α)(l:List Tk)(hs:kwB s=true):qIs 1 s (Rd.ok x l)=decide (zar l=s):=zqi hs
theorem zl0{α:Type}(x:α)(l:List Tk):chW [⟨#[109,97,120]⟩,⟨#[109,105,110]⟩,⟨#[99,97,115,101]⟩] (Rd.ok x l) =
 if zar l=[109,97,120]then some (⟨#[109,97,120]⟩,l.tail)else if zar l=[109,105,110]then some (⟨#[109,105,110]⟩,l.tail)else if zar l=[99,97,115,101]then some (⟨#[99,97,115,101]⟩,l.tail)else none:=by
 have e1:qIs 1 (ByteArray.mk #[109,97,120]).data.toList (Rd.ok x l)=decide (zar l=[109,97,120]):=zd5 x l (by decide);have e2:qIs 1 (ByteArray.mk #[109,105,110]).data.toList (Rd.ok x l)=decide (zar l=[109,105,110]):=zd5 x l (by decide);have e3:qIs 1 (ByteArray.mk #[99,97,115,101]).data.toList (Rd.ok x l)=decide (zar l=[99,97,115,101]):=zd5 x l (by decide)
 by_cases h1:zar l=[109,97,120]
 ·rw[if_pos h1,zej (by rw[e1,h1];rfl)];rfl
 rw[if_neg h1,zgh (by rw[e1];exact decide_eq_false h1)]
 by_cases h2:zar l=[109,105,110]
 ·rw[if_pos h2,zej (by rw[e2,h2];rfl)];rfl
 rw[if_neg h2,zgh (by rw[e2];exact decide_eq_false h2)]
 by_cases h3:zar l=[99,97,115,101]
 ·rw[if_pos h3,zej (by rw[e3,h3];rfl)];rfl
 rw[if_neg h3,zgh (by rw[e3];exact decide_eq_false h3)];rfl
theorem zsm{S T:RdX}{l:List Tk}(h1:zar l≠[109,97,120])(h2:zar l≠[109,105,110])(h3:zar l≠[99,97,115,101]):zbv S T l=zvn S l:=by
 unfold zbv zvn;rw[if_neg h1,if_neg h2,if_neg h3]
 cases l with
 |nil=>rfl
 |cons t l =>
  by_cases h0:zar (t :: l)=[]
  ·rw[if_pos h0]
   unfold ziv
   by_cases hp:tIs 5 [40] (t :: l)=true
   ·rw[if_pos hp,if_pos hp]
   ·rw[if_neg hp,if_neg hp]
    show(if t.kind=3 then Rd.ok (.mk 1 t.rat tE0 0 []) l else tFix (t :: l))=_
    by_cases k3:t.kind=3
    ·have hn:tNm (t :: l)=false:=by
      show((t.kind == 2) ||((t.kind == 1) && _))=false
      rw[k3];rfl
     rw[if_pos k3,hn,if_neg (by simp)]
     show _=(if t.kind=3 then Rd.ok t l else Rd.no (t :: l)).bind _
     rw[if_pos k3];rfl
    ·rw[if_neg k3]
     by_cases hn:tNm (t :: l)=true
     ·rw[if_pos hn]
     ·rw[if_neg hn]
      show _=(if t.kind=3 then Rd.ok t l else Rd.no (t :: l)).bind _
      rw[if_neg k3];have hq:=z1r (r:=Rd.ok () (t :: l)) (show tNm (t :: l)=false by simpa using hn);have hq:zgf (t :: l)=.no (t :: l):=hq;unfold tFix;rw[hq];rfl
  ·rw[if_neg h0]
   have hk:t.kind=1∧kwB t.text.data.toList=true:=by
    by_cases h:t.kind=1∧kwB t.text.data.toList=true
    ·exact h
    ·exact absurd (if_neg h) h0
   have hp:tIs 5 [40] (t :: l)=false:=by
    show(decide (t.kind=5) && _)=false
    rw[hk.1];rfl
   have hn:tNm (t :: l)=false:=by
    show((t.kind == 2) ||((t.kind == 1) && !kwB t.text.data.toList))=false
    rw[hk.1,hk.2];rfl
   rw[hp,hn,if_neg (by simp),if_neg (by simp)]
   show _=(if t.kind=3 then Rd.ok t l else Rd.no (t :: l)).bind _
   rw[if_neg (by rw[hk.1];decide)];rfl
structure GAt{α:Type}(rb:Nat)(ts:List Tk)(b:Nat)(w u:World)(r:Rd α):Prop where
 box:u.heap[b]?=some zC
 rd:QSt rb ts u r
 grown:w.grownBy u (some rb)
 lt:rb<b
theorem GAt.call{α β:Type}{rb b:Nat}{ts:List Tk}{w u u':World}{r:Rd α}{r':Rd β}(h:GAt rb ts b w u r)(hg:u.grownBy u' (some rb))(hr:QSt rb ts u' r'):GAt rb ts b w u' r' :=
 ⟨zao h.box hg (Nat.ne_of_lt h.lt),hr,Lib.grownBy_trans h.grown hg,h.lt⟩
theorem GAt.below{α:Type}{rb b:Nat}{ts:List Tk}{w u u':World}{r:Rd α}(h:GAt rb ts b w u r)(hb:Below u.heap.size u u'):GAt rb ts b w u' r:=h.call (zan (zah hb)) (h.rd.below hb)
theorem GAt.alloc{α:Type}{rb b:Nat}{ts:List Tk}{w u:World}{r:Rd α}(h:GAt rb ts b w u r)(o:Obj):GAt rb ts b w (u.alloc o) r:=h.below (zaf u o)
theorem GAt.start{α:Type}{rb:Nat}{ts:List Tk}{w:World}{r:Rd α}(h:QSt rb ts w r):GAt rb ts w.heap.size w (w.alloc zC) r:=⟨heap_alloc_new w zC,h.below (zaf w zC),World.grownBy_alloc w zC _,h.lt⟩
theorem GAt.blt{α:Type}{rb b:Nat}{ts:List Tk}{w u:World}{r:Rd α}(h:GAt rb ts b w u r):b<u.heap.size:=(Z8 h.box)
theorem GAt.as{α β:Type}{rb b:Nat}{ts:List Tk}{w u:World}{r:Rd α}{q:Rd β}(h:GAt rb ts b w u r)(e:r.unit=q.unit):GAt rb ts b w u q:=⟨h.box,h.rd.as e,h.grown,h.lt⟩
theorem GAt.fin{α:Type}{rb b:Nat}{ts:List Tk}{w u:World}{q:Rd α}{R:Rd Ex}(h:GAt rb ts b w u q)(hb:w.heap.size≤b)(hR:q.unit=R.unit)(yk yd:Int)(ya yb:ByteArray)(pa:Option Addr)(pl pc:Nat)
 (hx:∀x l,R=.ok x l→VEx (b+1) x u (.agg #[.int .u8 yk,.string ya,.string yb,.int .i64 yd,.slice pa pl pc])) :
 ∃W',W'=((((u.setCell ⟨b,0,none⟩ (.int .u8 yk)).setCell ⟨b,1,none⟩ (.string ya)).setCell ⟨b,2,none⟩ (.string yb)).setCell ⟨b,3,none⟩ (.int .i64 yd)).setCell ⟨b,4,none⟩ (.slice pa pl pc) ∧
  W'.heap[b]?=some (.cells #[.int .u8 yk,.string ya,.string yb,.int .i64 yd,.slice pa pl pc] 25) ∧
  QP (VEx w.heap.size) QEx rb ts w R (.returned (.agg #[.int .u8 yk,.string ya,.string yb,.int .i64 yd,.slice pa pl pc])) W':=by
 refine⟨_,rfl,za2 h.box _ _ _ _ _,_,rfl,⟨_,_,_,_,_,_,_,rfl⟩,fun x l e => ?_,?_,?_⟩
 ·obtain⟨n,a,len,cap,ev,X3⟩:=hx x l e
  refine⟨n,a,len,cap,ev,(X3.keep fun g ⟨g1,_⟩ => ?_).mono fun g ⟨g1,g2⟩=>⟨by omega,by simpa[World.setCell]using g2⟩⟩;rw[Below.heap_setCell _ _ _ _ (by show g≠b;omega),Below.heap_setCell _ _ _ _ (by show g≠b;omega),Below.heap_setCell _ _ _ _ (by show g≠b;omega),Below.heap_setCell _ _ _ _ (by show g≠b;omega),Below.heap_setCell _ _ _ _ (by show g≠b;omega)]
 ·exact(((((h.rd.setNew h.lt _ _).setNew h.lt _ _).setNew h.lt _ _).setNew h.lt _ _).setNew h.lt _ _).as hR
 ·exact zaq (zaq (zaq (zaq (zaq h.grown hb _ _) hb _ _) hb _ _) hb _ _) hb _ _
theorem zhs{rb:Nat}{ts:List Tk}(w:World)(l:List Tk)(h:QSt rb ts w (.no l:Rd Unit)) :
 Calls Tryz.prog 170 #[.pointer (some ⟨rb,0,none⟩)] w (QP (VEx w.heap.size) QEx rb ts w (.no l)):=by
 have hg:=GAt.start h;obtain⟨a,cap,nx,cb,_⟩:=h;obtain⟨c0,c1,c2⟩:=q3 cb;have Z7:=hg.lt;have HG:=Z9 hg;clear cb hg;go_enter Tryz.func170,Tryz.ntmps170;go_wp2_with fail;have hg:=HG.out;obtain⟨d0,d1,d2,d3,d4⟩:=zae hg.box;exact bodyPost_ret (v:=.agg #[.int .u8 0,.string ⟨#[]⟩,.string ⟨#[]⟩,.int .i64 0,.slice none 0 0]) (by simp[results,Tryz.results170,go_sem]) rfl ⟨_,rfl,⟨_,_,_,_,_,_,_,rfl⟩,(by intro x l e;cases e),hg.rd.as rfl,hg.grown⟩
theorem zmd{B B':Nat}{x:Ex}{u:World}{v:Value}(h:VEx B x u v)(hB:B'≤B):VEx B' x u v:=by
 obtain⟨n,a,len,cap,ev,X3⟩:=h;exact⟨n,a,len,cap,ev,X3.mono fun g ⟨g1,g2⟩=>⟨Nat.le_trans hB g1,g2⟩⟩
def zl7(rb n0:Nat)(ts:List Tk)(S T:RdX):Prop:=∀(b:Bool)(W:World)(r:Rd (List Ex)),QSt rb ts W r→(∀x l,r=.ok x l→l.length<n0)→Calls Tryz.prog (fnQ b) #[.pointer (some ⟨rb,0,none⟩)] W (QP (VEx W.heap.size) QEx rb ts W (r.bind fun _ l=>za9 S T b l))
def zee:Obj:=.cells #[.string ⟨#[109,97,120]⟩,.string ⟨#[109,105,110]⟩,.string ⟨#[99,97,115,101]⟩] 9
theorem zia(w:World):∀i (hi:i<([⟨#[109,97,120]⟩,⟨#[109,105,110]⟩,⟨#[99,97,115,101]⟩]:List ByteArray).length),(w.alloc zee).cell? ⟨w.heap.size,i,none⟩=some (.string (([⟨#[109,97,120]⟩,⟨#[109,105,110]⟩,⟨#[99,97,115,101]⟩]:List ByteArray)[i]'hi)):=by
 intro i hi;have ha:=heap_alloc_new w zee;simp only[List.length_cons,List.length_nil]at hi;unfold World.cell?
 show(match (w.alloc _).heap[w.heap.size]? with |some (.cells c _ _)=>c[i]? |_=>none)=_
 rw[ha]
 match i,hi with
 |0,_=>rfl
 |1,_=>rfl
 |2,_=>rfl
theorem zlc{rb n0:Nat}{ts:List Tk}(S T:RdX)(hp:zl7 rb n0 ts S T)(cS:∀l,(S l).Cons l)(cT:∀l,(T l).Cons l)(w:World)(l:List Tk)(h:QSt rb ts w (.ok () l:Rd Unit))(hl:l.length≤n0)(hh:zar l=[109,97,120]) :
 Calls Tryz.prog 170 #[.pointer (some ⟨rb,0,none⟩)] w (QP (VEx w.heap.size) QEx rb ts w (zbf 7 (List.replicate 0 T ++ List.replicate 2 S) l.tail)):=by
 have hg:=GAt.start h;have hgc:=hg.alloc zee;have Z7:=hg.lt;have hch:=zdn rb ts ((w.alloc zC).alloc zee) (.ok () l:Rd Unit) hgc.rd [⟨#[109,97,120]⟩,⟨#[109,105,110]⟩,⟨#[99,97,115,101]⟩] (w.alloc zC).heap.size 3 (by simp) (by simp;omega) (by simp) (by simp) (zia _);rw[zl0,hh]at hch;rw[World.size_alloc]at hch;have HCH:Hid (Calls Tryz.prog 117 #[.pointer (some ⟨rb,0,none⟩),.slice (some ⟨w.heap.size+1,0,none⟩) 3 3] ((w.alloc zC).alloc zee) (ChP rb ts ((w.alloc zC).alloc zee) (.ok () l:Rd Unit) (some (⟨#[109,97,120]⟩,l.tail)))):=Z9 hch;have HGC:=Z9 hgc
 obtain⟨c0,c1,c2⟩:(∃v,w.cell? ⟨rb,0,none⟩=some v)∧(∃v,w.cell? ⟨rb,1,none⟩=some v)∧w.cell? ⟨rb,2,none⟩=some (.bool false):=by
  obtain⟨a,cap,nx,cb,_⟩:=h;obtain⟨c0,c1,c2⟩:=q3 cb;exact⟨⟨_,c0⟩,⟨_,c1⟩,c2⟩
 have ZX:l.tail.length≤n0:=Nat.le_trans (by simp) hl
 have HAR:Hid (∀W,QSt rb ts W (.ok () l.tail:Rd Unit)→Calls Tryz.prog 119 #[.pointer (some ⟨rb,0,none⟩),.int .u8 7,.int .i64 0,.int .i64 2] W (QP (VEx W.heap.size) QEx rb ts W (zbf 7 (List.replicate 0 T ++ List.replicate 2 S) l.tail))) :=
  Z9 (fun W hW=>zle (n0:=n0) S T hp cS cT 7 0 2 (by omega) (by omega) W (.ok () l.tail) hW (fun x l2 e=>by injection e with e1 e2;rw[←e2];exact ZX))
 obtain⟨GR,ZK⟩:∃GR,GR=zbf 7 (List.replicate 0 T ++ List.replicate 2 S) l.tail:=⟨_,rfl⟩
 rw[←ZK]at HAR ⊢;clear hg hgc hch h hh hp cS cT ZK hl ZX c0 c1;go_enter Tryz.func170,Tryz.ntmps170;go_wp2_with fail;refine HCH.out.mono ?_;rintro e u ⟨rfl,hq,hg⟩;have HGU:=Z9 (HGC.out.call (r':=(.ok () l.tail:Rd Unit)) hg hq);clear hq hg;have HKO:=Z9 (zc2 ⟨#[109,97,120]⟩ u);rw[show kdOf (ByteArray.mk #[109,97,120]).data.toList=7 by decide]at HKO;simp only[Option.map_some,Option.getD_some];go_wp2_with fail;refine HKO.out.mono ?_;rintro e u' ⟨rfl,rfl⟩;go_wp2_with fail;refine(HAR.out _ HGU.out.rd).mono ?_;rintro e u3 ⟨vv,rfl,⟨yk,ya,yb,yd,pa,pl,pc,rfl⟩,hx,hr,hg⟩;have ZY:=HGU.out.call hg hr;have hz3:=ZY.box
 have HFIN:=Z9 (ZY.fin (R:=GR) (Nat.le_refl _) rfl yk yd ya yb pa pl pc (fun x l e=>zmd (hx x l e) HGU.out.blt));have fz:∀i,u3.frozen? ⟨w.heap.size,i,none⟩=false:=Lib.frozen_of_heap hz3
 have zb:w.heap.size<u3.heap.size:=(Z8 hz3);obtain⟨z0,z1,z2,z3,z4⟩:=zae hz3;clear hx hr hg ZY hz3;go_wp2_with fail;obtain⟨W',hW',Zs,Yn⟩:=HFIN.out;rw[←hW'];obtain⟨d0,d1,d2,d3,d4⟩:=zae Zs;exact bodyPost_ret (v:=.agg #[.int .u8 yk,.string ya,.string yb,.int .i64 yd,.slice pa pl pc]) (by simp[results,Tryz.results170,go_sem,d0,d1,d2,d3,d4]) rfl Yn
theorem zlb{rb n0:Nat}{ts:List Tk}(S T:RdX)(hp:zl7 rb n0 ts S T)(cS:∀l,(S l).Cons l)(cT:∀l,(T l).Cons l)(w:World)(l:List Tk)(h:QSt rb ts w (.ok () l:Rd Unit))(hl:l.length≤n0)(hh:zar l=[109,105,110]) :
 Calls Tryz.prog 170 #[.pointer (some ⟨rb,0,none⟩)] w (QP (VEx w.heap.size) QEx rb ts w (zbf 8 (List.replicate 0 T ++ List.replicate 2 S) l.tail)):=by
 have hg:=GAt.start h;have hgc:=hg.alloc zee;have Z7:=hg.lt;have hch:=zdn rb ts ((w.alloc zC).alloc zee) (.ok () l:Rd Unit) hgc.rd [⟨#[109,97,120]⟩,⟨#[109,105,110]⟩,⟨#[99,97,115,101]⟩] (w.alloc zC).heap.size 3 (by simp) (by simp;omega) (by simp) (by simp) (zia _);rw[zl0,hh]at hch;rw[World.size_alloc]at hch;have HCH:Hid (Calls Tryz.prog 117 #[.pointer (some ⟨rb,0,none⟩),.slice (some ⟨w.heap.size+1,0,none⟩) 3 3] ((w.alloc zC).alloc zee) (ChP rb ts ((w.alloc zC).alloc zee) (.ok () l:Rd Unit) (some (⟨#[109,105,110]⟩,l.tail)))):=Z9 hch;have HGC:=Z9 hgc
 obtain⟨c0,c1,c2⟩:(∃v,w.cell? ⟨rb,0,none⟩=some v)∧(∃v,w.cell? ⟨rb,1,none⟩=some v)∧w.cell? ⟨rb,2,none⟩=some (.bool false):=by
  obtain⟨a,cap,nx,cb,_⟩:=h;obtain⟨c0,c1,c2⟩:=q3 cb;exact⟨⟨_,c0⟩,⟨_,c1⟩,c2⟩
 have ZX:l.tail.length≤n0:=Nat.le_trans (by simp) hl
 have HAR:Hid (∀W,QSt rb ts W (.ok () l.tail:Rd Unit)→Calls Tryz.prog 119 #[.pointer (some ⟨rb,0,none⟩),.int .u8 8,.int .i64 0,.int .i64 2] W (QP (VEx W.heap.size) QEx rb ts W (zbf 8 (List.replicate 0 T ++ List.replicate 2 S) l.tail))) :=
  Z9 (fun W hW=>zle (n0:=n0) S T hp cS cT 8 0 2 (by omega) (by omega) W (.ok () l.tail) hW (fun x l2 e=>by injection e with e1 e2;rw[←e2];exact ZX))
 obtain⟨GR,ZK⟩:∃GR,GR=zbf 8 (List.replicate 0 T ++ List.replicate 2 S) l.tail:=⟨_,rfl⟩
 rw[←ZK]at HAR ⊢;clear hg hgc hch h hh hp cS cT ZK hl ZX c0 c1;go_enter Tryz.func170,Tryz.ntmps170;go_wp2_with fail;refine HCH.out.mono ?_;rintro e u ⟨rfl,hq,hg⟩;have HGU:=Z9 (HGC.out.call (r':=(.ok () l.tail:Rd Unit)) hg hq);clear hq hg;have HKO:=Z9 (zc2 ⟨#[109,105,110]⟩ u);rw[show kdOf (ByteArray.mk #[109,105,110]).data.toList=8 by decide]at HKO;simp only[Option.map_some,Option.getD_some];go_wp2_with fail;refine HKO.out.mono ?_;rintro e u' ⟨rfl,rfl⟩;go_wp2_with fail;refine(HAR.out _ HGU.out.rd).mono ?_;rintro e u3 ⟨vv,rfl,⟨yk,ya,yb,yd,pa,pl,pc,rfl⟩,hx,hr,hg⟩;have ZY:=HGU.out.call hg hr;have hz3:=ZY.box
 have HFIN:=Z9 (ZY.fin (R:=GR) (Nat.le_refl _) rfl yk yd ya yb pa pl pc (fun x l e=>zmd (hx x l e) HGU.out.blt));have fz:∀i,u3.frozen? ⟨w.heap.size,i,none⟩=false:=Lib.frozen_of_heap hz3
 have zb:w.heap.size<u3.heap.size:=(Z8 hz3);obtain⟨z0,z1,z2,z3,z4⟩:=zae hz3;clear hx hr hg ZY hz3;go_wp2_with fail;obtain⟨W',hW',Zs,Yn⟩:=HFIN.out;rw[←hW'];obtain⟨d0,d1,d2,d3,d4⟩:=zae Zs;exact bodyPost_ret (v:=.agg #[.int .u8 yk,.string ya,.string yb,.int .i64 yd,.slice pa pl pc]) (by simp[results,Tryz.results170,go_sem,d0,d1,d2,d3,d4]) rfl Yn
theorem zj3{rb n0:Nat}{ts:List Tk}(S T:RdX)(hp:zl7 rb n0 ts S T)(cS:∀l,(S l).Cons l)(cT:∀l,(T l).Cons l)(w:World)(l:List Tk)(h:QSt rb ts w (.ok () l:Rd Unit))(hl:l.length≤n0)(hh:zar l=[99,97,115,101]) :
 Calls Tryz.prog 170 #[.pointer (some ⟨rb,0,none⟩)] w (QP (VEx w.heap.size) QEx rb ts w (zbf 9 (List.replicate 1 T ++ List.replicate 2 S) l.tail)):=by
 have hg:=GAt.start h;have hgc:=hg.alloc zee;have Z7:=hg.lt;have hch:=zdn rb ts ((w.alloc zC).alloc zee) (.ok () l:Rd Unit) hgc.rd [⟨#[109,97,120]⟩,⟨#[109,105,110]⟩,⟨#[99,97,115,101]⟩] (w.alloc zC).heap.size 3 (by simp) (by simp;omega) (by simp) (by simp) (zia _);rw[zl0,hh]at hch;rw[World.size_alloc]at hch;have HCH:Hid (Calls Tryz.prog 117 #[.pointer (some ⟨rb,0,none⟩),.slice (some ⟨w.heap.size+1,0,none⟩) 3 3] ((w.alloc zC).alloc zee) (ChP rb ts ((w.alloc zC).alloc zee) (.ok () l:Rd Unit) (some (⟨#[99,97,115,101]⟩,l.tail)))):=Z9 hch;have HGC:=Z9 hgc
 obtain⟨c0,c1,c2⟩:(∃v,w.cell? ⟨rb,0,none⟩=some v)∧(∃v,w.cell? ⟨rb,1,none⟩=some v)∧w.cell? ⟨rb,2,none⟩=some (.bool false):=by
  obtain⟨a,cap,nx,cb,_⟩:=h;obtain⟨c0,c1,c2⟩:=q3 cb;exact⟨⟨_,c0⟩,⟨_,c1⟩,c2⟩
 have ZX:l.tail.length≤n0:=Nat.le_trans (by simp) hl
 have HAR:Hid (∀W,QSt rb ts W (.ok () l.tail:Rd Unit)→Calls Tryz.prog 119 #[.pointer (some ⟨rb,0,none⟩),.int .u8 9,.int .i64 1,.int .i64 2] W (QP (VEx W.heap.size) QEx rb ts W (zbf 9 (List.replicate 1 T ++ List.replicate 2 S) l.tail))) :=
  Z9 (fun W hW=>zle (n0:=n0) S T hp cS cT 9 1 2 (by omega) (by omega) W (.ok () l.tail) hW (fun x l2 e=>by injection e with e1 e2;rw[←e2];exact ZX))
 obtain⟨GR,ZK⟩:∃GR,GR=zbf 9 (List.replicate 1 T ++ List.replicate 2 S) l.tail:=⟨_,rfl⟩
 rw[←ZK]at HAR ⊢;clear hg hgc hch h hh hp cS cT ZK hl ZX c0 c1;go_enter Tryz.func170,Tryz.ntmps170;go_wp2_with fail;refine HCH.out.mono ?_;rintro e u ⟨rfl,hq,hg⟩;have HGU:=Z9 (HGC.out.call (r':=(.ok () l.tail:Rd Unit)) hg hq);clear hq hg;simp only[Option.map_some,Option.getD_some];go_wp2_with fail;refine(HAR.out _ HGU.out.rd).mono ?_;rintro e u3 ⟨vv,rfl,⟨yk,ya,yb,yd,pa,pl,pc,rfl⟩,hx,hr,hg⟩;have ZY:=HGU.out.call hg hr;have hz3:=ZY.box;have HFIN:=Z9 (ZY.fin (R:=GR) (Nat.le_refl _) rfl yk yd ya yb pa pl pc (fun x l e=>zmd (hx x l e) HGU.out.blt));have fz:∀i,u3.frozen? ⟨w.heap.size,i,none⟩=false:=Lib.frozen_of_heap hz3
 have zb:w.heap.size<u3.heap.size:=(Z8 hz3);obtain⟨z0,z1,z2,z3,z4⟩:=zae hz3;clear hx hr hg ZY hz3;go_wp2_with fail;obtain⟨W',hW',Zs,Yn⟩:=HFIN.out;rw[←hW'];obtain⟨d0,d1,d2,d3,d4⟩:=zae Zs;exact bodyPost_ret (v:=.agg #[.int .u8 yk,.string ya,.string yb,.int .i64 yd,.slice pa pl pc]) (by simp[results,Tryz.results170,go_sem,d0,d1,d2,d3,d4]) rfl Yn
def zml:Obj:=.cells #[.string ⟨#[110,111,119]⟩] 9
theorem zyc(w:World):∀i (hi:i<([⟨#[110,111,119]⟩]:List ByteArray).length),(w.alloc zml).cell? ⟨w.heap.size,i,none⟩=some (.string (([⟨#[110,111,119]⟩]:List ByteArray)[i]'hi)):=by
 intro i hi;have ha:=heap_alloc_new w zml;simp only[List.length_cons,List.length_nil]at hi;unfold World.cell?
 show(match (w.alloc _).heap[w.heap.size]? with |some (.cells c _ _)=>c[i]? |_=>none)=_
 rw[ha]
 match i,hi with
 |0,_=>rfl
theorem zo7{rb:Nat}{ts l:List Tk}{w:World}{b:Bool}(h:QAt rb ts w b l):w.cell? ⟨rb,2,none⟩=some (.bool b):=by
 obtain⟨a,cap,nx,cb,_⟩:=h;exact(q3 cb).2.2
theorem zxz{B rb:Nat}{x:Ex}{u u':World}{v:Value}(h:VEx B x u v)(hg:u.grownBy u' (some rb))(Zi:rb<B):VEx B x u' v:=by
 obtain⟨n,a,len,cap,ev,X3⟩:=h;exact⟨n,a,len,cap,ev,zhn X3 hg Zi⟩
theorem zjj{rb:Nat}{ts:List Tk}(w:World)(l:List Tk)(h:QSt rb ts w (.ok () l:Rd Unit))(h1:zar l≠[109,97,120])(h2:zar l≠[109,105,110])(h3:zar l≠[99,97,115,101]) :
 Calls Tryz.prog 117 #[.pointer (some ⟨rb,0,none⟩),.slice (some ⟨w.heap.size+1,0,none⟩) 3 3] ((w.alloc zC).alloc zee) (ChP rb ts ((w.alloc zC).alloc zee) (.ok () l:Rd Unit) none):=by
 have hg:=GAt.start h;have hgc:=hg.alloc zee;have Z7:=hg.lt;have hch:=zdn rb ts ((w.alloc zC).alloc zee) (.ok () l:Rd Unit) hgc.rd [⟨#[109,97,120]⟩,⟨#[109,105,110]⟩,⟨#[99,97,115,101]⟩] (w.alloc zC).heap.size 3 (by simp) (by simp;omega) (by simp) (by simp) (zia _);rw[zl0,if_neg h1,if_neg h2,if_neg h3,World.size_alloc]at hch;exact hch
theorem zi3{rb n0:Nat}{ts:List Tk}(S T:RdX)(hp:zl7 rb n0 ts S T)(w:World)(l:List Tk)(h:QSt rb ts w (.ok () l:Rd Unit))(hl:l.length≤n0)(h1:zar l≠[109,97,120])(h2:zar l≠[109,105,110])(h3:zar l≠[99,97,115,101])(h5:tIs 5 [40] l=true) :
 Calls Tryz.prog 170 #[.pointer (some ⟨rb,0,none⟩)] w (QP (VEx w.heap.size) QEx rb ts w ((S l.tail).bind fun x l=>(tEat 5 [41] l).bind fun _ l=>.ok x l)):=by
 have HCH:=Z9 (zjj w l h h1 h2 h3);have hg:=GAt.start h;have HGC:=Z9 (hg.alloc zee);have Z7:=hg.lt;have c2:=zo7 (b:=false) (l:=l) h;obtain⟨t,l,rfl⟩:=zb2 h5;have HPK:=Z9 (fun W (hW:QSt rb ts W (.ok () (t :: l):Rd Unit))=>zd6 rb ts 5 ⟨#[40]⟩ W (.ok () (t :: l):Rd Unit) hW);rw[show qIs 5 (ByteArray.mk #[40]).data.toList (.ok () (t :: l):Rd Unit)=true from h5]at HPK;have HM1:=Z9 (fun W (hW:QSt rb ts W (.ok () (t :: l):Rd Unit))=>zi2 rb ts ⟨#[40]⟩ W (.ok () (t :: l):Rd Unit) hW);rw[show((.ok () (t :: l):Rd Unit).bind fun _ l=>tEat 5 (ByteArray.mk #[40]).data.toList l)=.ok () l from zor h5]at HM1;have Ww:Hid (∀W,QSt rb ts W (.ok [] l:Rd (List Ex))→Calls Tryz.prog 67 #[.pointer (some ⟨rb,0,none⟩)] W (QP (VEx W.heap.size) QEx rb ts W (S l))):=Z9 (fun W hW=>hp true W (.ok [] l) hW (fun x l2 e=>by injection e with e1 e2;rw[←e2];rw[List.length_cons]at hl;omega))
 have HM2:=Z9 (fun W (q:Rd Ex) (hW:QSt rb ts W q)=>zi2 rb ts ⟨#[41]⟩ W q hW);obtain⟨P,hP⟩:∃P,P=S l:=⟨_,rfl⟩
 obtain⟨GR,ZK⟩:∃GR,GR=(S (t :: l).tail).bind fun x l=>(tEat 5 [41] l).bind fun _ l=>.ok x l:=⟨_,rfl⟩
 rw[←ZK]
 have hGP:GR=P.bind fun x l=>(tEat 5 [41] l).bind fun _ l=>.ok x l:=by rw[ZK,hP];rfl
 rw[←hP]at Ww;have HGP:=Z9 hGP;clear h h1 h2 h3 h5 hp hl hg ZK hP hGP;go_enter Tryz.func170,Tryz.ntmps170;go_wp2_with fail;refine HCH.out.mono ?_;rintro e u ⟨rfl,hq,hg⟩;have HGU:=Z9 (HGC.out.call (r':=(.ok () (t :: l):Rd Unit)) hg hq);clear hq hg;simp only[Option.map_none,Option.getD_none,tE0];go_wp2_with fail;refine(HPK.out _ HGU.out.rd).mono ?_;rintro e u2 ⟨rfl,hb⟩;have HGU2:=Z9 (HGU.out.below hb);clear hb;go_wp2_with fail;refine(HM1.out _ HGU2.out.rd).mono ?_;rintro e u3 ⟨v3,rfl,rfl,_,hr,hg⟩;have HGU3:=Z9 (HGU2.out.call hg hr);clear hr hg;go_wp2_with fail;refine(Ww.out _ (HGU3.out.rd.as rfl)).mono ?_
 rintro e u4 ⟨vv,rfl,⟨yk,ya,yb,yd,pa,pl,pc,rfl⟩,hx,hr,hg⟩;have HGU4:=Z9 (HGU3.out.call hg hr);have HX:Hid (∀x l,P=.ok x l→VEx (w.heap.size+1) x u4 (.agg #[.int .u8 yk,.string ya,.string yb,.int .i64 yd,.slice pa pl pc])):=Z9 (fun x l e=>zmd (hx x l e) HGU3.out.blt);clear hx hr hg;have HGU5:=Z9 (HGU4.out.alloc (.cells #[.int .u8 yk,.string ya,.string yb,.int .i64 yd,.slice pa pl pc] 25));go_wp2_with fail;refine(HM2.out _ P HGU5.out.rd).mono ?_;rintro e u6 ⟨v6,rfl,rfl,_,hr,hg⟩;have ZZ:=zao (heap_alloc_new u4 (.cells #[.int .u8 yk,.string ya,.string yb,.int .i64 yd,.slice pa pl pc] 25)) hg (Nat.ne_of_lt (Nat.lt_trans Z7 HGU4.out.blt))
 have WN:=HGU5.out.call hg hr
 have HFIN:=Z9 (WN.fin (R:=GR) (Nat.le_refl _) (by
  rw[HGP.out]
  cases P with
  |no l=>rfl
  |ok x l =>
   show(tEat 5 [41] l).unit=((tEat 5 [41] l).bind _).unit
   cases tEat 5 [41] l<;>rfl) yk yd ya yb pa pl pc (fun x l e=>by
  rw[HGP.out]at e
  cases hP:P with
  |no l=>rw[hP]at e;cases e
  |ok x2 l2 =>
   rw[hP]at e;have e:((tEat 5 [41] l2).bind fun _ l=>.ok x2 l:Rd Ex)=.ok x l:=e
   cases ht:tEat 5 [41] l2 with
   |no l3=>rw[ht]at e;cases e
   |ok z l3 =>
    rw[ht]at e
    injection e with e1 e2
    rw[←e1]
    exact zxz (HX.out x2 l2 hP) (Lib.grownBy_trans (World.grownBy_alloc u4 _ _) hg) (Nat.lt_succ_of_lt Z7)))
 have fz:∀i,u6.frozen? ⟨w.heap.size,i,none⟩=false:=Lib.frozen_of_heap WN.box
 have zb:w.heap.size<u6.heap.size:=WN.blt;obtain⟨z0,z1,z2,z3,z4⟩:=zae WN.box;obtain⟨b0,b1,b2,b3,b4⟩:=zae ZZ;clear hr hg WN ZZ;go_wp2_with fail;obtain⟨W',hW',Zs,Yn⟩:=HFIN.out;rw[←hW'];obtain⟨d0,d1,d2,d3,d4⟩:=zae Zs;exact bodyPost_ret (v:=.agg #[.int .u8 yk,.string ya,.string yb,.int .i64 yd,.slice pa pl pc]) (by simp[results,Tryz.results170,go_sem,d0,d1,d2,d3,d4]) rfl Yn
theorem zkz(B:Nat)(k d:Int)(a b:ByteArray)(u:World):VEx B (.mk k a b d []) u (.agg #[.int .u8 k,.string a,.string b,.int .i64 d,.slice none 0 0]) :=
 ⟨1,none,0,0,rfl,none,0,0,rfl,rfl,.inl rfl⟩
theorem zqc{t:Tk}{w:World}{a d e:Int}{b c:ByteArray}(h:VTok t w (.agg #[.int .u8 a,.string b,.string c,.int .i64 d,.int .i64 e])):c=t.rat∧d=t.date:=by
 unfold VTok at h;simp only[Value.agg.injEq,Array.mk.injEq,List.cons.injEq,Value.int.injEq,Value.string.injEq]at h;exact⟨h.2.2.1,h.2.2.2.1.2⟩
theorem zgu{rb:Nat}{ts:List Tk}(w:World)(l:List Tk)(h:QSt rb ts w (.ok () l:Rd Unit))(h1:zar l≠[109,97,120])(h2:zar l≠[109,105,110])(h3:zar l≠[99,97,115,101])(h5:tIs 5 [40] l=false)(h6:tNm l=false) :
 Calls Tryz.prog 170 #[.pointer (some ⟨rb,0,none⟩)] w (QP (VEx w.heap.size) QEx rb ts w ((tOf 3 l).bind fun t l=>.ok (.mk 1 t.rat tE0 0 []) l)):=by
 have HCH:=Z9 (zjj w l h h1 h2 h3);have hg:=GAt.start h;have HGC:=Z9 (hg.alloc zee);have Z7:=hg.lt;have X6:=zwy;have c2:=zo7 (b:=false) (l:=l) h;have HPK:=Z9 (fun W (hW:QSt rb ts W (.ok () l:Rd Unit))=>zd6 rb ts 5 ⟨#[40]⟩ W (.ok () l:Rd Unit) hW);rw[show qIs 5 (ByteArray.mk #[40]).data.toList (.ok () l:Rd Unit)=false from h5]at HPK;have Zx:=Z9 (fun W (hW:QSt rb ts W (.ok () l:Rd Unit))=>zla rb ts W (.ok () l:Rd Unit) hW);rw[show qNm (.ok () l:Rd Unit)=false from h6]at Zx;have HKD:=Z9 (fun W (hW:QSt rb ts W (.ok () l:Rd Unit))=>zu1 rb ts 3 W (.ok () l:Rd Unit) hW);obtain⟨P,hP⟩:∃P,P=tOf 3 l:=⟨_,rfl⟩
 rw[show((.ok () l:Rd Unit).bind fun _ l=>tOf 3 l)=P from hP.symm]at HKD;rw[←hP];clear h h1 h2 h3 h5 h6 hg hP;go_enter Tryz.func170,Tryz.ntmps170;go_wp2_with fail;refine HCH.out.mono ?_;rintro e u ⟨rfl,hq,hg⟩;have HGU:=Z9 (HGC.out.call (r':=(.ok () l:Rd Unit)) hg hq);clear hq hg;simp only[Option.map_none,Option.getD_none,tE0];go_wp2_with fail;refine(HPK.out _ HGU.out.rd).mono ?_;rintro e u2 ⟨rfl,hb⟩;have HGU2:=Z9 (HGU.out.below hb);clear hb;go_wp2_with fail;refine(Zx.out _ HGU2.out.rd).mono ?_;rintro e u3 ⟨rfl,hb⟩;have HGU3:=Z9 (HGU2.out.below hb);clear hb;go_wp2_with fail;refine(HKD.out _ HGU3.out.rd).mono ?_
 rintro e u4 ⟨vv,rfl,⟨ta,tb,tc,td,te,rfl⟩,hx,hr,hg⟩;have Vo:=HGU3.out.call hg hr
 have HFIN:=Z9 (Vo.fin (R:=P.bind fun t l=>.ok (.mk 1 t.rat tE0 0 []) l) (Nat.le_refl _) (by cases P<;>rfl) 1 0 tc ⟨#[]⟩ none 0 0 (fun x l e=>by
  cases hP:P with
  |no l=>rw[hP]at e;cases e
  |ok t l2 =>
   rw[hP]at e
   injection e with e1 e2
   have e3:=(zqc (hx t l2 hP)).1;rw[←e1,e3]
   exact zkz _ _ _ _ _ _))
 have fz:∀i,u4.frozen? ⟨w.heap.size,i,none⟩=false:=Lib.frozen_of_heap Vo.box
 have zb:w.heap.size<u4.heap.size:=Vo.blt;obtain⟨z0,z1,z2,z3,z4⟩:=zae Vo.box;clear hx hr hg Vo;go_wp2_with fail;obtain⟨W',hW',Zs,Yn⟩:=HFIN.out;rw[←hW'];obtain⟨d0,d1,d2,d3,d4⟩:=zae Zs;exact bodyPost_ret (v:=.agg #[.int .u8 1,.string tc,.string ⟨#[]⟩,.int .i64 0,.slice none 0 0]) (by simp[results,Tryz.results170,go_sem,d0,d1,d2,d3,d4]) rfl Yn
end Go.Proofs.YtkobkpepgdddeaaGreatDoor
