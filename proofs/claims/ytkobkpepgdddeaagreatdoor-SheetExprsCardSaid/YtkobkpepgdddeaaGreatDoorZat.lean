/-
  The reference's Sort of an expression, walked: some kinds. No condition but the size.
-/
import Derived.Test.YtkobkpepgdddeaaGreatDoorZag
namespace Go.Proofs.YtkobkpepgdddeaaGreatDoor
open Go.RowKit
set_option maxHeartbeats 16000000
set_option maxRecDepth 100000
theorem z2u{n:Nat}(ih:RsC n)(r nm:ByteArray)(d:Int)(l:List Ex)(cs:List Value)(w:World)(h:ExAt (n+1) w cs (Ex.mk 1 r nm d l))(hz:(Ex.mk 1 r nm d l).size≤1000)(Zh:∃dd,SmX dd (Ex.mk 1 r nm d l)) :
 Calls Tryz.prog 81 #[.agg cs.toArray] w (IntP w (srtP 1 r nm d (l.map Ex.srt))):=by
 obtain⟨a,len,cap,rfl,Z5,ZF⟩:=h;have ZU:l.length=len:=Z5;have hsl:=(Ex.mk 1 r nm d l).sub_len;have ZC:len≤1000:=by omega
 have hsub2:len=0∨∃g o,a=some ⟨g,o,none⟩∧g<w.heap.size∧∀i (hi:i<l.length),∃cs',(∀j,j<5→w.cell? ⟨g,o+i*5+j,none⟩=cs'[j]?)∧ExAt n w cs' l[i]:=ZF
 obtain⟨i0,hi,ZN,ZO,ZD⟩:=info_parts zb7;obtain⟨Xb,YY⟩:=zch Zh
 have HZY:Hid (∀y ∈ l,y.size≤1000):=fun y hy=>by have:=Ex.sub_size (x:=Ex.mk 1 r nm d l) hy;omega
 have HSE:=Z9 YY;have HI:=Z9 ih;have HS:=Z9 hsub2;have HLEN:=Z9 ZU;have HI0:=Z9 hi;have HI1:=Z9 ZN;have HI2:=Z9 ZO;have HI3:=Z9 ZD;obtain⟨L,hL⟩:∃L,L=l.map Ex.srt:=⟨_,rfl⟩
 have HLL:Hid (L.length=len):=by rw[hL];show(l.map Ex.srt).length=len;rw[List.length_map];exact ZU
 have HL:=Z9 hL;rw[←hL];obtain⟨br,qr⟩:∃b,r.toList.isEmpty=b:=⟨_,rfl⟩
 obtain⟨bn,qn⟩:∃b,nm.toList.isEmpty=b:=⟨_,rfl⟩
 obtain⟨bd,qd⟩:∃b,((d:Int) == 0)=b:=⟨_,rfl⟩
 obtain⟨bb,Y7⟩:∃b,b=(br && bn && bd):=⟨_,rfl⟩
 have HBB:Hid (bb=zco r nm d):=by
  show bb=_
  unfold zco;rw[Y7,←qr,←qn,←qd,zac,zac]
 have HBV:=Z9 Y7
 have HQR:Hid (r.data.toList.isEmpty=br):=by show _=br;rw[←qr,zac]
 have HQN:Hid (nm.data.toList.isEmpty=bn):=by show _=bn;rw[←qn,zac]
 have HQD:Hid (bd=true↔d=0):=by show bd=true↔_;rw[←qd];simp
 obtain⟨R,hR⟩:∃R,R=srtP 1 r nm d L:=⟨_,rfl⟩
 rw[←hR];have HRR:=Z9 hR;clear ih ZF hsub2 Z5 ZU hz hsl hi ZN ZO ZD hL Zh YY Y7 hR
 show Calls Tryz.prog 81 #[.agg #[.int .u8 1,.string r,.string nm,.int .i64 d,.slice a len cap]] w _
 go_enter Tryz.func81,Tryz.ntmps81
 go_upto_region 1 with(fail)
 obtain⟨W0,Z3⟩:∃W0,W0=w.alloc (.cells #[.int .u8 1,.string r,.string nm,.int .i64 d,.slice a len cap] 25):=⟨_,rfl⟩
 have ZZ:W0.heap[w.heap.size]?=some (.cells #[.int .u8 1,.string r,.string nm,.int .i64 d,.slice a len cap] 25):=by rw[Z3];exact heap_alloc_new w _
 have ZP:Below w.heap.size w W0:=by rw[Z3];exact zaf w _
 have hzW:w.heap.size<W0.heap.size:=(Z8 ZZ);rw[←Z3];have HBX:=Z9 ZZ;have HB0:=Z9 ZP;obtain⟨c0,c1,c2,c3,c4⟩:=zae ZZ;clear Z3 ZZ ZP;go_cut [3] (fun s wx=>s=.bool bb∧W0=wx)
 case first=>as_aux_lemma =>
  have E:=HBV.out
  cases br with
  |false =>
   have e:bb=false:=by rw[E];rfl
   have EE:=Z9 e;clear e E;go_wp2_with fail;go_meet;exact⟨by rw[EE.out],rfl⟩
  |true =>
   cases bn with
   |false =>
    have e:bb=false:=by rw[E];rfl
    have EE:=Z9 e;clear e E;go_wp2_with fail;go_meet;exact⟨by rw[EE.out],rfl⟩
   |true =>
    have e:bb=bd:=by rw[E];rfl
    have EE:=Z9 e;clear e E;go_wp2_with fail;go_meet;exact⟨by rw[EE.out],rfl⟩
 case rest =>
 obtain⟨rfl,rfl⟩:=hcut;clear c0 c1 c2 c3 c4;go_wp2_with fail;go_loopw [4,5] (fun lv iv wr=>RsR W0 L len lv iv wr) (fun _ iv _=>len-(intOf iv).toNat)
 case atStart=>exact⟨0,Nat.zero_le _,rfl,Z9 ⟨by simp[ints],.inl ⟨rfl,rfl⟩⟩,Below.refl _ _⟩
 case round =>
  obtain⟨w1,rfl⟩:∃w1:World,w1=wr:=⟨_,rfl⟩
  obtain⟨v,hv⟩:∃v:Value,v=u4:=⟨_,rfl⟩
  rw[←hv]at hrel ⊢;clear hv;obtain⟨k,hk,rfl,HO,hb⟩:=hrel;have hBW:=HB0.out.trans (hb.mono HB0.out.size);have HBW:=Z9 hBW;obtain⟨c0,c1,c2,c3,c4⟩:=zae ((hb.block _ hzW).trans HBX.out);have HB:=Z9 hb;clear hb
  by_cases Z7:k<len
  ·have ZX:k<l.length:=by rw[HLEN.out];exact Z7
   rcases HS.out with h0 |⟨g,o,ha,hg,Zq⟩
   ·omega
   ·subst ha
    obtain⟨p1,l1,cc,⟨e0,e1,e2,e3,e4⟩,ZJ⟩:=ExAt.elem (x:=Ex.mk 0 ByteArray.empty ByteArray.empty 0 l) hg hBW ZX Zq;have hym:l[k] ∈ l:=List.getElem_mem _;simp only[Ex.sub]at e0 e1 e2 e3 ZJ
    have hT:L.take (k+1)=L.take k ++ [l[k].srt]:=by
     have e:=HL.out;subst e;rw[List.take_succ_eq_append_getElem (by simpa using ZX)];simp
    obtain⟨y,hy⟩:∃y,y=l[k]:=⟨_,rfl⟩
    rw[←hy]at e0 e1 e2 e3 ZJ hT hym;have hC:=HI.out y _ w1 ZJ (HZY.out y hym) (HSE.out y hym);rw[←Ex.srt_is]at hC;obtain⟨s,hs⟩:∃s,s=y.srt:=⟨_,rfl⟩
    rw[←hs]at hC hT;have HC:=Z9 hC;have HT:=Z9 hT;clear hC hT hs hy hym ZJ Zq hBW;go_wp2_with fail;refine HC.out.mono ?_;rintro e u ⟨rfl,ZR⟩;have hou:=(World.ownsRow.kept (w:=w1) HO.out ⟨ZR.os,ZR.tape,ZR.output,ZR.size,fun i hi _=>ZR.block i hi⟩ (row:=none) (by cases v.ownBlock<;>simp));have HOA:=Z9 (hou.alloc (.cells #[.int .i64 s] 3));have HNW:=Z9 (World.news_of_block (heap_alloc_new u (.cells #[.int .i64 s] 3)));have HBS:=Z9 (show W0.heap.size≤(u.alloc (.cells #[.int .i64 s] 3)).heap.size by rw[World.size_alloc];have:=ZR.size;have:=HB.out.size;omega);have HBU:=Z9 ((HB.out.trans (ZR.mono HB.out.size)).alloc (by have:=ZR.size;have:=HB.out.size;omega) (.cells #[.int .i64 s] 3))
    clear hou ZR e0 e1 e2 e3 e4 c0 c1 c2 c3 c4;go_wp2_with (at_builtin;refine wpList_append_own _ rfl _ _ 37 rfl W0.heap.size 3 i0 (.int .i64 0) 1 8 Tryz.underlying37 HI0.out HI1.out HI2.out HI3.out rfl (by decide) _ _ _ rfl HOA.out ⟨u.heap.size,0,none⟩ 1 1 [.int .i64 s] rfl rfl HNW.out (zcj (by rfl)) (by unfold maxLen;omega) (by omega) HBS.out ?_);intro v' w3 ZV Z2 _;have HR:Hid (RsR W0 L len v' (.int .i64 ((k+1:Nat):Int)) w3):=⟨k+1,Z7,rfl,Z9 (by rw[HT.out,←zb6];exact ZV),HBU.out.grown Z2 HBU.out.size (fun q hq=>(HOA.out.lt q hq).1)⟩;clear ZV Z2;go_wp2_with fail;go_roundw
    case rel=>exact HR.out
    case measure=>simp[intOf]<;>omega
  ·have YV:k=len:=by omega
   subst YV;have HT:Hid (L.take k=L):=Z9 (List.take_of_length_le (by rw[HLL.out];omega));have ho:=HO.out;rw[HT.out]at ho;have HOW:=Z9 ho;clear ho HO Z7;obtain⟨av,cv,rfl,Zv⟩:=zb3 HOW.out;have YR:=Z9 Zv;clear Zv;have ZQ:Hid (shpL 1=none):=zi0 (by decide)
   by_cases Yt:k=0
   ·have qk:((k:Int) == 0)=true:=zaz (by omega)
    have hl:L=[]:=List.eq_nil_of_length_eq_zero (by rw[HLL.out];exact Yt)
    have HLV:Hid (R=zci 1 r nm d):=by show R=_;rw[HRR.out];exact zf1 ZQ.out hl
    clear hl Yt
    have HCK:Hid (∀W,Calls Tryz.prog 137 #[.string r] W (za6 W (chkR r.data.toList))):=fun W=>zyr r W (by have:=Xb.1;omega)
    obtain⟨z,WV⟩:∃z,z=chkR r.data.toList:=⟨_,rfl⟩
    rw[←WV]at HCK;have HZZ:=Z9 WV;clear WV
    cases bn with
    |false =>
     have e:R=0:=by rw[HLV.out];simp[zci,HQN.out]
     have E:=Z9 e;clear e;go_wp2_with fail;go_ret;exact⟨by rw[E.out];rfl,HBW.out⟩
    |true =>
     cases bd with
     |false =>
      have e:R=0:=by
       have hd:d≠0:=fun h=>by have:=HQD.out.2 h;cases this
       rw[HLV.out];simp[zci,hd]
      have E:=Z9 e;clear e;go_wp2_with fail;go_ret;exact⟨by rw[E.out];rfl,HBW.out⟩
     |true =>
      have hd:d=0:=HQD.out.1 rfl;have HD:=Z9 hd;clear hd
      by_cases ZN:z=0
      ·have qz:((z:Int) == 0)=true:=zaz ZN
       have e:R=1:=by rw[HLV.out];simp[zci,HQN.out,HD.out,←HZZ.out,ZN]
       have E:=Z9 e;clear e ZN;go_wp2_with fail;refine(HCK.out _).mono ?_;rintro e w2 ⟨rfl,ZS⟩;have HB2:=Z9 (HBW.out.trans (ZS.mono HBW.out.size));clear ZS;go_wp2_with fail;go_ret;exact⟨by rw[E.out];rfl,HB2.out⟩
      ·have qz:((z:Int) == 0)=false:=zam ZN
       have e:R=0:=by rw[HLV.out];simp[zci,←HZZ.out,ZN]
       have E:=Z9 e;clear e ZN;go_wp2_with fail;refine(HCK.out _).mono ?_;rintro e w2 ⟨rfl,ZS⟩;have HB2:=Z9 (HBW.out.trans (ZS.mono HBW.out.size));obtain⟨d0,d1,d2,d3,d4⟩:=zae ((ZS.block _ (Nat.lt_of_lt_of_le hzW HB.out.size)).trans ((HB.out.block _ hzW).trans HBX.out));clear ZS c0 c1 c2 c3 c4;go_wp2_with fail;go_ret;exact⟨by rw[E.out];rfl,HB2.out⟩
   ·have qk:((k:Int) == 0)=false:=zam (by omega)
    have e:R=0:=by rw[HRR.out];exact zc1 ZQ.out (fun e=>Yt (by rw[←HLL.out,e];rfl))
    clear Yt;have E:=Z9 e;clear e;go_wp2_with fail;go_ret;exact⟨by rw[E.out];rfl,HBW.out⟩
theorem z2t{n:Nat}(ih:RsC n)(r nm:ByteArray)(d:Int)(l:List Ex)(cs:List Value)(w:World)(h:ExAt (n+1) w cs (Ex.mk 2 r nm d l))(hz:(Ex.mk 2 r nm d l).size≤1000)(Zh:∃dd,SmX dd (Ex.mk 2 r nm d l)) :
 Calls Tryz.prog 81 #[.agg cs.toArray] w (IntP w (srtP 2 r nm d (l.map Ex.srt))):=by
 obtain⟨a,len,cap,rfl,Z5,ZF⟩:=h;have ZU:l.length=len:=Z5;have hsl:=(Ex.mk 2 r nm d l).sub_len;have ZC:len≤1000:=by omega
 have hsub2:len=0∨∃g o,a=some ⟨g,o,none⟩∧g<w.heap.size∧∀i (hi:i<l.length),∃cs',(∀j,j<5→w.cell? ⟨g,o+i*5+j,none⟩=cs'[j]?)∧ExAt n w cs' l[i]:=ZF
 obtain⟨i0,hi,ZN,ZO,ZD⟩:=info_parts zb7;obtain⟨Xb,YY⟩:=zch Zh
 have HZY:Hid (∀y ∈ l,y.size≤1000):=fun y hy=>by have:=Ex.sub_size (x:=Ex.mk 2 r nm d l) hy;omega
 have HSE:=Z9 YY;have HI:=Z9 ih;have HS:=Z9 hsub2;have HLEN:=Z9 ZU;have HI0:=Z9 hi;have HI1:=Z9 ZN;have HI2:=Z9 ZO;have HI3:=Z9 ZD;obtain⟨L,hL⟩:∃L,L=l.map Ex.srt:=⟨_,rfl⟩
 have HLL:Hid (L.length=len):=by rw[hL];show(l.map Ex.srt).length=len;rw[List.length_map];exact ZU
 have HL:=Z9 hL;rw[←hL];obtain⟨br,qr⟩:∃b,r.toList.isEmpty=b:=⟨_,rfl⟩
 obtain⟨bn,qn⟩:∃b,nm.toList.isEmpty=b:=⟨_,rfl⟩
 obtain⟨bd,qd⟩:∃b,((d:Int) == 0)=b:=⟨_,rfl⟩
 obtain⟨bb,Y7⟩:∃b,b=(br && bn && bd):=⟨_,rfl⟩
 have HBB:Hid (bb=zco r nm d):=by
  show bb=_
  unfold zco;rw[Y7,←qr,←qn,←qd,zac,zac]
 have HBV:=Z9 Y7
 have HQR:Hid (r.data.toList.isEmpty=br):=by show _=br;rw[←qr,zac]
 have HQN:Hid (nm.data.toList.isEmpty=bn):=by show _=bn;rw[←qn,zac]
 have HQD:Hid (bd=true↔d=0):=by show bd=true↔_;rw[←qd];simp
 obtain⟨R,hR⟩:∃R,R=srtP 2 r nm d L:=⟨_,rfl⟩
 rw[←hR];have HRR:=Z9 hR;clear ih ZF hsub2 Z5 ZU hz hsl hi ZN ZO ZD hL Zh YY Y7 hR
 show Calls Tryz.prog 81 #[.agg #[.int .u8 2,.string r,.string nm,.int .i64 d,.slice a len cap]] w _
 go_enter Tryz.func81,Tryz.ntmps81
 go_upto_region 1 with(fail)
 obtain⟨W0,Z3⟩:∃W0,W0=w.alloc (.cells #[.int .u8 2,.string r,.string nm,.int .i64 d,.slice a len cap] 25):=⟨_,rfl⟩
 have ZZ:W0.heap[w.heap.size]?=some (.cells #[.int .u8 2,.string r,.string nm,.int .i64 d,.slice a len cap] 25):=by rw[Z3];exact heap_alloc_new w _
 have ZP:Below w.heap.size w W0:=by rw[Z3];exact zaf w _
 have hzW:w.heap.size<W0.heap.size:=(Z8 ZZ);rw[←Z3];have HBX:=Z9 ZZ;have HB0:=Z9 ZP;obtain⟨c0,c1,c2,c3,c4⟩:=zae ZZ;clear Z3 ZZ ZP;go_cut [3] (fun s wx=>s=.bool bb∧W0=wx)
 case first=>as_aux_lemma =>
  have E:=HBV.out
  cases br with
  |false =>
   have e:bb=false:=by rw[E];rfl
   have EE:=Z9 e;clear e E;go_wp2_with fail;go_meet;exact⟨by rw[EE.out],rfl⟩
  |true =>
   cases bn with
   |false =>
    have e:bb=false:=by rw[E];rfl
    have EE:=Z9 e;clear e E;go_wp2_with fail;go_meet;exact⟨by rw[EE.out],rfl⟩
   |true =>
    have e:bb=bd:=by rw[E];rfl
    have EE:=Z9 e;clear e E;go_wp2_with fail;go_meet;exact⟨by rw[EE.out],rfl⟩
 case rest =>
 obtain⟨rfl,rfl⟩:=hcut;clear c0 c1 c2 c3 c4;go_wp2_with fail;go_loopw [4,5] (fun lv iv wr=>RsR W0 L len lv iv wr) (fun _ iv _=>len-(intOf iv).toNat)
 case atStart=>exact⟨0,Nat.zero_le _,rfl,Z9 ⟨by simp[ints],.inl ⟨rfl,rfl⟩⟩,Below.refl _ _⟩
 case round =>
  obtain⟨w1,rfl⟩:∃w1:World,w1=wr:=⟨_,rfl⟩
  obtain⟨v,hv⟩:∃v:Value,v=u4:=⟨_,rfl⟩
  rw[←hv]at hrel ⊢;clear hv;obtain⟨k,hk,rfl,HO,hb⟩:=hrel;have hBW:=HB0.out.trans (hb.mono HB0.out.size);have HBW:=Z9 hBW;obtain⟨c0,c1,c2,c3,c4⟩:=zae ((hb.block _ hzW).trans HBX.out);have HB:=Z9 hb;clear hb
  by_cases Z7:k<len
  ·have ZX:k<l.length:=by rw[HLEN.out];exact Z7
   rcases HS.out with h0 |⟨g,o,ha,hg,Zq⟩
   ·omega
   ·subst ha
    obtain⟨p1,l1,cc,⟨e0,e1,e2,e3,e4⟩,ZJ⟩:=ExAt.elem (x:=Ex.mk 0 ByteArray.empty ByteArray.empty 0 l) hg hBW ZX Zq;have hym:l[k] ∈ l:=List.getElem_mem _;simp only[Ex.sub]at e0 e1 e2 e3 ZJ
    have hT:L.take (k+1)=L.take k ++ [l[k].srt]:=by
     have e:=HL.out;subst e;rw[List.take_succ_eq_append_getElem (by simpa using ZX)];simp
    obtain⟨y,hy⟩:∃y,y=l[k]:=⟨_,rfl⟩
    rw[←hy]at e0 e1 e2 e3 ZJ hT hym;have hC:=HI.out y _ w1 ZJ (HZY.out y hym) (HSE.out y hym);rw[←Ex.srt_is]at hC;obtain⟨s,hs⟩:∃s,s=y.srt:=⟨_,rfl⟩
    rw[←hs]at hC hT;have HC:=Z9 hC;have HT:=Z9 hT;clear hC hT hs hy hym ZJ Zq hBW;go_wp2_with fail;refine HC.out.mono ?_;rintro e u ⟨rfl,ZR⟩;have hou:=(World.ownsRow.kept (w:=w1) HO.out ⟨ZR.os,ZR.tape,ZR.output,ZR.size,fun i hi _=>ZR.block i hi⟩ (row:=none) (by cases v.ownBlock<;>simp));have HOA:=Z9 (hou.alloc (.cells #[.int .i64 s] 3));have HNW:=Z9 (World.news_of_block (heap_alloc_new u (.cells #[.int .i64 s] 3)));have HBS:=Z9 (show W0.heap.size≤(u.alloc (.cells #[.int .i64 s] 3)).heap.size by rw[World.size_alloc];have:=ZR.size;have:=HB.out.size;omega);have HBU:=Z9 ((HB.out.trans (ZR.mono HB.out.size)).alloc (by have:=ZR.size;have:=HB.out.size;omega) (.cells #[.int .i64 s] 3))
    clear hou ZR e0 e1 e2 e3 e4 c0 c1 c2 c3 c4;go_wp2_with (at_builtin;refine wpList_append_own _ rfl _ _ 37 rfl W0.heap.size 3 i0 (.int .i64 0) 1 8 Tryz.underlying37 HI0.out HI1.out HI2.out HI3.out rfl (by decide) _ _ _ rfl HOA.out ⟨u.heap.size,0,none⟩ 1 1 [.int .i64 s] rfl rfl HNW.out (zcj (by rfl)) (by unfold maxLen;omega) (by omega) HBS.out ?_);intro v' w3 ZV Z2 _;have HR:Hid (RsR W0 L len v' (.int .i64 ((k+1:Nat):Int)) w3):=⟨k+1,Z7,rfl,Z9 (by rw[HT.out,←zb6];exact ZV),HBU.out.grown Z2 HBU.out.size (fun q hq=>(HOA.out.lt q hq).1)⟩;clear ZV Z2;go_wp2_with fail;go_roundw
    case rel=>exact HR.out
    case measure=>simp[intOf]<;>omega
  ·have YV:k=len:=by omega
   subst YV;have HT:Hid (L.take k=L):=Z9 (List.take_of_length_le (by rw[HLL.out];omega));have ho:=HO.out;rw[HT.out]at ho;have HOW:=Z9 ho;clear ho HO Z7;obtain⟨av,cv,rfl,Zv⟩:=zb3 HOW.out;have YR:=Z9 Zv;clear Zv;have ZQ:Hid (shpL 2=none):=zi0 (by decide)
   by_cases Yt:k=0
   ·have qk:((k:Int) == 0)=true:=zaz (by omega)
    have hl:L=[]:=List.eq_nil_of_length_eq_zero (by rw[HLL.out];exact Yt)
    have HLV:Hid (R=zci 2 r nm d):=by show R=_;rw[HRR.out];exact zf1 ZQ.out hl
    clear hl Yt
    have Zx:Hid (∀W,Calls Tryz.prog 53 #[.string nm] W (fun e w'=>e=.returned (.bool (nmB nm.data.toList))∧W=w')):=fun W=>zi4 nm W
    obtain⟨nb,Zf⟩:∃z,z=nmB nm.data.toList:=⟨_,rfl⟩
    rw[←Zf]at Zx;have HNB:=Z9 Zf;clear Zf
    cases br with
    |false =>
     have e:R=0:=by rw[HLV.out];simp[zci,HQR.out]
     have E:=Z9 e;clear e;go_wp2_with fail;go_ret;exact⟨by rw[E.out];rfl,HBW.out⟩
    |true =>
     cases nb with
     |false =>
      have e:R=0:=by rw[HLV.out];simp[zci,←HNB.out]
      have E:=Z9 e;clear e;go_wp2_with fail;refine(Zx.out _).mono ?_;rintro e w2 ⟨rfl,rfl⟩;go_wp2_with fail;go_ret;exact⟨by rw[E.out];rfl,HBW.out⟩
     |true =>
      have Y3:Hid (∀W,Calls Tryz.prog 129 #[.int .i64 d] W (fun e w'=>e=.returned (.bool (decide (0≤d) && decide (d≤99999)))∧W=w')):=fun W=>zsj d W
      obtain⟨db,WM⟩:∃z,z=(decide (0≤d) && decide (d≤99999)):=⟨_,rfl⟩
      rw[←WM]at Y3
      have e:R=if db=true then 1 else 0:=by
       rw[HLV.out,WM];simp[zci,HQR.out,←HNB.out]
      clear WM
      cases db with
      |false =>
       have E:Hid (R=0):=by show R=0;rw[e];rfl
       clear e;go_wp2_with fail;refine(Zx.out _).mono ?_;rintro e w2 ⟨rfl,rfl⟩;go_wp2_with fail;refine(Y3.out _).mono ?_;rintro e w2 ⟨rfl,rfl⟩;go_wp2_with fail;go_ret;exact⟨by rw[E.out];rfl,HBW.out⟩
      |true =>
       have E:Hid (R=1):=by show R=1;rw[e];rfl
       clear e;go_wp2_with fail;refine(Zx.out _).mono ?_;rintro e w2 ⟨rfl,rfl⟩;go_wp2_with fail;refine(Y3.out _).mono ?_;rintro e w2 ⟨rfl,rfl⟩;go_wp2_with fail;go_ret;exact⟨by rw[E.out];rfl,HBW.out⟩
   ·have qk:((k:Int) == 0)=false:=zam (by omega)
    have e:R=0:=by rw[HRR.out];exact zc1 ZQ.out (fun e=>Yt (by rw[←HLL.out,e];rfl))
    clear Yt;have E:=Z9 e;clear e;go_wp2_with fail;go_ret;exact⟨by rw[E.out];rfl,HBW.out⟩
theorem z2s{n:Nat}(ih:RsC n)(r nm:ByteArray)(d:Int)(l:List Ex)(cs:List Value)(w:World)(h:ExAt (n+1) w cs (Ex.mk 3 r nm d l))(hz:(Ex.mk 3 r nm d l).size≤1000)(Zh:∃dd,SmX dd (Ex.mk 3 r nm d l)) :
 Calls Tryz.prog 81 #[.agg cs.toArray] w (IntP w (srtP 3 r nm d (l.map Ex.srt))):=by
 obtain⟨a,len,cap,rfl,Z5,ZF⟩:=h;have ZU:l.length=len:=Z5;have hsl:=(Ex.mk 3 r nm d l).sub_len;have ZC:len≤1000:=by omega
 have hsub2:len=0∨∃g o,a=some ⟨g,o,none⟩∧g<w.heap.size∧∀i (hi:i<l.length),∃cs',(∀j,j<5→w.cell? ⟨g,o+i*5+j,none⟩=cs'[j]?)∧ExAt n w cs' l[i]:=ZF
 obtain⟨i0,hi,ZN,ZO,ZD⟩:=info_parts zb7;obtain⟨Xb,YY⟩:=zch Zh
 have HZY:Hid (∀y ∈ l,y.size≤1000):=fun y hy=>by have:=Ex.sub_size (x:=Ex.mk 3 r nm d l) hy;omega
 have HSE:=Z9 YY;have HI:=Z9 ih;have HS:=Z9 hsub2;have HLEN:=Z9 ZU;have HI0:=Z9 hi;have HI1:=Z9 ZN;have HI2:=Z9 ZO;have HI3:=Z9 ZD;obtain⟨L,hL⟩:∃L,L=l.map Ex.srt:=⟨_,rfl⟩
 have HLL:Hid (L.length=len):=by rw[hL];show(l.map Ex.srt).length=len;rw[List.length_map];exact ZU
 have HL:=Z9 hL;rw[←hL];obtain⟨br,qr⟩:∃b,r.toList.isEmpty=b:=⟨_,rfl⟩
 obtain⟨bn,qn⟩:∃b,nm.toList.isEmpty=b:=⟨_,rfl⟩
 obtain⟨bd,qd⟩:∃b,((d:Int) == 0)=b:=⟨_,rfl⟩
 obtain⟨bb,Y7⟩:∃b,b=(br && bn && bd):=⟨_,rfl⟩
 have HBB:Hid (bb=zco r nm d):=by
  show bb=_
  unfold zco;rw[Y7,←qr,←qn,←qd,zac,zac]
 have HBV:=Z9 Y7
 have HQR:Hid (r.data.toList.isEmpty=br):=by show _=br;rw[←qr,zac]
 have HQN:Hid (nm.data.toList.isEmpty=bn):=by show _=bn;rw[←qn,zac]
 have HQD:Hid (bd=true↔d=0):=by show bd=true↔_;rw[←qd];simp
 obtain⟨R,hR⟩:∃R,R=srtP 3 r nm d L:=⟨_,rfl⟩
 rw[←hR];have HRR:=Z9 hR;clear ih ZF hsub2 Z5 ZU hz hsl hi ZN ZO ZD hL Zh YY Y7 hR
 show Calls Tryz.prog 81 #[.agg #[.int .u8 3,.string r,.string nm,.int .i64 d,.slice a len cap]] w _
 go_enter Tryz.func81,Tryz.ntmps81
 go_upto_region 1 with(fail)
 obtain⟨W0,Z3⟩:∃W0,W0=w.alloc (.cells #[.int .u8 3,.string r,.string nm,.int .i64 d,.slice a len cap] 25):=⟨_,rfl⟩
 have ZZ:W0.heap[w.heap.size]?=some (.cells #[.int .u8 3,.string r,.string nm,.int .i64 d,.slice a len cap] 25):=by rw[Z3];exact heap_alloc_new w _
 have ZP:Below w.heap.size w W0:=by rw[Z3];exact zaf w _
 have hzW:w.heap.size<W0.heap.size:=(Z8 ZZ);rw[←Z3];have HBX:=Z9 ZZ;have HB0:=Z9 ZP;obtain⟨c0,c1,c2,c3,c4⟩:=zae ZZ;clear Z3 ZZ ZP;go_cut [3] (fun s wx=>s=.bool bb∧W0=wx)
 case first=>as_aux_lemma =>
  have E:=HBV.out
  cases br with
  |false =>
   have e:bb=false:=by rw[E];rfl
   have EE:=Z9 e;clear e E;go_wp2_with fail;go_meet;exact⟨by rw[EE.out],rfl⟩
  |true =>
   cases bn with
   |false =>
    have e:bb=false:=by rw[E];rfl
    have EE:=Z9 e;clear e E;go_wp2_with fail;go_meet;exact⟨by rw[EE.out],rfl⟩
   |true =>
    have e:bb=bd:=by rw[E];rfl
    have EE:=Z9 e;clear e E;go_wp2_with fail;go_meet;exact⟨by rw[EE.out],rfl⟩
 case rest =>
 obtain⟨rfl,rfl⟩:=hcut;clear c0 c1 c2 c3 c4;go_wp2_with fail;go_loopw [4,5] (fun lv iv wr=>RsR W0 L len lv iv wr) (fun _ iv _=>len-(intOf iv).toNat)
 case atStart=>exact⟨0,Nat.zero_le _,rfl,Z9 ⟨by simp[ints],.inl ⟨rfl,rfl⟩⟩,Below.refl _ _⟩
 case round =>
  obtain⟨w1,rfl⟩:∃w1:World,w1=wr:=⟨_,rfl⟩
  obtain⟨v,hv⟩:∃v:Value,v=u4:=⟨_,rfl⟩
  rw[←hv]at hrel ⊢;clear hv;obtain⟨k,hk,rfl,HO,hb⟩:=hrel;have hBW:=HB0.out.trans (hb.mono HB0.out.size);have HBW:=Z9 hBW;obtain⟨c0,c1,c2,c3,c4⟩:=zae ((hb.block _ hzW).trans HBX.out);have HB:=Z9 hb;clear hb
  by_cases Z7:k<len
  ·have ZX:k<l.length:=by rw[HLEN.out];exact Z7
   rcases HS.out with h0 |⟨g,o,ha,hg,Zq⟩
   ·omega
   ·subst ha
    obtain⟨p1,l1,cc,⟨e0,e1,e2,e3,e4⟩,ZJ⟩:=ExAt.elem (x:=Ex.mk 0 ByteArray.empty ByteArray.empty 0 l) hg hBW ZX Zq;have hym:l[k] ∈ l:=List.getElem_mem _;simp only[Ex.sub]at e0 e1 e2 e3 ZJ
    have hT:L.take (k+1)=L.take k ++ [l[k].srt]:=by
     have e:=HL.out;subst e;rw[List.take_succ_eq_append_getElem (by simpa using ZX)];simp
    obtain⟨y,hy⟩:∃y,y=l[k]:=⟨_,rfl⟩
    rw[←hy]at e0 e1 e2 e3 ZJ hT hym;have hC:=HI.out y _ w1 ZJ (HZY.out y hym) (HSE.out y hym);rw[←Ex.srt_is]at hC;obtain⟨s,hs⟩:∃s,s=y.srt:=⟨_,rfl⟩
    rw[←hs]at hC hT;have HC:=Z9 hC;have HT:=Z9 hT;clear hC hT hs hy hym ZJ Zq hBW;go_wp2_with fail;refine HC.out.mono ?_;rintro e u ⟨rfl,ZR⟩;have hou:=(World.ownsRow.kept (w:=w1) HO.out ⟨ZR.os,ZR.tape,ZR.output,ZR.size,fun i hi _=>ZR.block i hi⟩ (row:=none) (by cases v.ownBlock<;>simp));have HOA:=Z9 (hou.alloc (.cells #[.int .i64 s] 3));have HNW:=Z9 (World.news_of_block (heap_alloc_new u (.cells #[.int .i64 s] 3)));have HBS:=Z9 (show W0.heap.size≤(u.alloc (.cells #[.int .i64 s] 3)).heap.size by rw[World.size_alloc];have:=ZR.size;have:=HB.out.size;omega);have HBU:=Z9 ((HB.out.trans (ZR.mono HB.out.size)).alloc (by have:=ZR.size;have:=HB.out.size;omega) (.cells #[.int .i64 s] 3))
    clear hou ZR e0 e1 e2 e3 e4 c0 c1 c2 c3 c4;go_wp2_with (at_builtin;refine wpList_append_own _ rfl _ _ 37 rfl W0.heap.size 3 i0 (.int .i64 0) 1 8 Tryz.underlying37 HI0.out HI1.out HI2.out HI3.out rfl (by decide) _ _ _ rfl HOA.out ⟨u.heap.size,0,none⟩ 1 1 [.int .i64 s] rfl rfl HNW.out (zcj (by rfl)) (by unfold maxLen;omega) (by omega) HBS.out ?_);intro v' w3 ZV Z2 _;have HR:Hid (RsR W0 L len v' (.int .i64 ((k+1:Nat):Int)) w3):=⟨k+1,Z7,rfl,Z9 (by rw[HT.out,←zb6];exact ZV),HBU.out.grown Z2 HBU.out.size (fun q hq=>(HOA.out.lt q hq).1)⟩;clear ZV Z2;go_wp2_with fail;go_roundw
    case rel=>exact HR.out
    case measure=>simp[intOf]<;>omega
  ·have YV:k=len:=by omega
   subst YV;have HT:Hid (L.take k=L):=Z9 (List.take_of_length_le (by rw[HLL.out];omega));have ho:=HO.out;rw[HT.out]at ho;have HOW:=Z9 ho;clear ho HO Z7;obtain⟨av,cv,rfl,Zv⟩:=zb3 HOW.out;have YR:=Z9 Zv;clear Zv;have ZQ:Hid (shpL 3=none):=zi0 (by decide)
   by_cases Yt:k=0
   ·have qk:((k:Int) == 0)=true:=zaz (by omega)
    have hl:L=[]:=List.eq_nil_of_length_eq_zero (by rw[HLL.out];exact Yt)
    have HLV:Hid (R=zci 3 r nm d):=by show R=_;rw[HRR.out];exact zf1 ZQ.out hl
    clear hl Yt
    have Zx:Hid (∀W,Calls Tryz.prog 53 #[.string nm] W (fun e w'=>e=.returned (.bool (nmB nm.data.toList))∧W=w')):=fun W=>zi4 nm W
    obtain⟨nb,Zf⟩:∃z,z=nmB nm.data.toList:=⟨_,rfl⟩
    rw[←Zf]at Zx;have HNB:=Z9 Zf;clear Zf
    cases br with
    |false =>
     have e:R=0:=by rw[HLV.out];simp[zci,HQR.out]
     have E:=Z9 e;clear e;go_wp2_with fail;go_ret;exact⟨by rw[E.out];rfl,HBW.out⟩
    |true =>
     cases nb with
     |false =>
      have e:R=0:=by rw[HLV.out];simp[zci,←HNB.out]
      have E:=Z9 e;clear e;go_wp2_with fail;refine(Zx.out _).mono ?_;rintro e w2 ⟨rfl,rfl⟩;go_wp2_with fail;go_ret;exact⟨by rw[E.out];rfl,HBW.out⟩
     |true =>
      cases bd with
      |false =>
       have e:R=0:=by
        have hd:d≠0:=fun h=>by have:=HQD.out.2 h;cases this
        rw[HLV.out];simp[zci,hd]
       have E:=Z9 e;clear e;go_wp2_with fail;refine(Zx.out _).mono ?_;rintro e w2 ⟨rfl,rfl⟩;go_wp2_with fail;go_ret;exact⟨by rw[E.out];rfl,HBW.out⟩
      |true =>
       have e:R=1:=by
        have hd:d=0:=HQD.out.1 rfl;rw[HLV.out];simp[zci,hd,HQR.out,←HNB.out]
       have E:=Z9 e;clear e;go_wp2_with fail;refine(Zx.out _).mono ?_;rintro e w2 ⟨rfl,rfl⟩;go_wp2_with fail;go_ret;exact⟨by rw[E.out];rfl,HBW.out⟩
   ·have qk:((k:Int) == 0)=false:=zam (by omega)
    have e:R=0:=by rw[HRR.out];exact zc1 ZQ.out (fun e=>Yt (by rw[←HLL.out,e];rfl))
    clear Yt;have E:=Z9 e;clear e;go_wp2_with fail;go_ret;exact⟨by rw[E.out];rfl,HBW.out⟩
end Go.Proofs.YtkobkpepgdddeaaGreatDoor
