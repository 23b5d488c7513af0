/-
  The reference's Sort of an expression, walked: some kinds. No condition but the size.
-/
import Derived.Test.YtkobkpepgdddeaaGreatDoorYaf
import Derived.Deep.RegionHeld3
namespace Go.Proofs.YtkobkpepgdddeaaGreatDoor
open Go.RowKit
set_option maxHeartbeats 16000000
set_option maxRecDepth 100000
def PsC(n:Nat)(Wg:World):Prop:=∀(x:Ex)(cs:List Value)(w:World),ExAt n w cs x→KOk n x→x.size≤1000→(∃dd,SmX dd x)→Below Wg.heap.size Wg w →
 Calls Tryz.prog 82 #[.agg cs.toArray] w (U8P w (srtP x.kind x.rat x.name x.date (x.sub.map Ex.srt)))
theorem ycc{k:Int}{r n:ByteArray}{d:Int}{l:List Ex}{len:Nat}(hs:shpL k=none)(hl:l.length=len):lfV k r n d len=srtP k r n d (l.map Ex.srt):=by
 unfold lfV
 split
 ·rename_i h
  have:l=[]:=List.eq_nil_of_length_eq_zero (by omega);subst this;exact(z19 hs rfl).symm
 ·rename_i h
  exact(zqw hs (by intro e;rw[List.map_eq_nil_iff]at e;rw[e]at hl;exact h hl.symm)).symm
theorem zus(kd:Int)(r nm:ByteArray)(d:Int)(a:Option Addr)(len cap:Nat)(l:List Ex)(w Wg:World)(YL:0≤kd)(Zh:kd≤255)(hs:shpL kd=none)(hr:r.size≤2500)(hl:l.length=len)(hg:zb6 Wg)(hb:Below Wg.heap.size Wg w) :
 Calls Tryz.prog 82 #[.agg #[.int .u8 kd,.string r,.string nm,.int .i64 d,.slice a len cap]] w (U8P w (srtP kd r nm d (l.map Ex.srt))):=by
 rw[←ycc hs hl];obtain⟨W0,Z7⟩:∃W0,W0=w.alloc (.cells #[.int .u8 kd,.string r,.string nm,.int .i64 d,.slice a len cap] 25):=⟨_,rfl⟩
 have hB0:Below w.heap.size w W0:=by rw[Z7];exact zaa w _
 have Z2:W0.heap[w.heap.size]?=some (.cells #[.int .u8 kd,.string r,.string nm,.int .i64 d,.slice a len cap] 25):=by rw[Z7];exact heap_alloc_new w _
 have YR:Below Wg.heap.size Wg W0:=hb.trans (hB0.mono hb.size);obtain⟨bm,hc,Yf⟩:=hg;have hlook:=(Yf kd YL Zh).1 hs W0 YR;have hgc:W0.cell? ⟨0,0,none⟩=some (.map (some bm)):=((zbg YR).1 _ _ (zf2 (a:=⟨_,0,none⟩) hc)).trans hc
 have HLF:Hid (∀W,Calls Tryz.prog 138 #[.agg #[.int .u8 kd,.string r,.string nm,.int .i64 d,.slice a len cap]] W (U8P W (lfV kd r nm d len))):=fun W=>z4c kd r nm d a len cap W hr
 obtain⟨R,hR⟩:∃R,R=lfV kd r nm d len:=⟨_,rfl⟩
 rw[←hR]at HLF ⊢;obtain⟨c0,c1,c2,c3,c4⟩:=zad Z2;have hz:w.heap.size<W0.heap.size:=(Z8 Z2);have HW0:=Z9 Z7;have HB0:=Z9 hB0;clear hR Z7 hB0 Z2 YR hc Yf hs hl hr hb YL Zh;go_enter Tryz.func82,Tryz.ntmps82
 go_upto_region 1 with(fail)
 rw[←HW0.out];clear HW0;go_wp2_with fail;refine(HLF.out _).mono ?_;rintro e w2 ⟨rfl,Z3⟩;have ZY:=Z9 (((HB0.out.alloc HB0.out.size (.cells #[.slice none 0 0,.int .u8 0] 161))).trans (Z3.mono (by have:=HB0.out.size;rw[World.size_alloc];omega)));clear Z3;go_wp2_with fail;go_ret;exact⟨rfl,ZY.out⟩
theorem zzk{a b:Int}(h:a=b):(a != b)=false:=by simpa using h
theorem z4k{a b:Int}(h:a≠b):(a != b)=true:=by simpa using h
def PsR(W2:World)(l:List Ex)(ps:List Int)(len:Nat)(iv:Value)(wr:World):Prop :=
 ∃k:Nat,k≤len∧iv=.int .i64 (k:Int)∧Hid (∀i,i<k→((l.map Ex.srt)[i]?.getD 0)=(ps[i]?.getD 0))∧Below W2.heap.size W2 wr
theorem znt{l ps:List Int}(hl:l.length=ps.length)(h:∀i,i<l.length→l[i]?.getD 0=ps[i]?.getD 0):l=ps:=by
 apply List.ext_getElem hl;intro i h1 h2;have:=h i h1
 rwa [List.getElem?_eq_getElem h1,List.getElem?_eq_getElem h2]at this
theorem zq7{n:Nat}{Wg:World}(ih:PsC n Wg)(kd:Int)(r nm:ByteArray)(d:Int)(a:Option Addr)(len cap:Nat)(l:List Ex)(ps:List Int)(own:Int)(w:World)(YL:0≤kd)(Zh:kd≤255)(hs:shpL kd=some (ps,own))(hl:l.length=len)(ZH:len≤1000)(hg:zb6 Wg)(hb:Below Wg.heap.size Wg w)
 (S3:∀y ∈ l,KOk n y) (hzy:∀y ∈ l,y.size≤1000) (Ub:∀y ∈ l,∃dd,SmX dd y)
 (ZZ:len=0∨∃g o,a=some ⟨g,o,none⟩∧g<w.heap.size∧∀i (hi:i<l.length),∃cs',(∀j,j<5→w.cell? ⟨g,o+i*5+j,none⟩=cs'[j]?)∧ExAt n w cs' l[i]) :
 Calls Tryz.prog 82 #[.agg #[.int .u8 kd,.string r,.string nm,.int .i64 d,.slice a len cap]] w (U8P w (srtP kd r nm d (l.map Ex.srt))):=by
 obtain⟨W0,Z7⟩:∃W0,W0=w.alloc (.cells #[.int .u8 kd,.string r,.string nm,.int .i64 d,.slice a len cap] 25):=⟨_,rfl⟩
 have hB0:Below w.heap.size w W0:=by rw[Z7];exact zaa w _
 have Z2:W0.heap[w.heap.size]?=some (.cells #[.int .u8 kd,.string r,.string nm,.int .i64 d,.slice a len cap] 25):=by rw[Z7];exact heap_alloc_new w _
 have YR:Below Wg.heap.size Wg W0:=hb.trans (hB0.mono hb.size);obtain⟨bm,hc,Yf⟩:=hg;obtain⟨gs,os,cs,WV,Wv,ZV⟩:=(Yf kd YL Zh).2 ps own hs;have hlook:=Wv W0 YR;have hgc:W0.cell? ⟨0,0,none⟩=some (.map (some bm)):=((zbg YR).1 _ _ (zf2 (a:=⟨_,0,none⟩) hc)).trans hc
 have HPC:Hid (∀W,Below Wg.heap.size Wg W→∀i,i<ps.length→W.cell? ⟨gs,os+i,none⟩=some (.int .u8 (ps[i]?.getD 0))):=fun W hW i hi=>((zbg hW).1 _ _ WV).trans (ZV i hi)
 obtain⟨m,hm⟩:∃m,m=ps.length:=⟨_,rfl⟩
 rw[←hm]at hlook HPC;have S5:m≤3:=by rw[hm];exact(z2g hs).2
 obtain⟨bl,ql⟩:∃b,((len:Int) != (m:Int))=b:=⟨_,rfl⟩
 obtain⟨br,qr⟩:∃b,r.toList.isEmpty=b:=⟨_,rfl⟩
 obtain⟨bn,qn⟩:∃b,nm.toList.isEmpty=b:=⟨_,rfl⟩
 obtain⟨bd,qd⟩:∃b,((d:Int) != 0)=b:=⟨_,rfl⟩
 have HQL:Hid (bl=false↔len=m):=by show bl=false↔_;rw[←ql];simp;omega
 have HQB:Hid (zsa r nm d=(br && bn && !bd)):=by
  show zsa r nm d=_
  unfold zsa;rw[←qr,←qn,←qd,zag,zag,bne,Bool.not_not]
 obtain⟨R,hR⟩:∃R,R=srtP kd r nm d (l.map Ex.srt):=⟨_,rfl⟩
 rw[←hR];have HRR:=Z9 hR;have HSH:=Z9 hs;obtain⟨c0,c1,c2,c3,c4⟩:=zad Z2;have hz:w.heap.size<W0.heap.size:=(Z8 Z2);have HW0:=Z9 Z7;have HB0:=Z9 hB0;have HBG:=Z9 YR;have HBX:=Z9 Z2;have HM:=Z9 hm;have HL:=Z9 hl;have HI:=Z9 ih;have HKO:=Z9 S3;have HZY:=Z9 hzy;have HSE:=Z9 Ub;have ZQ:=Z9 ZZ;obtain⟨W1,YK⟩:∃W1,W1=W0.alloc (.cells #[.slice (some ⟨gs,os,none⟩) m cs,.int .u8 own] 161):=⟨_,rfl⟩
 have Y7:Below w.heap.size w W1:=by rw[YK];exact hB0.alloc hB0.size _
 have hsb:W1.heap[W0.heap.size]?=some (.cells #[.slice (some ⟨gs,os,none⟩) m cs,.int .u8 own] 161):=by rw[YK];exact heap_alloc_new W0 _
 have hbx1:W1.heap[w.heap.size]?=some (.cells #[.int .u8 kd,.string r,.string nm,.int .i64 d,.slice a len cap] 25):=by rw[YK];exact(Below.heap_alloc W0 _ _ hz).trans Z2
 have ZT:=Z9 Y7;have HSB:=Z9 hsb;have HBX1:=Z9 hbx1;have HG1:Hid (Below Wg.heap.size Wg W1):=hb.trans (Y7.mono hb.size);have YW:=Z9 YK;have ZO:W0.heap.size<W1.heap.size:=(Z8 hsb);clear hR Z7 hB0 Z2 YR hc Yf hs hl hb YL Zh Wv ZV hm ih S3 hzy Ub ZZ Y7 hsb hbx1 WV YK;go_enter Tryz.func82,Tryz.ntmps82
 go_upto_region 1 with(fail)
 rw[←HW0.out];clear HW0
 go_upto_region 2 with(fail)
 rw[←YW.out];clear YW c0 c1 c2 c3 c4;obtain⟨c0,c1,c2,c3,c4⟩:=zad HBX1.out;have s0:W1.cell? ⟨W0.heap.size,0,none⟩=some (.slice (some ⟨gs,os,none⟩) m cs):=zbf HSB.out 0;have s1:W1.cell? ⟨W0.heap.size,1,none⟩=some (.int .u8 own):=zbf HSB.out 1
 cases bl with
 |true =>
  have e:R=0:=by
   rw[HRR.out]
   exact z60 HSH.out (zrh (by
    rw[List.length_map,HL.out,←HM.out]
    intro h;have:=HQL.out.2 h;cases this))
  have E:=Z9 e;clear e;go_wp2_with fail;go_ret;exact⟨by rw[E.out];rfl,ZT.out⟩
 |false =>
 cases br with
 |false =>
  have e:R=0:=by rw[HRR.out];exact zne HSH.out (by rw[HQB.out];rfl)
  have E:=Z9 e;clear e;go_wp2_with fail;go_ret;exact⟨by rw[E.out];rfl,ZT.out⟩
 |true =>
 cases bn with
 |false =>
  have e:R=0:=by rw[HRR.out];exact zne HSH.out (by rw[HQB.out];rfl)
  have E:=Z9 e;clear e;go_wp2_with fail;go_ret;exact⟨by rw[E.out];rfl,ZT.out⟩
 |true =>
 cases bd with
 |true =>
  have e:R=0:=by rw[HRR.out];exact zne HSH.out (by rw[HQB.out];rfl)
  have E:=Z9 e;clear e;go_wp2_with fail;go_ret;exact⟨by rw[E.out];rfl,ZT.out⟩
 |false =>
 have TW:len=m:=HQL.out.1 rfl
 have HBA:Hid (zsa r nm d=true):=by show _=true;rw[HQB.out];rfl
 have HLM:=Z9 TW;clear TW;go_wp2_with fail;go_loopw [5,6,43] (fun _ _ iv wr=>PsR W1 l ps len iv wr) (fun _ _ iv _=>len-(intOf iv).toNat)
 case atStart=>exact⟨0,Nat.zero_le _,rfl,Z9 (fun i h=>absurd h (Nat.not_lt_zero _)),Below.refl _ _⟩
 case round =>
  obtain⟨w1,rfl⟩:∃w1:World,w1=wr:=⟨_,rfl⟩
  obtain⟨k,hk,rfl,HK,hb⟩:=hrel;have HB:=Z9 hb;have HBW:=Z9 (ZT.out.trans (hb.mono ZT.out.size));have hs0:w1.cell? ⟨W0.heap.size,0,none⟩=some (.slice (some ⟨gs,os,none⟩) m cs):=((zbg hb).1 _ _ ZO).trans s0;have Zt:w1.cell? ⟨W0.heap.size,1,none⟩=some (.int .u8 own):=((zbg hb).1 _ _ ZO).trans s1;clear hb c0 c1 c2 c3 c4 s0 s1
  by_cases Z4:k<len
  ·have ZR:k<l.length:=by rw[HL.out];exact Z4
   rcases ZQ.out with h0 |⟨g,o,ha,hg,Zq⟩
   ·omega
   ·subst ha
    obtain⟨p1,l1,cc,⟨e0,e1,e2,e3,e4⟩,ZB⟩:=ExAt.elem (x:=Ex.mk 0 ByteArray.empty ByteArray.empty 0 l) hg HBW.out ZR Zq;have hym:l[k] ∈ l:=List.getElem_mem _;simp only[Ex.sub]at e0 e1 e2 e3 ZB;have Yh:(l.map Ex.srt)[k]?.getD 0=l[k].srt:=by rw[List.getElem?_map,List.getElem?_eq_getElem ZR];rfl
    obtain⟨y,hy⟩:∃y,y=l[k]:=⟨_,rfl⟩
    rw[←hy]at e0 e1 e2 e3 ZB hym Yh;obtain⟨V,hV⟩:∃V,V=w1.alloc (.cells #[.int .u8 y.kind,.string y.rat,.string y.name,.int .i64 y.date,.slice p1 l1 cc] 25):=⟨_,rfl⟩
    have hbv:V.heap[w1.heap.size]?=some (.cells #[.int .u8 y.kind,.string y.rat,.string y.name,.int .i64 y.date,.slice p1 l1 cc] 25):=by rw[hV];exact heap_alloc_new w1 _
    have hBV:Below w1.heap.size w1 V:=by rw[hV];exact zaa w1 _
    have ZE:W0.heap.size<w1.heap.size:=Nat.lt_of_lt_of_le ZO HB.out.size;have Xq:Below Wg.heap.size Wg V:=HG1.out.trans ((HB.out.trans (hBV.mono HB.out.size)).mono HG1.out.size);obtain⟨p,hp⟩:∃p,p=ps[k]?.getD 0:=⟨_,rfl⟩
    have Vo:k<m:=by rw[←HLM.out];exact Z4
    have SBf:∀W,Below V.heap.size V W→W.cell? ⟨w1.heap.size,0,none⟩=some (.int .u8 y.kind)∧W.cell? ⟨w1.heap.size,1,none⟩=some (.string y.rat)∧W.cell? ⟨w1.heap.size,2,none⟩=some (.string y.name)∧W.cell? ⟨w1.heap.size,3,none⟩=some (.int .i64 y.date)∧W.cell? ⟨w1.heap.size,4,none⟩=some (.slice p1 l1 cc) ∧
     W.cell? ⟨W0.heap.size,0,none⟩=some (.slice (some ⟨gs,os,none⟩) m cs)∧W.cell? ⟨gs,os+k,none⟩=some (.int .u8 p):=fun W hW=>by
     obtain⟨q0,q1,q2,q3,q4⟩:=zad ((hW.block _ (Z8 hbv)).trans hbv);have hVW:Below w1.heap.size w1 W:=hBV.trans (hW.mono hBV.size);exact⟨q0,q1,q2,q3,q4,((zbg hVW).1 _ _ ZE).trans hs0,by rw[hp];exact HPC.out W (Xq.trans (hW.mono Xq.size)) k Vo⟩
    have hcall:∀W,Below V.heap.size V W→Calls Tryz.prog 82 #[.agg #[.int .u8 y.kind,.string y.rat,.string y.name,.int .i64 y.date,.slice p1 l1 cc]] W (U8P W y.srt):=fun W hW=>by
     have hVW:Below w1.heap.size w1 W:=hBV.trans (hW.mono hBV.size);have:=HI.out y _ W (ExAt.below hVW ZB) (HKO.out y hym) (HZY.out y hym) (HSE.out y hym) (Xq.trans (hW.mono Xq.size))
     rwa [←Ex.srt_is]at this
    obtain⟨s,hs⟩:∃s,s=y.srt:=⟨_,rfl⟩
    rw[←hs]at hcall Yh;have HSF:=Z9 SBf;have XG:=Z9 hcall;have HSK:=Z9 Yh;have HP:=Z9 hp;have HV:=Z9 hV;have HBV:=Z9 hBV;have HC0:Hid (Below V.heap.size V V):=Below.refl _ V;have HC:Hid (Below V.heap.size V V.drew):=(Below.refl _ V).drew;have S1:(0:Int)≤(k:Int):=by omega
    have hi1:(k:Int)<(m:Int):=by omega
    by_cases Xh:s=p
    ·have qsp:((s:Int) != (p:Int))=false:=zzk Xh
     have HSP:=Z9 Xh;clear Zq ZB hym hy hbv hBV Xq SBf hcall Yh hs hp hV Xh hs0 Zt
     go_upto_region 9 with(fail)
     rw[←HV.out];clear HV e0 e1 e2 e3 e4;obtain⟨q0,q1,q2,q3,q4,q5,q6⟩:=HSF.out V HC0.out
     go_region_held3 (fun W=>W.cell? ⟨w1.heap.size,0,none⟩=some (.int .u8 y.kind)∧W.cell? ⟨w1.heap.size,1,none⟩=some (.string y.rat)∧W.cell? ⟨w1.heap.size,2,none⟩=some (.string y.name)∧W.cell? ⟨w1.heap.size,3,none⟩=some (.int .i64 y.date)∧W.cell? ⟨w1.heap.size,4,none⟩=some (.slice p1 l1 cc) ∧
      W.cell? ⟨W0.heap.size,0,none⟩=some (.slice (some ⟨gs,os,none⟩) m cs)∧W.cell? ⟨gs,os+k,none⟩=some (.int .u8 p))
      ((first |with_reducible exact HSF.out _ HC.out |with_reducible exact HSF.out _ HC0.out))
      ((go_at_call 82;refine(XG.out _ HC.out).mono ?_;rintro e u ⟨rfl,hb⟩;have HC:=Z9 (HC.out.trans (hb.mono HC.out.size));clear hb))
     have HNX:=Z9 ((HB.out.trans (HBV.out.mono HB.out.size)).trans (HC.out.mono (Nat.le_trans HB.out.size HBV.out.size)));clear q0 q1 q2 q3 q4 q5 q6;go_wp2_with fail;go_roundw
     case rel=>exact⟨k+1,by omega,by go_num,Z9 (fun i hi=>by
      rcases Nat.lt_or_ge i k with h |h
      ·exact HK.out i h
      ·obtain rfl:i=k:=by omega
       rw[HSK.out,←HP.out];exact HSP.out),HNX.out⟩
     case measure=>simp[intOf]<;>omega
    ·have qsp:((s:Int) != (p:Int))=true:=z4k Xh
     have e:R=0:=by
      rw[HRR.out];exact z60 HSH.out (zu4 (i:=k) (by rw[HSK.out,←HP.out];exact Xh))
     have E:=Z9 e;clear Zq ZB hym hy hbv hBV Xq SBf hcall Yh hs hp hV Xh hs0 Zt e
     go_upto_region 9 with(fail)
     rw[←HV.out];clear HV e0 e1 e2 e3 e4;obtain⟨q0,q1,q2,q3,q4,q5,q6⟩:=HSF.out V HC0.out
     go_region_held3 (fun W=>W.cell? ⟨w1.heap.size,0,none⟩=some (.int .u8 y.kind)∧W.cell? ⟨w1.heap.size,1,none⟩=some (.string y.rat)∧W.cell? ⟨w1.heap.size,2,none⟩=some (.string y.name)∧W.cell? ⟨w1.heap.size,3,none⟩=some (.int .i64 y.date)∧W.cell? ⟨w1.heap.size,4,none⟩=some (.slice p1 l1 cc) ∧
      W.cell? ⟨W0.heap.size,0,none⟩=some (.slice (some ⟨gs,os,none⟩) m cs)∧W.cell? ⟨gs,os+k,none⟩=some (.int .u8 p))
      ((first |with_reducible exact HSF.out _ HC.out |with_reducible exact HSF.out _ HC0.out))
      ((go_at_call 82;refine(XG.out _ HC.out).mono ?_;rintro e u ⟨rfl,hb⟩;have HC:=Z9 (HC.out.trans (hb.mono HC.out.size));clear hb))
     have HNX:=Z9 (ZT.out.trans (((HB.out.trans (HBV.out.mono HB.out.size)).trans (HC.out.mono (Nat.le_trans HB.out.size HBV.out.size))).mono ZT.out.size));clear q0 q1 q2 q3 q4 q5 q6;go_wp2_with fail;go_ret;exact⟨by rw[E.out];rfl,HNX.out⟩
  ·have e:R=own:=by
    rw[HRR.out];refine z8g HSH.out HBA.out (znt (by rw[List.length_map,HL.out,HLM.out,HM.out]) (fun i hi=>HK.out i ?_));rw[List.length_map,HL.out]at hi;omega
   have E:=Z9 e;clear e;go_wp2_with fail;go_ret;exact⟨by rw[E.out];rfl,HBW.out⟩
theorem zic{Wg:World}(hg:zb6 Wg):∀n,PsC n Wg:=by
 intro n
 induction n with
 |zero=>intro x cs w h;exact h.elim
 |succ n ih =>
  intro x cs w h hk hz XM hb;obtain⟨Vp,S3⟩:=hk;obtain⟨k,r,nm,d,l⟩:=x;have hsl:=(Ex.mk k r nm d l).sub_len;obtain⟨a,len,cap,rfl,Z6,ZZ⟩:=h;obtain⟨hrz,Ub⟩:=z2b XM
  cases hs:shpL k with
  |none=>exact zus k r nm d a len cap l w Wg Vp.1 Vp.2 hs hrz.1 Z6 hg hb
  |some q =>
   obtain⟨ps,own⟩:=q;exact zq7 ih k r nm d a len cap l ps own w Vp.1 Vp.2 hs Z6 (by omega) hg hb S3 (fun y hy=>by have:=Ex.sub_size (x:=Ex.mk k r nm d l) hy;omega) Ub ZZ
end Go.Proofs.YtkobkpepgdddeaaGreatDoor
