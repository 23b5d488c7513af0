/-
  The program's sorted, walked. No condition but the size.
-/
import Derived.Test.YtkobkpepgdddeaaGreatDoorZah
import Derived.Deep.RegionHeld3
import Derived.Test.YtkobkpepgdddeaaGreatDoorZat
import Derived.Test.YtkobkpepgdddeaaGreatDoorZau
import Derived.Test.YtkobkpepgdddeaaGreatDoorZav
import Derived.Test.YtkobkpepgdddeaaGreatDoorZaw
import Derived.Test.YtkobkpepgdddeaaGreatDoorZaa
import Derived.Test.YtkobkpepgdddeaaGreatDoorZaj
import Derived.Test.YtkobkpepgdddeaaGreatDoorZap
import Derived.Test.YtkobkpepgdddeaaGreatDoorZas
import Derived.Test.YtkobkpepgdddeaaGreatDoorZak
import Derived.Deep.QuietTactic
import Derived.BigQuiet
namespace Go.Proofs.YtkobkpepgdddeaaGreatDoor
open Go.RowKit
set_option maxHeartbeats 16000000
set_option maxRecDepth 100000
def PsC(n:Nat)(Wg:World):Prop:=∀(x:Ex)(cs:List Value)(w:World),ExAt n w cs x→KOk n x→x.size≤1000→(∃dd,SmX dd x)→Below Wg.heap.size Wg w →
 Calls Tryz.prog 82 #[.agg cs.toArray] w (U8P w (srtP x.kind x.rat x.name x.date (x.sub.map Ex.srt)))
theorem z6b{k:Int}{r n:ByteArray}{d:Int}{l:List Ex}{len:Nat}(hs:shpL k=none)(hl:l.length=len):lfV k r n d len=srtP k r n d (l.map Ex.srt):=by
 unfold lfV
 split
 ·rename_i h
  have:l=[]:=List.eq_nil_of_length_eq_zero (by omega);subst this;exact(zf1 hs rfl).symm
 ·rename_i h
  exact(zc1 hs (by intro e;rw[List.map_eq_nil_iff]at e;rw[e]at hl;exact h hl.symm)).symm
theorem zso(kd:Int)(r nm:ByteArray)(d:Int)(a:Option Addr)(len cap:Nat)(l:List Ex)(w Wg:World)(Yt:0≤kd)(Yy:kd≤255)(hs:shpL kd=none)(hr:r.size≤2500)(hl:l.length=len)(hg:zhp Wg)(hb:Below Wg.heap.size Wg w) :
 Calls Tryz.prog 82 #[.agg #[.int .u8 kd,.string r,.string nm,.int .i64 d,.slice a len cap]] w (U8P w (srtP kd r nm d (l.map Ex.srt))):=by
 rw[←z6b hs hl];obtain⟨W0,Z3⟩:∃W0,W0=w.alloc (.cells #[.int .u8 kd,.string r,.string nm,.int .i64 d,.slice a len cap] 25):=⟨_,rfl⟩
 have ZP:Below w.heap.size w W0:=by rw[Z3];exact zaf w _
 have ZZ:W0.heap[w.heap.size]?=some (.cells #[.int .u8 kd,.string r,.string nm,.int .i64 d,.slice a len cap] 25):=by rw[Z3];exact heap_alloc_new w _
 have VG:Below Wg.heap.size Wg W0:=hb.trans (ZP.mono hb.size);obtain⟨bm,hc,VK⟩:=hg;have hlook:=(VK kd Yt Yy).1 hs W0 VG;have hgc:W0.cell? ⟨0,0,none⟩=some (.map (some bm)):=((zfx VG).1 _ _ (zp3 (a:=⟨_,0,none⟩) hc)).trans hc
 have HLF:Hid (∀W,Calls Tryz.prog 138 #[.agg #[.int .u8 kd,.string r,.string nm,.int .i64 d,.slice a len cap]] W (U8P W (lfV kd r nm d len))):=fun W=>zzr kd r nm d a len cap W hr
 obtain⟨R,hR⟩:∃R,R=lfV kd r nm d len:=⟨_,rfl⟩
 rw[←hR]at HLF ⊢;obtain⟨c0,c1,c2,c3,c4⟩:=zae ZZ;have hz:w.heap.size<W0.heap.size:=(Z8 ZZ);have HW0:=Z9 Z3;have HB0:=Z9 ZP;clear hR Z3 ZP ZZ VG hc VK hs hl hr hb Yt Yy;go_enter Tryz.func82,Tryz.ntmps82
 go_upto_region 1 with(fail)
 rw[←HW0.out];clear HW0;go_wp2_with fail;refine(HLF.out _).mono ?_;rintro e w2 ⟨rfl,ZS⟩;have HB2:=Z9 (((HB0.out.alloc HB0.out.size (.cells #[.slice none 0 0,.int .u8 0] 161))).trans (ZS.mono (by have:=HB0.out.size;rw[World.size_alloc];omega)));clear ZS;go_wp2_with fail;go_ret;exact⟨rfl,HB2.out⟩
theorem zwo{a b:Int}(h:a=b):(a != b)=false:=by simpa using h
theorem zzy{a b:Int}(h:a≠b):(a != b)=true:=by simpa using h
def PsR(W2:World)(l:List Ex)(ps:List Int)(len:Nat)(iv:Value)(wr:World):Prop :=
 ∃k:Nat,k≤len∧iv=.int .i64 (k:Int)∧Hid (∀i,i<k→((l.map Ex.srt)[i]?.getD 0)=(ps[i]?.getD 0))∧Below W2.heap.size W2 wr
theorem zlq{l ps:List Int}(hl:l.length=ps.length)(h:∀i,i<l.length→l[i]?.getD 0=ps[i]?.getD 0):l=ps:=by
 apply List.ext_getElem hl;intro i h1 h2;have:=h i h1
 rwa [List.getElem?_eq_getElem h1,List.getElem?_eq_getElem h2]at this
theorem zo9{n:Nat}{Wg:World}(ih:PsC n Wg)(kd:Int)(r nm:ByteArray)(d:Int)(a:Option Addr)(len cap:Nat)(l:List Ex)(ps:List Int)(own:Int)(w:World)(Yt:0≤kd)(Yy:kd≤255)(hs:shpL kd=some (ps,own))(hl:l.length=len)(ZC:len≤1000)(hg:zhp Wg)(hb:Below Wg.heap.size Wg w)
 (S9:∀y ∈ l,KOk n y) (hzy:∀y ∈ l,y.size≤1000) (YY:∀y ∈ l,∃dd,SmX dd y)
 (ZB:len=0∨∃g o,a=some ⟨g,o,none⟩∧g<w.heap.size∧∀i (hi:i<l.length),∃cs',(∀j,j<5→w.cell? ⟨g,o+i*5+j,none⟩=cs'[j]?)∧ExAt n w cs' l[i]) :
 Calls Tryz.prog 82 #[.agg #[.int .u8 kd,.string r,.string nm,.int .i64 d,.slice a len cap]] w (U8P w (srtP kd r nm d (l.map Ex.srt))):=by
 obtain⟨W0,Z3⟩:∃W0,W0=w.alloc (.cells #[.int .u8 kd,.string r,.string nm,.int .i64 d,.slice a len cap] 25):=⟨_,rfl⟩
 have ZP:Below w.heap.size w W0:=by rw[Z3];exact zaf w _
 have ZZ:W0.heap[w.heap.size]?=some (.cells #[.int .u8 kd,.string r,.string nm,.int .i64 d,.slice a len cap] 25):=by rw[Z3];exact heap_alloc_new w _
 have VG:Below Wg.heap.size Wg W0:=hb.trans (ZP.mono hb.size);obtain⟨bm,hc,VK⟩:=hg;obtain⟨gs,os,cs,Uy,Wj,ZM⟩:=(VK kd Yt Yy).2 ps own hs;have hlook:=Wj W0 VG;have hgc:W0.cell? ⟨0,0,none⟩=some (.map (some bm)):=((zfx VG).1 _ _ (zp3 (a:=⟨_,0,none⟩) hc)).trans hc
 have HPC:Hid (∀W,Below Wg.heap.size Wg W→∀i,i<ps.length→W.cell? ⟨gs,os+i,none⟩=some (.int .u8 (ps[i]?.getD 0))):=fun W hW i hi=>((zfx hW).1 _ _ Uy).trans (ZM i hi)
 obtain⟨m,hm⟩:∃m,m=ps.length:=⟨_,rfl⟩
 rw[←hm]at hlook HPC;have Tb:m≤3:=by rw[hm];exact(zyg hs).2
 obtain⟨bl,ql⟩:∃b,((len:Int) != (m:Int))=b:=⟨_,rfl⟩
 obtain⟨br,qr⟩:∃b,r.toList.isEmpty=b:=⟨_,rfl⟩
 obtain⟨bn,qn⟩:∃b,nm.toList.isEmpty=b:=⟨_,rfl⟩
 obtain⟨bd,qd⟩:∃b,((d:Int) != 0)=b:=⟨_,rfl⟩
 have HQL:Hid (bl=false↔len=m):=by show bl=false↔_;rw[←ql];simp;omega
 have HQB:Hid (zco r nm d=(br && bn && !bd)):=by
  show zco r nm d=_
  unfold zco;rw[←qr,←qn,←qd,zac,zac,bne,Bool.not_not]
 obtain⟨R,hR⟩:∃R,R=srtP kd r nm d (l.map Ex.srt):=⟨_,rfl⟩
 rw[←hR];have HRR:=Z9 hR;have HSH:=Z9 hs;obtain⟨c0,c1,c2,c3,c4⟩:=zae ZZ;have hz:w.heap.size<W0.heap.size:=(Z8 ZZ);have HW0:=Z9 Z3;have HB0:=Z9 ZP;have HBG:=Z9 VG;have HBX:=Z9 ZZ;have HM:=Z9 hm;have HL:=Z9 hl;have HI:=Z9 ih;have HKO:=Z9 S9;have HZY:=Z9 hzy;have HSE:=Z9 YY;have ZI:=Z9 ZB;obtain⟨W1,X8⟩:∃W1,W1=W0.alloc (.cells #[.slice (some ⟨gs,os,none⟩) m cs,.int .u8 own] 161):=⟨_,rfl⟩
 have X7:Below w.heap.size w W1:=by rw[X8];exact ZP.alloc ZP.size _
 have hsb:W1.heap[W0.heap.size]?=some (.cells #[.slice (some ⟨gs,os,none⟩) m cs,.int .u8 own] 161):=by rw[X8];exact heap_alloc_new W0 _
 have hbx1:W1.heap[w.heap.size]?=some (.cells #[.int .u8 kd,.string r,.string nm,.int .i64 d,.slice a len cap] 25):=by rw[X8];exact(Below.heap_alloc W0 _ _ hz).trans ZZ
 have HB1:=Z9 X7;have HSB:=Z9 hsb;have HBX1:=Z9 hbx1;have HG1:Hid (Below Wg.heap.size Wg W1):=hb.trans (X7.mono hb.size);have YE:=Z9 X8;have ZO:W0.heap.size<W1.heap.size:=(Z8 hsb);clear hR Z3 ZP ZZ VG hc VK hs hl hb Yt Yy Wj ZM hm ih S9 hzy YY ZB X7 hsb hbx1 Uy X8;go_enter Tryz.func82,Tryz.ntmps82
 go_upto_region 1 with(fail)
 rw[←HW0.out];clear HW0
 go_upto_region 2 with(fail)
 rw[←YE.out];clear YE c0 c1 c2 c3 c4;obtain⟨c0,c1,c2,c3,c4⟩:=zae HBX1.out;have s0:W1.cell? ⟨W0.heap.size,0,none⟩=some (.slice (some ⟨gs,os,none⟩) m cs):=zg2 HSB.out 0;have s1:W1.cell? ⟨W0.heap.size,1,none⟩=some (.int .u8 own):=zg2 HSB.out 1
 cases bl with
 |true =>
  have e:R=0:=by
   rw[HRR.out]
   exact zcc HSH.out (zcd (by
    rw[List.length_map,HL.out,←HM.out]
    intro h;have:=HQL.out.2 h;cases this))
  have E:=Z9 e;clear e;go_wp2_with fail;go_ret;exact⟨by rw[E.out];rfl,HB1.out⟩
 |false =>
 cases br with
 |false =>
  have e:R=0:=by rw[HRR.out];exact zc7 HSH.out (by rw[HQB.out];rfl)
  have E:=Z9 e;clear e;go_wp2_with fail;go_ret;exact⟨by rw[E.out];rfl,HB1.out⟩
 |true =>
 cases bn with
 |false =>
  have e:R=0:=by rw[HRR.out];exact zc7 HSH.out (by rw[HQB.out];rfl)
  have E:=Z9 e;clear e;go_wp2_with fail;go_ret;exact⟨by rw[E.out];rfl,HB1.out⟩
 |true =>
 cases bd with
 |true =>
  have e:R=0:=by rw[HRR.out];exact zc7 HSH.out (by rw[HQB.out];rfl)
  have E:=Z9 e;clear e;go_wp2_with fail;go_ret;exact⟨by rw[E.out];rfl,HB1.out⟩
 |false =>
 have hlm:len=m:=HQL.out.1 rfl
 have HBA:Hid (zco r nm d=true):=by show _=true;rw[HQB.out];rfl
 have HLM:=Z9 hlm;clear hlm;go_wp2_with fail;go_loopw [5,6,43] (fun _ _ iv wr=>PsR W1 l ps len iv wr) (fun _ _ iv _=>len-(intOf iv).toNat)
 case atStart=>exact⟨0,Nat.zero_le _,rfl,Z9 (fun i h=>absurd h (Nat.not_lt_zero _)),Below.refl _ _⟩
 case round =>
  obtain⟨w1,rfl⟩:∃w1:World,w1=wr:=⟨_,rfl⟩
  obtain⟨k,hk,rfl,HK,hb⟩:=hrel;have HB:=Z9 hb;have HBW:=Z9 (HB1.out.trans (hb.mono HB1.out.size));have Yr:w1.cell? ⟨W0.heap.size,0,none⟩=some (.slice (some ⟨gs,os,none⟩) m cs):=((zfx hb).1 _ _ ZO).trans s0;have Y9:w1.cell? ⟨W0.heap.size,1,none⟩=some (.int .u8 own):=((zfx hb).1 _ _ ZO).trans s1;clear hb c0 c1 c2 c3 c4 s0 s1
  by_cases Z7:k<len
  ·have ZX:k<l.length:=by rw[HL.out];exact Z7
   rcases ZI.out with h0 |⟨g,o,ha,hg,Zq⟩
   ·omega
   ·subst ha
    obtain⟨p1,l1,cc,⟨e0,e1,e2,e3,e4⟩,ZJ⟩:=ExAt.elem (x:=Ex.mk 0 ByteArray.empty ByteArray.empty 0 l) hg HBW.out ZX Zq;have hym:l[k] ∈ l:=List.getElem_mem _;simp only[Ex.sub]at e0 e1 e2 e3 ZJ;have hsk:(l.map Ex.srt)[k]?.getD 0=l[k].srt:=by rw[List.getElem?_map,List.getElem?_eq_getElem ZX];rfl
    obtain⟨y,hy⟩:∃y,y=l[k]:=⟨_,rfl⟩
    rw[←hy]at e0 e1 e2 e3 ZJ hym hsk;obtain⟨V,hV⟩:∃V,V=w1.alloc (.cells #[.int .u8 y.kind,.string y.rat,.string y.name,.int .i64 y.date,.slice p1 l1 cc] 25):=⟨_,rfl⟩
    have hbv:V.heap[w1.heap.size]?=some (.cells #[.int .u8 y.kind,.string y.rat,.string y.name,.int .i64 y.date,.slice p1 l1 cc] 25):=by rw[hV];exact heap_alloc_new w1 _
    have hBV:Below w1.heap.size w1 V:=by rw[hV];exact zaf w1 _
    have ZN:W0.heap.size<w1.heap.size:=Nat.lt_of_lt_of_le ZO HB.out.size;have Xj:Below Wg.heap.size Wg V:=HG1.out.trans ((HB.out.trans (hBV.mono HB.out.size)).mono HG1.out.size);obtain⟨p,hp⟩:∃p,p=ps[k]?.getD 0:=⟨_,rfl⟩
    have Vp:k<m:=by rw[←HLM.out];exact Z7
    have SBf:∀W,Below V.heap.size V W→W.cell? ⟨w1.heap.size,0,none⟩=some (.int .u8 y.kind)∧W.cell? ⟨w1.heap.size,1,none⟩=some (.string y.rat)∧W.cell? ⟨w1.heap.size,2,none⟩=some (.string y.name)∧W.cell? ⟨w1.heap.size,3,none⟩=some (.int .i64 y.date)∧W.cell? ⟨w1.heap.size,4,none⟩=some (.slice p1 l1 cc) ∧
     W.cell? ⟨W0.heap.size,0,none⟩=some (.slice (some ⟨gs,os,none⟩) m cs)∧W.cell? ⟨gs,os+k,none⟩=some (.int .u8 p):=fun W hW=>by
     obtain⟨q0,q1,q2,q3,q4⟩:=zae ((hW.block _ (Z8 hbv)).trans hbv);have hVW:Below w1.heap.size w1 W:=hBV.trans (hW.mono hBV.size);exact⟨q0,q1,q2,q3,q4,((zfx hVW).1 _ _ ZN).trans Yr,by rw[hp];exact HPC.out W (Xj.trans (hW.mono Xj.size)) k Vp⟩
    have hcall:∀W,Below V.heap.size V W→Calls Tryz.prog 82 #[.agg #[.int .u8 y.kind,.string y.rat,.string y.name,.int .i64 y.date,.slice p1 l1 cc]] W (U8P W y.srt):=fun W hW=>by
     have hVW:Below w1.heap.size w1 W:=hBV.trans (hW.mono hBV.size);have:=HI.out y _ W (ExAt.below hVW ZJ) (HKO.out y hym) (HZY.out y hym) (HSE.out y hym) (Xj.trans (hW.mono Xj.size))
     rwa [←Ex.srt_is]at this
    obtain⟨s,hs⟩:∃s,s=y.srt:=⟨_,rfl⟩
    rw[←hs]at hcall hsk;have HSF:=Z9 SBf;have YR:=Z9 hcall;have HSK:=Z9 hsk;have HP:=Z9 hp;have HV:=Z9 hV;have HBV:=Z9 hBV;have HC0:Hid (Below V.heap.size V V):=Below.refl _ V;have HC:Hid (Below V.heap.size V V.drew):=(Below.refl _ V).drew;have UW:(0:Int)≤(k:Int):=by omega
    have UA:(k:Int)<(m:Int):=by omega
    by_cases V3:s=p
    ·have qsp:((s:Int) != (p:Int))=false:=zwo V3
     have HSP:=Z9 V3;clear Zq ZJ hym hy hbv hBV Xj SBf hcall hsk hs hp hV V3 Yr Y9
     go_upto_region 9 with(fail)
     rw[←HV.out];clear HV e0 e1 e2 e3 e4;obtain⟨q0,q1,q2,q3,q4,q5,q6⟩:=HSF.out V HC0.out
     go_region_held3 (fun W=>W.cell? ⟨w1.heap.size,0,none⟩=some (.int .u8 y.kind)∧W.cell? ⟨w1.heap.size,1,none⟩=some (.string y.rat)∧W.cell? ⟨w1.heap.size,2,none⟩=some (.string y.name)∧W.cell? ⟨w1.heap.size,3,none⟩=some (.int .i64 y.date)∧W.cell? ⟨w1.heap.size,4,none⟩=some (.slice p1 l1 cc) ∧
      W.cell? ⟨W0.heap.size,0,none⟩=some (.slice (some ⟨gs,os,none⟩) m cs)∧W.cell? ⟨gs,os+k,none⟩=some (.int .u8 p))
      ((first |with_reducible exact HSF.out _ HC.out |with_reducible exact HSF.out _ HC0.out))
      ((go_at_call 82;refine(YR.out _ HC.out).mono ?_;rintro e u ⟨rfl,hb⟩;have HC:=Z9 (HC.out.trans (hb.mono HC.out.size));clear hb))
     have HNX:=Z9 ((HB.out.trans (HBV.out.mono HB.out.size)).trans (HC.out.mono (Nat.le_trans HB.out.size HBV.out.size)));clear q0 q1 q2 q3 q4 q5 q6;go_wp2_with fail;go_roundw
     case rel=>exact⟨k+1,by omega,by go_num,Z9 (fun i hi=>by
      rcases Nat.lt_or_ge i k with h |h
      ·exact HK.out i h
      ·obtain rfl:i=k:=by omega
       rw[HSK.out,←HP.out];exact HSP.out),HNX.out⟩
     case measure=>simp[intOf]<;>omega
    ·have qsp:((s:Int) != (p:Int))=true:=zzy V3
     have e:R=0:=by
      rw[HRR.out];exact zcc HSH.out (zbe (i:=k) (by rw[HSK.out,←HP.out];exact V3))
     have E:=Z9 e;clear Zq ZJ hym hy hbv hBV Xj SBf hcall hsk hs hp hV V3 Yr Y9 e
     go_upto_region 9 with(fail)
     rw[←HV.out];clear HV e0 e1 e2 e3 e4;obtain⟨q0,q1,q2,q3,q4,q5,q6⟩:=HSF.out V HC0.out
     go_region_held3 (fun W=>W.cell? ⟨w1.heap.size,0,none⟩=some (.int .u8 y.kind)∧W.cell? ⟨w1.heap.size,1,none⟩=some (.string y.rat)∧W.cell? ⟨w1.heap.size,2,none⟩=some (.string y.name)∧W.cell? ⟨w1.heap.size,3,none⟩=some (.int .i64 y.date)∧W.cell? ⟨w1.heap.size,4,none⟩=some (.slice p1 l1 cc) ∧
      W.cell? ⟨W0.heap.size,0,none⟩=some (.slice (some ⟨gs,os,none⟩) m cs)∧W.cell? ⟨gs,os+k,none⟩=some (.int .u8 p))
      ((first |with_reducible exact HSF.out _ HC.out |with_reducible exact HSF.out _ HC0.out))
      ((go_at_call 82;refine(YR.out _ HC.out).mono ?_;rintro e u ⟨rfl,hb⟩;have HC:=Z9 (HC.out.trans (hb.mono HC.out.size));clear hb))
     have HNX:=Z9 (HB1.out.trans (((HB.out.trans (HBV.out.mono HB.out.size)).trans (HC.out.mono (Nat.le_trans HB.out.size HBV.out.size))).mono HB1.out.size));clear q0 q1 q2 q3 q4 q5 q6;go_wp2_with fail;go_ret;exact⟨by rw[E.out];rfl,HNX.out⟩
  ·have e:R=own:=by
    rw[HRR.out];refine zfj HSH.out HBA.out (zlq (by rw[List.length_map,HL.out,HLM.out,HM.out]) (fun i hi=>HK.out i ?_));rw[List.length_map,HL.out]at hi;omega
   have E:=Z9 e;clear e;go_wp2_with fail;go_ret;exact⟨by rw[E.out];rfl,HBW.out⟩
theorem zvp{Wg:World}(hg:zhp Wg):∀n,PsC n Wg:=by
 intro n
 induction n with
 |zero=>intro x cs w h;exact h.elim
 |succ n ih =>
  intro x cs w h hk hz Zh hb;obtain⟨W7,S9⟩:=hk;obtain⟨k,r,nm,d,l⟩:=x;have hsl:=(Ex.mk k r nm d l).sub_len;obtain⟨a,len,cap,rfl,Z5,ZB⟩:=h;obtain⟨Xb,YY⟩:=zch Zh
  cases hs:shpL k with
  |none=>exact zso k r nm d a len cap l w Wg W7.1 W7.2 hs Xb.1 Z5 hg hb
  |some q =>
   obtain⟨ps,own⟩:=q;exact zo9 ih k r nm d a len cap l ps own w W7.1 W7.2 hs Z5 (by omega) hg hb S9 (fun y hy=>by have:=Ex.sub_size (x:=Ex.mk k r nm d l) hy;omega) YY ZB
theorem zuz:∀n,RsC n:=by
 intro n
 induction n with
 |zero=>intro x cs w h;exact h.elim
 |succ n ih =>
  intro x cs w h hz Zh;obtain⟨k,r,nm,d,l⟩:=x
  show Calls Tryz.prog 81 #[.agg cs.toArray] w (IntP w (srtP k r nm d (l.map Ex.srt)))
  by_cases h1:k=1
  ·subst h1;exact z2u ih r nm d l cs w h hz Zh
  by_cases h2:k=2
  ·subst h2;exact z2t ih r nm d l cs w h hz Zh
  by_cases h3:k=3
  ·subst h3;exact z2s ih r nm d l cs w h hz Zh
  by_cases h4:k<4
  ·exact zyj ih k h4 h1 h2 h3 r nm d l cs w h hz Zh
  by_cases h8:k≤8
  ·exact z2q ih k (by omega) h8 r nm d l cs w h hz Zh
  by_cases h9:k=9
  ·subst h9;exact z2r ih r nm d l cs w h hz Zh
  by_cases Un:k=11
  ·subst Un;exact zyp ih r nm d l cs w h hz Zh
  by_cases h12:k=12
  ·subst h12;exact zyo ih r nm d l cs w h hz Zh
  by_cases Tw:k=13
  ·subst Tw;exact zyn ih r nm d l cs w h hz Zh
  by_cases h14:k=14
  ·subst h14;exact zym ih r nm d l cs w h hz Zh
  by_cases h15:k=15
  ·subst h15;exact zyl ih r nm d l cs w h hz Zh
  exact zyk ih k (by omega) r nm d l cs w h hz Zh
def chkX(x:Ex):Int:=if 500<x.size∨60<x.depth then 4 else if x.srt=0 then 8 else 0
structure ExIn(n:Nat)(x:Ex)(cs:List Value)(w Wg:World):Prop where
 at_:ExAt n w cs x
 kok:KOk n x
 size:x.size≤1000
 small:SmX 900 x
 shp:zhp Wg
 old:Below Wg.heap.size Wg w
def SzRW(W0:World)(l:List Ex)(nv iv:Value)(wr:World):Prop :=
 ∃(k s:Nat),k≤l.length∧iv=.int .i64 (k:Int)∧nv=.int .i64 (s:Int)∧s≤100000∧Hid (s=1+((l.take k).map Ex.size).sum)∧Below W0.heap.size W0 wr
theorem zmi(l:List Ex)(k:Nat)(hk:k<l.length):((l.take (k+1)).map Ex.size).sum=((l.take k).map Ex.size).sum+l[k].size:=by
 rw[List.take_succ_eq_append_getElem hk,List.map_append,List.sum_append,List.map_singleton,List.sum_singleton]
theorem zmj(l:List Ex)(k:Nat):((l.take k).map Ex.size).sum≤(l.map Ex.size).sum:=by
 have h:(l.map Ex.size).sum=((l.take k).map Ex.size).sum+((l.drop k).map Ex.size).sum:=by
  rw[←List.sum_append,←List.map_append,List.take_append_drop]
 omega
theorem zow:∀(n:Nat)(x:Ex)(cs:List Value)(w:World),ExAt n w cs x→x.size≤100000→Calls Tryz.prog 79 #[.agg cs.toArray] w (IntP w (x.size:Int)):=by
 intro n
 induction n with
 |zero=>intro x cs w h;exact h.elim
 |succ n ih =>
  intro x cs w h hz;obtain⟨a,len,cap,rfl,Z5,ZF⟩:=h;have hsl:=x.sub_len;have ZC:len≤100000:=by omega
  obtain⟨Z,hZ⟩:∃Z,Z=x.size:=⟨_,rfl⟩
  have HI:=Z9 ih;have HS:=Z9 ZF;have HLEN:=Z9 Z5;have HZZ:Hid (Z=x.size∧x.size≤100000):=⟨hZ,hz⟩;rw[←hZ];clear ih ZF Z5 hz hsl hZ;go_enter Tryz.func79,Tryz.ntmps79;go_wp2_with fail;obtain⟨W0,Z3⟩:∃W0,W0=w.alloc (.cells #[.int .u8 x.kind,.string x.rat,.string x.name,.int .i64 x.date,.slice a len cap] 25):=⟨_,rfl⟩
  have ZZ:W0.heap[w.heap.size]?=some (.cells #[.int .u8 x.kind,.string x.rat,.string x.name,.int .i64 x.date,.slice a len cap] 25):=by rw[Z3];show(w.heap.push _)[w.heap.size]?=_;simp
  have ZP:Below w.heap.size w W0:=by rw[Z3];exact zaf w _
  have Zo:w.heap.size<W0.heap.size:=(Z8 ZZ);rw[←Z3];have HBX:=Z9 ZZ;have HB0:=Z9 ZP;clear Z3 ZZ ZP;go_loopw [3,4] (fun nv iv wr=>SzRW W0 x.sub nv iv wr) (fun _ iv _=>len-(intOf iv).toNat)
  case atStart=>exact⟨0,1,Nat.zero_le _,rfl,rfl,by omega,Z9 (by simp),Below.refl _ _⟩
  case round =>
   obtain⟨w1,rfl⟩:∃w1:World,w1=wr:=⟨_,rfl⟩
   obtain⟨k,s,hk,rfl,rfl,Y9,HK,hb⟩:=hrel;have HBW:=Z9 (HB0.out.trans (hb.mono HB0.out.size));obtain⟨c0,c1,c2,c3,c4⟩:=zae ((hb.block _ Zo).trans HBX.out);have hkl:k≤len:=by rw[←HLEN.out];exact hk
   have HB:=Z9 hb;clear hb hk
   by_cases Z7:k<len
   ·have ZX:k<x.sub.length:=by rw[HLEN.out];exact Z7
    rcases HS.out with h0 |⟨g,o,ha,hg,Zq⟩
    ·omega
    ·subst ha
     have HE:=Z9 Zq;clear Zq;obtain⟨p1,l1,cc,X0,ZJ⟩:=ExAt.elem hg HBW.out ZX HE.out;have HT:=Z9 (zmi x.sub k ZX);have hym:x.sub[k] ∈ x.sub:=List.getElem_mem _;have Xu:=Ex.sub_size hym;obtain⟨y,hy⟩:∃y,y=x.sub[k]:=⟨_,rfl⟩
     rw[←hy]at X0 ZJ Xu HT
     have hsy:s+y.size≤100000:=by
      have q1:=zmj x.sub (k+1);have q2:=HT.out;have q3:=HK.out;have q4:=Ex.size_is x;have q5:=HZZ.out.2;omega
     have hyz:y.size≤100000:=by omega
     obtain⟨Y,hY⟩:∃Y,Y=y.size:=⟨_,rfl⟩
     have HC:=Z9 (HI.out y _ _ ZJ hyz);have HBA:=Z9 HB.out;rw[←hY]at HC hsy hyz;have HYY:=Z9 hY;obtain⟨e0,e1,e2,e3,e4⟩:=X0;clear ZJ hym Xu hy hY;go_wp2_with fail;refine HC.out.mono ?_;rintro e w2 ⟨rfl,ZS⟩;have HB2:=Z9 (HBA.out.trans (ZS.mono HBA.out.size));clear ZS;go_wp2_with fail;go_roundw
     case rel=>exact⟨k+1,s+Y,ZX,by go_num,by go_num,hsy,Z9 (by rw[HT.out,HK.out,HYY.out];omega),HB2.out⟩
     case measure=>simp[intOf]<;>omega
   ·have YV:k=x.sub.length:=by rw[HLEN.out];omega
    have hsZ:s=Z:=by rw[HK.out,HZZ.out.1,YV,List.take_length,Ex.size_is]
    subst hsZ;clear YV HK;go_wp2_with fail;go_ret;exact⟨rfl,HBW.out⟩
theorem zpa:∀(n:Nat)(x:Ex)(cs:List Value)(w:World),ExAt n w cs x→x.size≤100000→Calls Tryz.prog 90 #[.agg cs.toArray] w (IntP w (x.size:Int)):=by
 intro n
 induction n with
 |zero=>intro x cs w h;exact h.elim
 |succ n ih =>
  intro x cs w h hz;obtain⟨a,len,cap,rfl,Z5,ZF⟩:=h;have hsl:=x.sub_len;have ZC:len≤100000:=by omega
  obtain⟨Z,hZ⟩:∃Z,Z=x.size:=⟨_,rfl⟩
  have HI:=Z9 ih;have HS:=Z9 ZF;have HLEN:=Z9 Z5;have HZZ:Hid (Z=x.size∧x.size≤100000):=⟨hZ,hz⟩;rw[←hZ];clear ih ZF Z5 hz hsl hZ;go_enter Tryz.func90,Tryz.ntmps90;go_wp2_with fail;obtain⟨W0,Z3⟩:∃W0,W0=w.alloc (.cells #[.int .u8 x.kind,.string x.rat,.string x.name,.int .i64 x.date,.slice a len cap] 25):=⟨_,rfl⟩
  have ZZ:W0.heap[w.heap.size]?=some (.cells #[.int .u8 x.kind,.string x.rat,.string x.name,.int .i64 x.date,.slice a len cap] 25):=by rw[Z3];show(w.heap.push _)[w.heap.size]?=_;simp
  have ZP:Below w.heap.size w W0:=by rw[Z3];exact zaf w _
  have Zo:w.heap.size<W0.heap.size:=(Z8 ZZ);rw[←Z3];have HBX:=Z9 ZZ;have HB0:=Z9 ZP;clear Z3 ZZ ZP;go_loopw [3,9] (fun nv iv wr=>SzRW W0 x.sub nv iv wr) (fun _ iv _=>len-(intOf iv).toNat)
  case atStart=>exact⟨0,1,Nat.zero_le _,rfl,rfl,by omega,Z9 (by simp),Below.refl _ _⟩
  case round =>
   obtain⟨w1,rfl⟩:∃w1:World,w1=wr:=⟨_,rfl⟩
   obtain⟨k,s,hk,rfl,rfl,Y9,HK,hb⟩:=hrel;have HBW:=Z9 (HB0.out.trans (hb.mono HB0.out.size));obtain⟨c0,c1,c2,c3,c4⟩:=zae ((hb.block _ Zo).trans HBX.out);have hkl:k≤len:=by rw[←HLEN.out];exact hk
   have HB:=Z9 hb;clear hb hk
   by_cases Z7:k<len
   ·have ZX:k<x.sub.length:=by rw[HLEN.out];exact Z7
    rcases HS.out with h0 |⟨g,o,ha,hg,Zq⟩
    ·omega
    ·subst ha
     have HE:=Z9 Zq;clear Zq;obtain⟨p1,l1,cc,X0,ZJ⟩:=ExAt.elem hg HBW.out ZX HE.out;have HT:=Z9 (zmi x.sub k ZX);have hym:x.sub[k] ∈ x.sub:=List.getElem_mem _;have Xu:=Ex.sub_size hym;obtain⟨y,hy⟩:∃y,y=x.sub[k]:=⟨_,rfl⟩
     rw[←hy]at X0 ZJ Xu HT
     have hsy:s+y.size≤100000:=by
      have q1:=zmj x.sub (k+1);have q2:=HT.out;have q3:=HK.out;have q4:=Ex.size_is x;have q5:=HZZ.out.2;omega
     have hyz:y.size≤100000:=by omega
     obtain⟨Y,hY⟩:∃Y,Y=y.size:=⟨_,rfl⟩
     have hxa:=ExAt.below (zaf w1 (.cells #[.int .u8 y.kind,.string y.rat,.string y.name,.int .i64 y.date,.slice p1 l1 cc] 25)) ZJ;have HC:=Z9 (HI.out y _ _ hxa hyz);have HBA:=Z9 (HB.out.alloc HB.out.size (.cells #[.int .u8 y.kind,.string y.rat,.string y.name,.int .i64 y.date,.slice p1 l1 cc] 25));clear hxa;rw[←hY]at HC hsy hyz;have HYY:=Z9 hY;obtain⟨e0,e1,e2,e3,e4⟩:=X0;clear ZJ hym Xu hy hY;go_wp2_with fail;refine HC.out.mono ?_;rintro e w2 ⟨rfl,ZS⟩;have HB2:=Z9 (HBA.out.trans (ZS.mono HBA.out.size));clear ZS;go_wp2_with fail;go_roundw
     case rel=>exact⟨k+1,s+Y,ZX,by go_num,by go_num,hsy,Z9 (by rw[HT.out,HK.out,HYY.out];omega),HB2.out⟩
     case measure=>simp[intOf]<;>omega
   ·have YV:k=x.sub.length:=by rw[HLEN.out];omega
    have hsZ:s=Z:=by rw[HK.out,HZZ.out.1,YV,List.take_length,Ex.size_is]
    subst hsZ;clear YV HK;go_wp2_with fail;go_ret;exact⟨rfl,HBW.out⟩
theorem Ex.depth_le:∀(x:Ex),x.depth≤x.size
 | .mk k r n d l=>by
  rw[Ex.depth_is,Ex.size_is]
  show 1+maxD l≤1+(l.map Ex.size).sum
  have h:maxD l≤(l.map Ex.size).sum:=z3x fun y hy=>by
   have h1:=Ex.depth_le y;obtain⟨i,hi,rfl⟩:=List.getElem_of_mem hy
   have h2:l.map Ex.size=(l.take i).map Ex.size ++ (l[i].size :: (l.drop (i+1)).map Ex.size):=by
    rw[←List.map_cons,←List.drop_eq_getElem_cons hi,←List.map_append,List.take_append_drop]
   rw[h2,List.sum_append,List.sum_cons];omega
  omega
termination_by x=>SizeOf.sizeOf x
decreasing_by
 have:=List.sizeOf_lt_of_mem hy;simp only[Ex.mk.sizeOf_spec];omega
structure ExW(n:Nat)(x:Ex)(cs:List Value)(w Wg:World):Prop where
 at_:ExAt n w cs x
 kok:KOk n x
 size:x.size≤100000
 small:∃d,SmX d x
 shp:zhp Wg
 old:Below Wg.heap.size Wg w
theorem ExW.below{n:Nat}{x:Ex}{cs:List Value}{w w' Wg:World}(h:ExW n x cs w Wg)(hb:Below w.heap.size w w'):ExW n x cs w' Wg :=
 ⟨ExAt.below hb h.at_,h.kok,h.size,h.small,h.shp,h.old.trans (hb.mono h.old.size)⟩
theorem zvl(n:Nat)(x:Ex)(cs:List Value)(w Wg:World)(h:ExW n x cs w Wg):Calls Tryz.prog 37 #[.agg cs.toArray] w (IntP w (chkX x)):=by
 have Xn:=h.at_.shape;obtain⟨a,len,cap,rfl,_⟩:=Xn;obtain⟨W0,Z3⟩:∃W0,W0=w.alloc (.cells #[.int .u8 x.kind,.string x.rat,.string x.name,.int .i64 x.date,.slice a len cap] 25):=⟨_,rfl⟩
 have ZP:Below w.heap.size w W0:=by rw[Z3];exact zaf w _
 have ZZ:W0.heap[w.heap.size]?=some (.cells #[.int .u8 x.kind,.string x.rat,.string x.name,.int .i64 x.date,.slice a len cap] 25):=by rw[Z3];exact heap_alloc_new w _
 have h0:=h.below ZP;have Wd:=x.depth_le
 have HC:∀W,Below W0.heap.size W0 W→_:=fun W hW=>zae ((hW.block _ (Z8 ZZ)).trans ZZ)
 have HSZ:Hid (∀W,Below W0.heap.size W0 W→Calls Tryz.prog 79 #[.agg #[.int .u8 x.kind,.string x.rat,.string x.name,.int .i64 x.date,.slice a len cap]] W (IntP W (x.size:Int))):=fun W hW=>zow n x _ W (ExAt.below hW h0.at_) h.size
 have HDP:Hid (x.size≤500→∀W,Below W0.heap.size W0 W→Calls Tryz.prog 80 #[.agg #[.int .u8 x.kind,.string x.rat,.string x.name,.int .i64 x.date,.slice a len cap]] W (IntP W (x.depth:Int))):=fun Sn W hW=>zsi n x _ W (ExAt.below hW h0.at_) (by omega) (by omega)
 have ZA:Hid (x.size≤500→∀W,Below W0.heap.size W0 W→Calls Tryz.prog 81 #[.agg #[.int .u8 x.kind,.string x.rat,.string x.name,.int .i64 x.date,.slice a len cap]] W (IntP W x.srt)):=fun Sn W hW=>by
  have:=zuz n x _ W (ExAt.below hW h0.at_) (by omega) h.small
  rwa [←Ex.srt_is]at this
 obtain⟨R,hR⟩:∃R,R=chkX x:=⟨_,rfl⟩
 rw[←hR];have HRR:=Z9 hR;have HW0:=Z9 Z3;have HB0:=Z9 ZP;have HCC:=Z9 HC;obtain⟨c0,c1,c2,c3,c4⟩:=HC W0 (Below.refl _ _);obtain⟨sz,Zo⟩:∃q,q=x.size:=⟨_,rfl⟩
 obtain⟨dp,Xh⟩:∃q,q=x.depth:=⟨_,rfl⟩
 obtain⟨st,Zr⟩:∃q,q=x.srt:=⟨_,rfl⟩
 have hcx:R=if 500<sz∨60<dp then 4 else if st=0 then 8 else 0:=by rw[hR,Zo,Xh,Zr];rfl
 have hszb:sz≤100000:=by rw[Zo];exact h.size
 rw[←Zo]at HSZ HDP ZA Wd;rw[←Xh]at HDP Wd;rw[←Zr]at ZA;have HCX:=Z9 hcx;clear hR Z3 ZP HC h0 h ZZ Zo Xh Zr hcx
 by_cases h5:500<sz
 ·have e:R=4:=by rw[HCX.out,if_pos (.inl h5)]
  have E:=Z9 e;clear e;go_enter Tryz.func37,Tryz.ntmps37;go_wp2_with fail;rw[←HW0.out];refine(HSZ.out _ (Below.refl _ _)).mono ?_;rintro e w1 ⟨rfl,hb⟩;have HB:=Z9 (HB0.out.trans (hb.mono HB0.out.size));clear hb c0 c1 c2 c3 c4;have d5:decide ((500:Int)<(sz:Int))=true:=by simp;omega
  go_wp2_with fail;go_ret;exact⟨by rw[E.out];rfl,HB.out⟩
 ·by_cases h6:60<dp
  ·have e:R=4:=by rw[HCX.out,if_pos (.inr h6)]
   have E:=Z9 e;clear e;go_enter Tryz.func37,Tryz.ntmps37;go_wp2_with fail;rw[←HW0.out];refine(HSZ.out _ (Below.refl _ _)).mono ?_;rintro e w1 ⟨rfl,hb⟩;have HB1:=Z9 hb;clear hb c0 c1 c2 c3 c4;obtain⟨c0,c1,c2,c3,c4⟩:=HCC.out w1 HB1.out;have d5:decide ((500:Int)<(sz:Int))=false:=by simp;omega
   go_wp2_with fail;refine(HDP.out (by omega) _ HB1.out).mono ?_;rintro e w2 ⟨rfl,hb⟩;have HB:=Z9 (HB0.out.trans ((HB1.out.trans (hb.mono HB1.out.size)).mono HB0.out.size));clear hb c0 c1 c2 c3 c4;have d6:decide ((60:Int)<(dp:Int))=true:=by simp;omega
   go_wp2_with fail;go_ret;exact⟨by rw[E.out];rfl,HB.out⟩
  ·have e:R=if st=0 then 8 else 0:=by rw[HCX.out,if_neg (by omega)]
   have E:=Z9 e;clear e;go_enter Tryz.func37,Tryz.ntmps37;go_wp2_with fail;rw[←HW0.out];refine(HSZ.out _ (Below.refl _ _)).mono ?_;rintro e w1 ⟨rfl,hb⟩;have HB1:=Z9 hb;clear hb c0 c1 c2 c3 c4;obtain⟨c0,c1,c2,c3,c4⟩:=HCC.out w1 HB1.out;have d5:decide ((500:Int)<(sz:Int))=false:=by simp;omega
   go_wp2_with fail;refine(HDP.out (by omega) _ HB1.out).mono ?_;rintro e w2 ⟨rfl,hb⟩;have HB2:=Z9 (HB1.out.trans (hb.mono HB1.out.size));clear hb c0 c1 c2 c3 c4;obtain⟨c0,c1,c2,c3,c4⟩:=HCC.out w2 HB2.out;have d6:decide ((60:Int)<(dp:Int))=false:=by simp;omega
   go_wp2_with fail;refine(ZA.out (by omega) _ HB2.out).mono ?_;rintro e w3 ⟨rfl,hb⟩;have HB:=Z9 (HB0.out.trans ((HB2.out.trans (hb.mono HB2.out.size)).mono HB0.out.size));clear hb c0 c1 c2 c3 c4
   by_cases h0:st=0
   ·have q:((st:Int) == 0)=true:=zaz h0
    have e:R=8:=by rw[E.out,if_pos h0]
    have E2:=Z9 e;clear e h0;go_wp2_with fail;go_ret;exact⟨by rw[E2.out];rfl,HB.out⟩
   ·have q:((st:Int) == 0)=false:=zam h0
    have e:R=0:=by rw[E.out,if_neg h0]
    have E2:=Z9 e;clear e h0;go_wp2_with fail;go_ret;exact⟨by rw[E2.out];rfl,HB.out⟩
theorem zvr(n:Nat)(x:Ex)(cs:List Value)(w Wg:World)(h:ExW n x cs w Wg):Calls Tryz.prog 46 #[.agg cs.toArray] w (IntP w (chkX x)):=by
 have Xn:=h.at_.shape;obtain⟨a,len,cap,rfl,_⟩:=Xn;obtain⟨W0,Z3⟩:∃W0,W0=w.alloc (.cells #[.int .u8 x.kind,.string x.rat,.string x.name,.int .i64 x.date,.slice a len cap] 25):=⟨_,rfl⟩
 have ZP:Below w.heap.size w W0:=by rw[Z3];exact zaf w _
 have ZZ:W0.heap[w.heap.size]?=some (.cells #[.int .u8 x.kind,.string x.rat,.string x.name,.int .i64 x.date,.slice a len cap] 25):=by rw[Z3];exact heap_alloc_new w _
 have h0:=h.below ZP;have Wd:=x.depth_le
 have HC:∀W,Below W0.heap.size W0 W→_:=fun W hW=>zae ((hW.block _ (Z8 ZZ)).trans ZZ)
 have HSZ:Hid (∀W,Below W0.heap.size W0 W→Calls Tryz.prog 90 #[.agg #[.int .u8 x.kind,.string x.rat,.string x.name,.int .i64 x.date,.slice a len cap]] W (IntP W (x.size:Int))):=fun W hW=>zpa n x _ W (ExAt.below hW h0.at_) h.size
 obtain⟨M,hM⟩:∃M,M=min x.depth 61:=⟨_,rfl⟩
 have HDP:Hid (x.size≤500→∀W,Below W0.heap.size W0 W→Calls Tryz.prog 91 #[.agg #[.int .u8 x.kind,.string x.rat,.string x.name,.int .i64 x.date,.slice a len cap],.int .i64 60] W (IntP W (M:Int))):=fun Sn W hW=>by
  have q:=zsq n x _ 60 W (ExAt.below hW h0.at_) (by omega) (by omega) (by omega);rw[hM];exact q
 have ZA:Hid (x.size≤500→∀W,Below W0.heap.size W0 W→Calls Tryz.prog 82 #[.agg #[.int .u8 x.kind,.string x.rat,.string x.name,.int .i64 x.date,.slice a len cap]] W (U8P W x.srt)):=fun Sn W hW=>by
  have:=zvp h.shp n x _ W (ExAt.below hW h0.at_) h.kok (by omega) h.small (h0.old.trans (hW.mono h0.old.size))
  rwa [←Ex.srt_is]at this
 obtain⟨R,hR⟩:∃R,R=chkX x:=⟨_,rfl⟩
 rw[←hR];have HRR:=Z9 hR;have HW0:=Z9 Z3;have HB0:=Z9 ZP;have HCC:=Z9 HC;obtain⟨c0,c1,c2,c3,c4⟩:=HC W0 (Below.refl _ _);obtain⟨sz,Zo⟩:∃q,q=x.size:=⟨_,rfl⟩
 obtain⟨dp,Xh⟩:∃q,q=x.depth:=⟨_,rfl⟩
 obtain⟨st,Zr⟩:∃q,q=x.srt:=⟨_,rfl⟩
 have hcx:R=if 500<sz∨60<dp then 4 else if st=0 then 8 else 0:=by rw[hR,Zo,Xh,Zr];rfl
 have hszb:sz≤100000:=by rw[Zo];exact h.size
 rw[←Zo]at HSZ HDP ZA Wd;rw[←Xh]at Wd hM;have HM:=Z9 hM;have hM61:M≤61:=by omega
 rw[←Zr]at ZA;have HCX:=Z9 hcx;clear hM hR Z3 ZP HC h0 h ZZ Zo Xh Zr hcx
 by_cases h5:500<sz
 ·have e:R=4:=by rw[HCX.out,if_pos (.inl h5)]
  have E:=Z9 e;clear e;go_enter Tryz.func46,Tryz.ntmps46;go_wp2_with fail;rw[←HW0.out];refine(HSZ.out _ (Below.refl _ _)).mono ?_;rintro e w1 ⟨rfl,hb⟩;have HB:=Z9 (HB0.out.trans (hb.mono HB0.out.size));clear hb c0 c1 c2 c3 c4;have d5:decide ((500:Int)<(sz:Int))=true:=by simp;omega
  go_wp2_with fail;go_ret;exact⟨by rw[E.out];rfl,HB.out⟩
 ·by_cases h6:60<dp
  ·have e:R=4:=by rw[HCX.out,if_pos (.inr h6)]
   have E:=Z9 e;clear e;go_enter Tryz.func46,Tryz.ntmps46;go_wp2_with fail;rw[←HW0.out];refine(HSZ.out _ (Below.refl _ _)).mono ?_;rintro e w1 ⟨rfl,hb⟩;have HB1:=Z9 hb;clear hb c0 c1 c2 c3 c4;obtain⟨c0,c1,c2,c3,c4⟩:=HCC.out w1 HB1.out;have d5:decide ((500:Int)<(sz:Int))=false:=by simp;omega
   go_wp2_with fail;refine(HDP.out (by omega) _ HB1.out).mono ?_;rintro e w2 ⟨rfl,hb⟩;have HB:=Z9 (HB0.out.trans ((HB1.out.trans (hb.mono HB1.out.size)).mono HB0.out.size));clear hb c0 c1 c2 c3 c4;have d6:decide ((60:Int)<(M:Int))=true:=by have:=HM.out;simp;omega
   go_wp2_with fail;go_ret;exact⟨by rw[E.out];rfl,HB.out⟩
  ·have e:R=if st=0 then 8 else 0:=by rw[HCX.out,if_neg (by omega)]
   have E:=Z9 e;clear e;go_enter Tryz.func46,Tryz.ntmps46;go_wp2_with fail;rw[←HW0.out];refine(HSZ.out _ (Below.refl _ _)).mono ?_;rintro e w1 ⟨rfl,hb⟩;have HB1:=Z9 hb;clear hb c0 c1 c2 c3 c4;obtain⟨c0,c1,c2,c3,c4⟩:=HCC.out w1 HB1.out;have d5:decide ((500:Int)<(sz:Int))=false:=by simp;omega
   go_wp2_with fail;refine(HDP.out (by omega) _ HB1.out).mono ?_;rintro e w2 ⟨rfl,hb⟩;have HB2:=Z9 (HB1.out.trans (hb.mono HB1.out.size));clear hb c0 c1 c2 c3 c4;obtain⟨c0,c1,c2,c3,c4⟩:=HCC.out w2 HB2.out;have d6:decide ((60:Int)<(M:Int))=false:=by have:=HM.out;simp;omega
   go_wp2_with fail;refine(ZA.out (by omega) _ HB2.out).mono ?_;rintro e w3 ⟨rfl,hb⟩;have HB:=Z9 (HB0.out.trans ((HB2.out.trans (hb.mono HB2.out.size)).mono HB0.out.size));clear hb c0 c1 c2 c3 c4
   by_cases h0:st=0
   ·have q:((st:Int) == 0)=true:=zaz h0
    have e:R=8:=by rw[E.out,if_pos h0]
    have E2:=Z9 e;clear e h0;go_wp2_with fail;go_ret;exact⟨by rw[E2.out];rfl,HB.out⟩
   ·have q:((st:Int) == 0)=false:=zam h0
    have e:R=0:=by rw[E.out,if_neg h0]
    have E2:=Z9 e;clear e h0;go_wp2_with fail;go_ret;exact⟨by rw[E2.out];rfl,HB.out⟩
def TkS(t:Tk):Prop:=t.text.size≤200∧t.rat.size≤2500
def TksS(l:List Tk):Prop:=∀t ∈ l,TkS t
theorem TksS.suf{l l':List Tk}(h:TksS l)(hs:l' <:+ l):TksS l':=fun t ht=>h t (hs.subset ht)
def GdX(x:Ex):Prop:=∃d,SmX d x∧KOk d x
theorem zun:∀{n m:Nat}{x:Ex},n≤m→SmX n x→SmX m x
 |0,_,_,_,h=>h.elim
 |_+1,0,_,hm,_=>absurd hm (by omega)
 |n+1,m+1,_,hm,⟨h1,h2,h3⟩=>⟨h1,h2,fun y hy=>zun (by omega) (h3 y hy)⟩
theorem GdX.list:∀{l:List Ex},(∀y ∈ l,GdX y)→∃d,∀y ∈ l,SmX d y∧KOk d y
 | [],_=>⟨0,fun y h=>by cases h⟩
 |a :: l,h=>by
  obtain⟨d1,h1,h2⟩:=h a (by simp)
  obtain⟨d2,h3⟩:=GdX.list (l:=l) fun y hy=>h y (by simp[hy])
  refine⟨max d1 d2,fun y hy => ?_⟩
  rcases List.mem_cons.1 hy with rfl |hy
  ·exact⟨zun (by omega) h1,KOk.up (by omega) h2⟩
  ·exact⟨zun (by omega) (h3 y hy).1,KOk.up (by omega) (h3 y hy).2⟩
theorem GdX.mk{k:Int}{r n:ByteArray}{d:Int}{l:List Ex}(hk:0≤k∧k≤255)(hr:r.size≤2500)(hn:n.size≤200)(hl:∀y ∈ l,GdX y):GdX (.mk k r n d l):=by
 obtain⟨m,hm⟩:=GdX.list hl;exact⟨m+1,⟨hn,hr,fun y hy=>(hm y hy).1⟩,⟨hk,fun y hy=>(hm y hy).2⟩⟩
theorem z10{k:Int}(hk:0≤k∧k≤255){x y:Ex}(hx:GdX x)(hy:GdX y):GdX (tEx2 k x y) :=
 GdX.mk hk (by decide) (by decide) fun z hz=>by
  simp only[List.mem_cons,List.not_mem_nil,or_false]at hz
  rcases hz with rfl |rfl
  ·exact hx
  ·exact hy
theorem z1i(k:Int)(x y:Ex):(tEx2 k x y).size=1+(x.size+y.size):=by
 rw[Ex.size_is];show 1+([x,y].map Ex.size).sum=_;simp
def SmR(f:RdX):Prop:=∀l,TksS l→∀x l',f l=.ok x l'→GdX x∧x.size+l'.length≤l.length
theorem znq{k:Int}{s:List UInt8}{l l':List Tk}{u:Unit}(h:tEat k s l=.ok u l'):l' <:+ l∧l'.length+1=l.length:=by
 unfold tEat at h
 split at h
 ·rename_i h1
  obtain⟨t,r,rfl⟩:=zb2 h1
  injection h with _ h;subst h
  exact⟨List.suffix_cons _ _,by simp⟩
 ·cases h
theorem z69{k:Int}{l l':List Tk}{t:Tk}(h:tOf k l=.ok t l'):l=t :: l':=by
 cases l with
 |nil=>cases h
 |cons a r =>
  change (if a.kind=k then Rd.ok a r else _)=_ at h
  split at h
  ·injection h with h1 h2;rw[h1,h2]
  ·cases h
theorem z3w{l l':List Tk}{n:ByteArray}(h:zgf l=.ok n l'):∃t,l=t :: l'∧n=t.text:=by
 cases l with
 |nil=>cases h
 |cons a r =>
  change (if a.kind=2∨(a.kind=1∧kwB a.text.data.toList=false)then Rd.ok a.text r else _)=_ at h
  split at h
  ·injection h with h1 h2;exact⟨a,by rw[h2],h1.symm⟩
  ·cases h
theorem zq2:∀(ps:List RdX),(∀p ∈ ps,SmR p∧∀l,(p l).Cons l)→∀(c:Bool)(l:List Tk),TksS l→∀xs l',zfc ps c l=.ok xs l'→(∀y ∈ xs,GdX y)∧(xs.map Ex.size).sum+l'.length≤l.length
 | [],_,_,l,_,xs,l',h=>by
  injection h with h1 h2;subst h1 h2
  exact⟨fun y hy=>(by cases hy),by simp⟩
 |p :: ps,hp,c,l,hl,xs,l',h=>by
  unfold zfc at h;obtain⟨u,l1,e1,h⟩:=zcn h;obtain⟨x,l2,e2,h⟩:=zcn h;obtain⟨ys,l3,e3,h⟩:=zcn h
  injection h with h1 h2;subst h1 h2
  have s1:l1 <:+ l∧l1.length≤l.length:=by
   cases c with
   |true=>have:=znq (show tEat 5 [44] l=.ok u l1 from e1);exact⟨this.1,by omega⟩
   |false =>
    have e4:Rd.ok () l=Rd.ok u l1:=e1
    injection e4 with _ e4;subst e4;exact⟨List.suffix_refl _,Nat.le_refl _⟩
  have a1:=(hp p (by simp)).1 l1 (hl.suf s1.1) x l2 e2;have s2:l2 <:+ l1:=by have:=(hp p (by simp)).2 l1;rw[e2]at this;exact this.1
  have a2:=zq2 ps (fun q hq=>hp q (by simp[hq])) true l2 ((hl.suf s1.1).suf s2) ys l3 e3;refine⟨fun y hy => ?_,?_⟩
  ·rcases List.mem_cons.1 hy with rfl |hy
   ·exact a1.1
   ·exact a2.1 y hy
  ·rw[List.map_cons,List.sum_cons];omega
theorem zfo(k:Int)(hk:0≤k∧k≤255)(ps:List RdX)(hp:∀p ∈ ps,SmR p∧∀l,(p l).Cons l):SmR (zbf k ps):=fun l hl x l' h=>by
 unfold zbf at h;obtain⟨u,l1,e1,h⟩:=zcn h;obtain⟨xs,l2,e2,h⟩:=zcn h;obtain⟨v,l3,e3,h⟩:=zcn h
 injection h with h1 h2;subst h1 h2
 have s1:=znq e1;have a:=zq2 ps hp false l1 (hl.suf s1.1) xs l2 e2;have s3:=znq e3;refine⟨GdX.mk hk (by decide) (by decide) a.1,?_⟩;rw[Ex.size_is]
 show 1+(xs.map Ex.size).sum+_≤_
 omega
theorem zg0(k:Int)(r n:ByteArray)(d:Int):(Ex.mk k r n d []).size=1:=by rw[Ex.size_is];rfl
theorem z11:SmR tFix:=fun l hl x l' h=>by
 unfold tFix at h;obtain⟨n,l1,e1,h⟩:=zcn h;obtain⟨u,l2,e2,h⟩:=zcn h;obtain⟨t,rfl,rfl⟩:=z3w e1;have s2:=znq e2;have hn:t.text.size≤200:=(hl t (by simp)).1
 split at h
 ·rename_i h3
  obtain⟨t2,r2,rfl⟩:=zb2 h3
  injection h with h1 h2;subst h1 h2
  exact⟨GdX.mk (by decide) (by decide) hn (fun y hy=>by cases hy),by rw[zg0];have:=s2.2;simp at this ⊢;omega⟩
 ·obtain⟨t2,l3,e3,h⟩:=zcn h
  have e4:=z69 e3
  injection h with h1 h2;subst h1 h2
  exact⟨GdX.mk (by decide) (by decide) hn (fun y hy=>by cases hy),by rw[zg0];have:=s2.2;rw[e4]at this;simp at this ⊢;omega⟩
theorem zy6(S:RdX)(hS:SmR S)(_cS:∀l,(S l).Cons l):SmR (ziv S):=fun l hl x l' h=>by
 unfold ziv at h
 split at h
 ·rename_i h3
  obtain⟨t2,r2,rfl⟩:=zb2 h3;obtain⟨y,l1,e1,h⟩:=zcn h;obtain⟨u,l2,e2,h⟩:=zcn h
  injection h with h1 h2;subst h1 h2
  have a:=hS r2 (hl.suf (List.suffix_cons _ _)) y l1 e1;have s2:=znq e2;exact⟨a.1,by rw[List.length_cons];omega⟩
 ·cases l with
  |nil=>exact z11 _ hl x l' h
  |cons t r =>
   change (if t.kind=3 then Rd.ok (Ex.mk 1 t.rat tE0 0 []) r else tFix (t :: r))=_ at h
   split at h
   ·injection h with h1 h2;subst h1 h2
    exact⟨GdX.mk (by decide) (hl t (by simp)).2 (by decide) (fun y hy=>by cases hy),by rw[zg0,List.length_cons];omega⟩
   ·exact z11 _ hl x l' h
theorem zfh{f:RdX}(hf:SmR f){l:List Tk}(ZT:zar l≠[])(hl:TksS l){x:Ex}{l':List Tk}(h:f l.tail=.ok x l'):GdX x∧x.size+l'.length≤l.length:=by
 obtain⟨t,r,rfl⟩:=zbp ZT;have a:=hf r (hl.suf (List.suffix_cons _ _)) x l' h;exact⟨a.1,by rw[List.length_cons];omega⟩
theorem zwz(S T:RdX)(hS:SmR S)(hT:SmR T)(cS:∀l,(S l).Cons l)(cT:∀l,(T l).Cons l):SmR (zbv S T):=fun l hl x l' h=>by
 have h2:∀p ∈ [S,S],SmR p∧∀l,(p l).Cons l:=by simp[hS,cS]
 have h3:∀p ∈ [T,S,S],SmR p∧∀l,(p l).Cons l:=by simp[hS,hT,cS,cT]
 unfold zbv at h
 split at h
 ·rename_i e;exact zfh (zfo 7 (by decide) _ h2) (by rw[e];simp) hl h
 split at h
 ·rename_i e;exact zfh (zfo 8 (by decide) _ h2) (by rw[e];simp) hl h
 split at h
 ·rename_i e;exact zfh (zfo 9 (by decide) _ h3) (by rw[e];simp) hl h
 split at h
 ·exact zy6 S hS cS l hl x l' h
 ·cases h
theorem zvq(F:RdX)(hF:SmR F)(cF:∀l,(F l).Cons l):∀(n:Nat)(x:Ex),GdX x→∀(l:List Tk),TksS l→∀y l',zgr F n x l=.ok y l'→GdX y∧y.size+l'.length≤x.size+l.length
 |0,_,_,l,_,y,l',h=>by cases h
 |n+1,x,hx,l,hl,y,l',h=>by
  unfold zgr at h
  split at h
  ·rename_i h3
   obtain⟨t2,r2,rfl⟩:=zb2 h3;obtain⟨z,l1,e1,h⟩:=zcn h;have a:=hF r2 (hl.suf (List.suffix_cons _ _)) z l1 e1
   have s1:l1 <:+ r2:=by have:=cF r2;rw[show F r2=_ from e1]at this;exact this.1
   have b:=zvq F hF cF n _ (z10 (by decide) hx a.1) l1 ((hl.suf (List.suffix_cons _ _)).suf s1) y l' h;rw[z1i]at b;exact⟨b.1,by rw[List.length_cons];omega⟩
  ·injection h with h1 h2;subst h1 h2
   exact⟨hx,Nat.le_refl _⟩
theorem zui(F:RdX)(hF:SmR F)(cF:∀l,(F l).Cons l)(n:Nat):SmR (zbj F n):=fun l hl y l' h=>by
 unfold zbj at h;obtain⟨x,l1,e1,h⟩:=zcn h;have a:=hF l hl x l1 e1;have s1:l1 <:+ l:=by have:=cF l;rw[e1]at this;exact this.1
 have b:=zvq F hF cF n x a.1 l1 (hl.suf s1) y l' h;exact⟨b.1,by omega⟩
theorem z18(F:RdX)(hF:SmR F)(cF:∀l,(F l).Cons l)(m:Nat):∀(n:Nat)(x:Ex),GdX x→∀(l:List Tk),TksS l→∀y l',tAdd F m n x l=.ok y l'→GdX y∧y.size+l'.length≤x.size+l.length
 |0,_,_,l,_,y,l',h=>by cases h
 |n+1,x,hx,l,hl,y,l',h=>by
  have go:∀(k:Int),(0≤k∧k≤255)→∀(t:Tk)(r:List Tk),l=t :: r→((zbj F m r).bind fun z l=>tAdd F m n (tEx2 k x z) l)=.ok y l'→GdX y∧y.size+l'.length≤x.size+l.length:=by
   rintro k hk t r rfl h;obtain⟨z,l1,e1,h⟩:=zcn h;have a:=zui F hF cF m r (hl.suf (List.suffix_cons _ _)) z l1 e1;have s1:l1 <:+ r:=by have:=zdi F cF m r;rw[e1]at this;exact this.1
   have b:=z18 F hF cF m n _ (z10 hk hx a.1) l1 ((hl.suf (List.suffix_cons _ _)).suf s1) y l' h;rw[z1i]at b;exact⟨b.1,by rw[List.length_cons];omega⟩
  unfold tAdd at h
  split at h
  ·rename_i h3
   obtain⟨t2,r2,e⟩:=zb2 h3;exact go 4 (by decide) t2 r2 e (by rw[e]at h;exact h)
  split at h
  ·rename_i h3
   obtain⟨t2,r2,e⟩:=zb2 h3;exact go 5 (by decide) t2 r2 e (by rw[e]at h;exact h)
  ·injection h with h1 h2;subst h1 h2
   exact⟨hx,Nat.le_refl _⟩
theorem z5d(F:RdX)(hF:SmR F)(cF:∀l,(F l).Cons l)(n:Nat):SmR (tSum F n):=fun l hl y l' h=>by
 unfold tSum at h;obtain⟨x,l1,e1,h⟩:=zcn h;have a:=zui F hF cF n l hl x l1 e1;have s1:l1 <:+ l:=by have:=zdi F cF n l;rw[e1]at this;exact this.1
 have b:=z18 F hF cF n n x a.1 l1 (hl.suf s1) y l' h;exact⟨b.1,by omega⟩
theorem zx5(S T:RdX)(hS:SmR S)(hT:SmR T)(cS:∀l,(S l).Cons l)(cT:∀l,(T l).Cons l):SmR (zd2 S T):=fun l hl x l' h=>by
 have h2:∀p ∈ [S,S],SmR p∧∀l,(p l).Cons l:=by simp[hS,cS]
 have h3:∀p ∈ [T,T],SmR p∧∀l,(p l).Cons l:=by simp[hT,cT]
 have h4:∀p ∈ [T],SmR p∧∀l,(p l).Cons l:=by simp[hT,cT]
 unfold zd2 at h
 split at h
 ·rename_i e;exact zfh (zfo 11 (by decide) _ h2) (by rw[e];simp) hl h
 split at h
 ·rename_i e;exact zfh (zfo 12 (by decide) _ h2) (by rw[e];simp) hl h
 split at h
 ·rename_i e;exact zfh (zfo 13 (by decide) _ h3) (by rw[e];simp) hl h
 split at h
 ·rename_i e;exact zfh (zfo 14 (by decide) _ h3) (by rw[e];simp) hl h
 split at h
 ·rename_i e;exact zfh (zfo 15 (by decide) _ h4) (by rw[e];simp) hl h
 ·cases h
theorem zke:∀(n:Nat)(b:Bool),SmR (rdE n b)
 |0,_=>fun l _ x l' h=>by cases h
 |n+1,true=>z5d _ (zwz _ _ (zke n true) (zke n false) (zbh n true) (zbh n false)) (zd3 _ _ (zbh n true) (zbh n false)) _
 |n+1,false=>zx5 _ _ (zke n true) (zke n false) (zbh n true) (zbh n false)
theorem zmc(n:Nat):SmR (zde n):=fun l hl x l' h=>by
 unfold zde at h
 split at h
 ·exact zke n false l hl x l' h
 ·exact zke n true l hl x l' h
theorem zsk{n d:Int}(h:z1b n d):(ratT n d).length≤2010:=by
 have h1:=zl3 h.2.2.1;have h2:=zl3 h.2.2.2
 have e:∀z:Int,(txtZ z).length≤(txtN z.natAbs).length+1:=fun z=>by
  unfold txtZ;split
  ·simp
  ·omega
 have e1:=e n;have e2:=e d;unfold ratT
 split
 ·omega
 ·rw[List.length_append,List.length_cons];omega
theorem zt3{t:Tk}(h:VTk t):TkS t:=by
 have hb:∀l:List UInt8,(bsL l).size=l.length:=fun l=>by rw[←zab,zim]
 rcases h with⟨_,hn,hr,_⟩ |⟨_,hn,hr,_⟩ |⟨_,ht,⟨n,d,WU,hr⟩,_⟩ |⟨_,ht,hr,_,_⟩ |⟨_,⟨c,_,ht⟩,hr,_⟩
 ·have:=(zm9 hn).2.1
  rw[zab]at this;exact⟨by omega,by rw[hr,hb];decide⟩
 ·have:=(zm9 hn).2.1
  rw[zab]at this;exact⟨by omega,by rw[hr,hb];decide⟩
 ·have:=zsk WU
  exact⟨by rw[ht,hb];decide,by rw[hr,hb];omega⟩
 ·exact⟨by rw[ht,hb];decide,by rw[hr,hb];decide⟩
 ·exact⟨by rw[ht,hb];simp,by rw[hr,hb];decide⟩
theorem zne:∀(n off:Nat)(l:List UInt8),l.length≤n→∀{ts:List Tk},lexL off l=.yes ts→TksS ts:=by
 intro n
 induction n with
 |zero =>
  intro off l hl ts h;have:l=[]:=List.length_eq_zero_iff.1 (by omega);subst this;rw[zc8 (by rfl)]at h
  injection h with h;subst h;exact fun t ht=>by cases ht
 |succ n ih =>
  intro off l hl ts h
  by_cases hs:skS false l<l.length
  ·cases ho:oneL (l.drop (skS false l))with
   |no e=>rw[zhi hs ho]at h;cases h
   |yes t k =>
    have hk:=zey ho;rw[zf6 hs ho]at h
    cases hr:lexL (off+skS false l+k) (l.drop (skS false l+k))with
    |no i e=>rw[hr]at h;cases h
    |yes us =>
     rw[hr]at h;have a:=ih _ _ (by rw[List.length_drop];omega) hr
     injection h with h
     subst h;intro u hu
     rcases List.mem_cons.1 hu with rfl |hu
     ·exact zt3 (VTk.move (zsv ho) _)
     ·exact a u hu
  ·have:=ziz false l
   rw[zc8 (by omega)]at h
   injection h with h;subst h;exact fun t ht=>by cases ht
noncomputable def zk6(s:ByteArray):Option Ex × Int × Int :=
 match lexL 0 s.data.toList with
 | .no i er=>(none,(i:Int),er)
 | .yes ts=>match zde 20001 ts with
  | .ok x []=>if chkX x=0 then(some x,(s.size:Int),0)else(none,(s.size:Int),chkX x)
  | .ok _ (t :: _)=>(none,t.place,12)
  | .no []=>(none,(s.size:Int),12)
  | .no (t :: _)=>(none,t.place,12)
def RxP(w:World)(o:Option Ex × Int × Int)(e:Ending)(w':World):Prop :=
 ∃v,e=.returned (.tuple #[v,.int .i64 o.2.1,.int .i64 o.2.2])∧(match o.1 with |some x=>VEx w.heap.size x w' v |none=>v=.agg #[.int .u8 0,.string ⟨#[]⟩,.string ⟨#[]⟩,.int .i64 0,.slice none 0 0])∧Below w.heap.size w w'
theorem zqw{w W2 u:World}{cb:Nat}(hb:Below w.heap.size w W2)(h:Kp2 cb cb W2 u)(hc:w.heap.size≤cb):Below w.heap.size w u :=
 ⟨h.1.trans hb.os,h.2.1.trans hb.tape,h.2.2.1.trans hb.output,Nat.le_trans hb.size h.2.2.2.1,fun k hk=>(h.2.2.2.2 k (Nat.lt_of_lt_of_le hk hb.size) (by omega) (by omega)).trans (hb.block k hk)⟩
theorem zdr{u:World}{b c:Nat}{v0 v1 v2 v3 v4:Value}(h:c≠b):(((((u.setCell ⟨b,0,none⟩ v0).setCell ⟨b,1,none⟩ v1).setCell ⟨b,2,none⟩ v2).setCell ⟨b,3,none⟩ v3).setCell ⟨b,4,none⟩ v4).heap[c]?=u.heap[c]?:=by
 rw[Below.heap_setCell _ _ _ _ (by show c≠b;exact h),Below.heap_setCell _ _ _ _ (by show c≠b;exact h),Below.heap_setCell _ _ _ _ (by show c≠b;exact h),Below.heap_setCell _ _ _ _ (by show c≠b;exact h),Below.heap_setCell _ _ _ _ (by show c≠b;exact h)]
theorem z17(args:Array Value)(W:World):(callFunc 61 args).run Tryz.prog W=.ok (.enter 61 args) W:=by kernel_rfl
theorem zgw{w:World}{s:ByteArray}{a er:Int}(S7:er≠0)(HW:Hid (Calls Tryz.prog 60 #[.string s,.func (.func 61) #[] #[.pointer (some ⟨w.heap.size+1,0,none⟩)]] ((w.alloc zC).alloc zC) (fun e u=>e=.returned (.tuple #[.int .i64 a,.int .i64 er])∧Kp2 (w.heap.size+1) (w.heap.size+1) ((w.alloc zC).alloc zC) u∧∃z0 z1 z2 z3 z4,u.heap[w.heap.size+1]?=some (.cells #[z0,z1,z2,z3,z4] 25)))) :
 Calls Tryz.prog 25 #[.string s] w (RxP w (none,a,er)):=by
 have hmf:∀(fn:Fn)(first cap:Array Value)(w:World),(Instr.makeFunc fn first cap).run Tryz.prog w=.ok (.func fn first cap) w:=fun _ _ _ _=>rfl
 have ZS:Below w.heap.size w ((w.alloc zC).alloc zC):=(zaf w zC).alloc (by simp) _;have ZZ:((w.alloc zC).alloc zC).heap[w.heap.size]?=some zC:=(Below.heap_alloc _ _ _ (by simp)).trans (heap_alloc_new w zC);have Zo:((w.alloc zC).alloc zC).heap.size=w.heap.size+1+1:=by simp
 go_enter Tryz.func25,Tryz.ntmps25;go_wp2_with fail;change Calls _ _ _ ((w.alloc zC).alloc zC) _;refine HW.out.mono ?_;rintro e u ⟨rfl,hk,z0,z1,z2,z3,z4,hz⟩;have hr:u.heap[w.heap.size]?=some (.cells #[.int .u8 0,.string ⟨#[]⟩,.string ⟨#[]⟩,.int .i64 0,.slice none 0 0] 25):=(hk.2.2.2.2 w.heap.size (by omega) (by omega) (by omega)).trans ZZ;have HB:=Z9 (zqw ZS hk (Nat.le_succ _));have e1:(er == 0)=false:=by simp[S7]
 have e2:(er != 0)=true:=by simp[S7]
 obtain⟨c0,c1,c2,c3,c4⟩:=zae hz;have fz:∀i,u.frozen? ⟨w.heap.size+1,i,none⟩=false:=Lib.frozen_of_heap hz
 have l1:=(Z8 hz);obtain⟨r0,r1,r2,r3,r4⟩:=zae hr;have fr:∀i,u.frozen? ⟨w.heap.size,i,none⟩=false:=Lib.frozen_of_heap hr
 have l0:=(Z8 hr);have hz':=za2 hz (.int .u8 0) (.string ⟨#[]⟩) (.string ⟨#[]⟩) (.int .i64 0) (.slice none 0 0);have hr':=za2 ((zdr (v0:=.int .u8 0) (v1:=.string ⟨#[]⟩) (v2:=.string ⟨#[]⟩) (v3:=.int .i64 0) (v4:=.slice none 0 0) (show w.heap.size≠w.heap.size+1 by omega)).trans hr) (.int .u8 0) (.string ⟨#[]⟩) (.string ⟨#[]⟩) (.int .i64 0) (.slice none 0 0);have HRC:=Z9 (zae hr');have HBF:Hid (Below w.heap.size w ((((((((((u.setCell ⟨w.heap.size+1,0,none⟩ (.int .u8 0)).setCell ⟨w.heap.size+1,1,none⟩ (.string ⟨#[]⟩)).setCell ⟨w.heap.size+1,2,none⟩ (.string ⟨#[]⟩)).setCell ⟨w.heap.size+1,3,none⟩ (.int .i64 0)).setCell ⟨w.heap.size+1,4,none⟩ (.slice none 0 0)).setCell ⟨w.heap.size,0,none⟩ (.int .u8 0)).setCell ⟨w.heap.size,1,none⟩ (.string ⟨#[]⟩)).setCell ⟨w.heap.size,2,none⟩ (.string ⟨#[]⟩)).setCell ⟨w.heap.size,3,none⟩ (.int .i64 0)).setCell ⟨w.heap.size,4,none⟩ (.slice none 0 0))):=Z9 (((((((((HB.out.setCell (p:=⟨w.heap.size+1,0,none⟩) (Nat.le_succ _) _).setCell (p:=⟨w.heap.size+1,1,none⟩) (Nat.le_succ _) _).setCell (p:=⟨w.heap.size+1,2,none⟩) (Nat.le_succ _) _).setCell (p:=⟨w.heap.size+1,3,none⟩) (Nat.le_succ _) _).setCell (p:=⟨w.heap.size+1,4,none⟩) (Nat.le_succ _) _).setCell (p:=⟨w.heap.size,0,none⟩) (Nat.le_refl _) _).setCell (p:=⟨w.heap.size,1,none⟩) (Nat.le_refl _) _).setCell (p:=⟨w.heap.size,2,none⟩) (Nat.le_refl _) _).setCell (p:=⟨w.heap.size,3,none⟩) (Nat.le_refl _) _ |>.setCell (p:=⟨w.heap.size,4,none⟩) (Nat.le_refl _) _)
 clear hk hz hr ZS ZZ Zo HW hz' hr';go_wp2_with fail;obtain⟨q0,q1,q2,q3,q4⟩:=HRC.out;exact bodyPost_ret (v:=.tuple #[.agg #[.int .u8 0,.string ⟨#[]⟩,.string ⟨#[]⟩,.int .i64 0,.slice none 0 0],.int .i64 a,.int .i64 er]) (by simp only[results,Tryz.results25];simp[go_sem,q0,q1,q2,q3,q4]) rfl ⟨_,rfl,rfl,HBF.out⟩
theorem zqa{α:Type}{w w':World}{cb:Nat}{O:Obj}{CB:Nat→α→World→Prop}{f:List Tk→Rd α}{len:Nat}{ts l:List Tk}{x:α}{e:Ending}(hq:f ts=.ok x l)(h:WhP w cb O CB f len (.yes ts) e w'):∃lo,e=.returned (.tuple #[.int .i64 (zff l (len:Int) 0).1,.int .i64 (zff l (len:Int) 0).2])∧w.heap.size≤lo∧CB lo x w'∧Kp2 cb cb w w':=by
 change (match f ts with | .ok x l=>_ | .no l=>_)at h;rw[hq]at h;exact h
theorem zqb{α:Type}{w w':World}{cb:Nat}{O:Obj}{CB:Nat→α→World→Prop}{f:List Tk→Rd α}{len:Nat}{ts l:List Tk}{e:Ending}(hq:f ts=.no l)(h:WhP w cb O CB f len (.yes ts) e w'):e=.returned (.tuple #[.int .i64 (zff l (len:Int) 12).1,.int .i64 (zff l (len:Int) 12).2])∧Kp2 cb cb w w'∧w'.heap[cb]?=some O:=by
 change (match f ts with | .ok x l=>_ | .no l=>_)at h;rw[hq]at h;exact h
theorem zux{w w':World}{o o':Option Ex × Int × Int}{e:Ending}(E:o=o')(h:RxP w o' e w'):RxP w o e w':=E ▸ h
theorem zvg{w Wg:World}{s:ByteArray}{a:Int}{x:Ex}(hx:GdX x)(Zo:x.size≤100000)(ZQ:zhp Wg)(YX:Below Wg.heap.size Wg w)(HW:Hid (Calls Tryz.prog 60 #[.string s,.func (.func 61) #[] #[.pointer (some ⟨w.heap.size+1,0,none⟩)]] ((w.alloc zC).alloc zC) (fun e u=>e=.returned (.tuple #[.int .i64 a,.int .i64 0])∧Kp2 (w.heap.size+1) (w.heap.size+1) ((w.alloc zC).alloc zC) u∧∃lo,((w.alloc zC).alloc zC).heap.size≤lo∧CBx (w.heap.size+1) lo x u))) :
 Calls Tryz.prog 25 #[.string s] w (RxP w (if chkX x=0 then(some x,a,0)else(none,a,chkX x))):=by
 have hmf:∀(fn:Fn)(first cap:Array Value)(w:World),(Instr.makeFunc fn first cap).run Tryz.prog w=.ok (.func fn first cap) w:=fun _ _ _ _=>rfl
 have ZS:Below w.heap.size w ((w.alloc zC).alloc zC):=(zaf w zC).alloc (by simp) _;have ZZ:((w.alloc zC).alloc zC).heap[w.heap.size]?=some zC:=(Below.heap_alloc _ _ _ (by simp)).trans (heap_alloc_new w zC);have hsw:((w.alloc zC).alloc zC).heap.size=w.heap.size+1+1:=by simp
 obtain⟨d,Xr,WA⟩:=hx;obtain⟨K,hK⟩:∃K,K=chkX x:=⟨_,rfl⟩
 rw[←hK]
 obtain⟨OUT,WI⟩:∃o,o=(if K=0 then(some x,a,0)else(none,a,K):Option Ex × Int × Int):=⟨_,rfl⟩
 rw[←WI];have HOUT:=Z9 WI
 have HCK:Hid (∀n cs u,ExAt n u cs x→Below w.heap.size w u→Calls Tryz.prog 46 #[.agg cs.toArray] u (IntP u K)):=Z9 (fun n cs u ZB ZR=>by
  rw[hK]
  exact zvr (max n d) x cs u Wg ⟨ZB.up (by omega),WA.up (by omega),Zo,⟨d,Xr⟩,ZQ,YX.trans (ZR.mono YX.size)⟩)
 clear hK Xr WA Zo ZQ YX WI;go_enter Tryz.func25,Tryz.ntmps25;go_wp2_with fail;change Calls _ _ _ ((w.alloc zC).alloc zC) _;refine HW.out.mono ?_;rintro e u ⟨rfl,hk,lo,XP,n,xa,xl,xc,hz,hx⟩;have hr:u.heap[w.heap.size]?=some (.cells #[.int .u8 0,.string ⟨#[]⟩,.string ⟨#[]⟩,.int .i64 0,.slice none 0 0] 25):=(hk.2.2.2.2 w.heap.size (by omega) (by omega) (by omega)).trans ZZ;have HB:=Z9 (zqw ZS hk (Nat.le_succ _));obtain⟨c0,c1,c2,c3,c4⟩:=zae hz;have l1:=(Z8 hz);have l0:=(Z8 hr);have HCC:=Z9 (HCK.out n [.int .u8 x.kind,.string x.rat,.string x.name,.int .i64 x.date,.slice xa xl xc] u (hx.at fun g h=>h.2) HB.out)
 have HZ:=Z9 hz;have HR:=Z9 hr;have HX:=Z9 hx;have hlo2:w.heap.size+1+1≤lo:=by omega
 clear hk hz hr ZS ZZ HW hx XP hsw;go_wp2_with fail;refine HCC.out.mono ?_;rintro e u2 ⟨rfl,hb⟩;have hz:=(hb.block _ l1).trans HZ.out;have hr:=(hb.block _ l0).trans HR.out;have HB2:=Z9 (HB.out.trans (hb.mono HB.out.size))
 have Yp:ExOn (fun g=>lo≤g∧g<u2.heap.size) n u2 [.int .u8 x.kind,.string x.rat,.string x.name,.int .i64 x.date,.slice xa xl xc] x:=(HX.out.keep (w':=u2) fun g ⟨_,g2⟩=>hb.block g g2).mono fun g ⟨g1,g2⟩=>⟨g1,Nat.lt_of_lt_of_le g2 hb.size⟩
 have HX2:=Z9 Yp;clear hb Yp c0 c1 c2 c3 c4 l0 l1;obtain⟨c0,c1,c2,c3,c4⟩:=zae hz;have fz:∀i,u2.frozen? ⟨w.heap.size+1,i,none⟩=false:=Lib.frozen_of_heap hz
 have l1:=(Z8 hz);obtain⟨r0,r1,r2,r3,r4⟩:=zae hr;have fr:∀i,u2.frozen? ⟨w.heap.size,i,none⟩=false:=Lib.frozen_of_heap hr
 have l0:=(Z8 hr)
 by_cases UN:K=0
 ·subst UN
  have hr':=za2 hr (.int .u8 x.kind) (.string x.rat) (.string x.name) (.int .i64 x.date) (.slice xa xl xc);have HRC:=Z9 (zae hr');have HBF:Hid (Below w.heap.size w (((((u2.setCell ⟨w.heap.size,0,none⟩ (.int .u8 x.kind)).setCell ⟨w.heap.size,1,none⟩ (.string x.rat)).setCell ⟨w.heap.size,2,none⟩ (.string x.name)).setCell ⟨w.heap.size,3,none⟩ (.int .i64 x.date)).setCell ⟨w.heap.size,4,none⟩ (.slice xa xl xc))):=Z9 (((((HB2.out.setCell (p:=⟨w.heap.size,0,none⟩) (Nat.le_refl _) _).setCell (p:=⟨w.heap.size,1,none⟩) (Nat.le_refl _) _).setCell (p:=⟨w.heap.size,2,none⟩) (Nat.le_refl _) _).setCell (p:=⟨w.heap.size,3,none⟩) (Nat.le_refl _) _).setCell (p:=⟨w.heap.size,4,none⟩) (Nat.le_refl _) _)
  have HV:Hid (VEx w.heap.size x (((((u2.setCell ⟨w.heap.size,0,none⟩ (.int .u8 x.kind)).setCell ⟨w.heap.size,1,none⟩ (.string x.rat)).setCell ⟨w.heap.size,2,none⟩ (.string x.name)).setCell ⟨w.heap.size,3,none⟩ (.int .i64 x.date)).setCell ⟨w.heap.size,4,none⟩ (.slice xa xl xc)) (.agg #[.int .u8 x.kind,.string x.rat,.string x.name,.int .i64 x.date,.slice xa xl xc])):=Z9 ⟨n,xa,xl,xc,rfl,(HX2.out.keep (w':=(((((u2.setCell ⟨w.heap.size,0,none⟩ (.int .u8 x.kind)).setCell ⟨w.heap.size,1,none⟩ (.string x.rat)).setCell ⟨w.heap.size,2,none⟩ (.string x.name)).setCell ⟨w.heap.size,3,none⟩ (.int .i64 x.date)).setCell ⟨w.heap.size,4,none⟩ (.slice xa xl xc))) fun g ⟨g1,_⟩=>zdr (show g≠w.heap.size by omega)).mono fun g ⟨g1,g2⟩=>⟨by omega,by simpa only [World.size_setCell]using g2⟩⟩
  clear hz hr hr';go_wp2_with fail;obtain⟨q0,q1,q2,q3,q4⟩:=HRC.out;exact bodyPost_ret (v:=.tuple #[.agg #[.int .u8 x.kind,.string x.rat,.string x.name,.int .i64 x.date,.slice xa xl xc],.int .i64 a,.int .i64 0]) (by simp only[results,Tryz.results25];simp[go_sem,q0,q1,q2,q3,q4]) rfl (zux (show OUT=(some x,a,0)by rw[HOUT.out];simp) ⟨_,rfl,HV.out,HBF.out⟩)
 ·have e2:(K != 0)=true:=by simp[UN]
  have hr':=za2 ((zdr (v0:=.int .u8 0) (v1:=.string ⟨#[]⟩) (v2:=.string ⟨#[]⟩) (v3:=.int .i64 0) (v4:=.slice none 0 0) (show w.heap.size≠w.heap.size+1 by omega)).trans hr) (.int .u8 0) (.string ⟨#[]⟩) (.string ⟨#[]⟩) (.int .i64 0) (.slice none 0 0);have HRC:=Z9 (zae hr');have HBF:Hid (Below w.heap.size w ((((((((((u2.setCell ⟨w.heap.size+1,0,none⟩ (.int .u8 0)).setCell ⟨w.heap.size+1,1,none⟩ (.string ⟨#[]⟩)).setCell ⟨w.heap.size+1,2,none⟩ (.string ⟨#[]⟩)).setCell ⟨w.heap.size+1,3,none⟩ (.int .i64 0)).setCell ⟨w.heap.size+1,4,none⟩ (.slice none 0 0)).setCell ⟨w.heap.size,0,none⟩ (.int .u8 0)).setCell ⟨w.heap.size,1,none⟩ (.string ⟨#[]⟩)).setCell ⟨w.heap.size,2,none⟩ (.string ⟨#[]⟩)).setCell ⟨w.heap.size,3,none⟩ (.int .i64 0)).setCell ⟨w.heap.size,4,none⟩ (.slice none 0 0))):=Z9 (((((((((HB2.out.setCell (p:=⟨w.heap.size+1,0,none⟩) (Nat.le_succ _) _).setCell (p:=⟨w.heap.size+1,1,none⟩) (Nat.le_succ _) _).setCell (p:=⟨w.heap.size+1,2,none⟩) (Nat.le_succ _) _).setCell (p:=⟨w.heap.size+1,3,none⟩) (Nat.le_succ _) _).setCell (p:=⟨w.heap.size+1,4,none⟩) (Nat.le_succ _) _).setCell (p:=⟨w.heap.size,0,none⟩) (Nat.le_refl _) _).setCell (p:=⟨w.heap.size,1,none⟩) (Nat.le_refl _) _).setCell (p:=⟨w.heap.size,2,none⟩) (Nat.le_refl _) _).setCell (p:=⟨w.heap.size,3,none⟩) (Nat.le_refl _) _ |>.setCell (p:=⟨w.heap.size,4,none⟩) (Nat.le_refl _) _)
  clear hz hr hr';go_wp2_with fail;obtain⟨q0,q1,q2,q3,q4⟩:=HRC.out;exact bodyPost_ret (v:=.tuple #[.agg #[.int .u8 0,.string ⟨#[]⟩,.string ⟨#[]⟩,.int .i64 0,.slice none 0 0],.int .i64 a,.int .i64 K]) (by simp only[results,Tryz.results25];simp[go_sem,q0,q1,q2,q3,q4]) rfl (zux (HOUT.out.trans (if_neg UN)) ⟨_,rfl,rfl,HBF.out⟩)
theorem zvh(s:ByteArray)(w Wg:World)(hs:s.size≤20000)(ZQ:zhp Wg)(YX:Below Wg.heap.size Wg w):Calls Tryz.prog 25 #[.string s] w (RxP w (zk6 s)):=by
 have Yk:((w.alloc zC).alloc zC).heap[w.heap.size+1]?=some zC:=by
  have:=heap_alloc_new (w.alloc zC) zC
  rwa [World.size_alloc]at this
 have HW:=zt2 61 (w.heap.size+1) zC (CBx (w.heap.size+1)) (zde 20001) (z1o _) z17 (CBx.stab _) s ((w.alloc zC).alloc zC) hs Yk;unfold zk6
 cases hl:lexL 0 s.data.toList with
 |no i er =>
  rw[hl]at HW;exact zgw (zpl hl) (Z9 (HW.mono fun e u ⟨h1,h2,h3⟩=>⟨h1,h2,_,_,_,_,_,h3⟩))
 |yes ts =>
  rw[hl]at HW;have Xo:=zne _ 0 _ (Nat.le_refl _) hl;have Z5:=zpk hl;rw[zab]at Z5;dsimp only
  cases hf:zde 20001 ts with
  |no l =>
   cases l with
   |nil =>
    refine zgw (by decide) (Z9 (HW.mono fun e u h => ?_));have h2:=zqb hf h;exact⟨h2.1,h2.2.1,_,_,_,_,_,h2.2.2⟩
   |cons t l =>
    refine zgw (by decide) (Z9 (HW.mono fun e u h => ?_));have h2:=zqb hf h;exact⟨h2.1,h2.2.1,_,_,_,_,_,h2.2.2⟩
  |ok x l =>
   have hg:=zmc 20001 ts Xo x l hf
   cases l with
   |nil =>
    refine zvg hg.1 (by have:=hg.2;omega) ZQ YX (Z9 (HW.mono fun e u h => ?_));obtain⟨lo,h1,h2,h3,h4⟩:=zqa hf h;exact⟨h1,h4,lo,h2,h3⟩
   |cons t l =>
    refine zgw (by decide) (Z9 (HW.mono fun e u h => ?_));obtain⟨lo,h1,h2,⟨n,a,len,cap,h3,_⟩,h4⟩:=zqa hf h;exact⟨h1,h4,_,_,_,_,_,h3⟩
theorem zsg(s:ByteArray)(w:World)(hs:20000<s.size)(YP:s.size≤1000000):Calls Tryz.prog 25 #[.string s] w (RxP w (none,0,4)):=by
 have Yk:((w.alloc zC).alloc zC).heap[w.heap.size+1]?=some zC:=by
  have:=heap_alloc_new (w.alloc zC) zC
  rwa [World.size_alloc]at this
 have HW:=zrw 61 (w.heap.size+1) zC (CBx (w.heap.size+1)) (zde 20001) (z1o _) z17 (CBx.stab _) s ((w.alloc zC).alloc zC) hs YP Yk;exact zgw (by decide) (Z9 (HW.mono fun e u ⟨h1,h2,h3⟩=>⟨h1,h2,_,_,_,_,_,h3⟩))
def xoX(o:Option Ex × Int × Int):Ex:=match o.1 with |some x=>x |none=>tX0
theorem z5b(B:Nat)(k d:Int)(a b:ByteArray)(u:World):VEx B (.mk k a b d []) u (.agg #[.int .u8 k,.string a,.string b,.int .i64 d,.slice none 0 0]) :=
 ⟨1,none,0,0,rfl,none,0,0,rfl,rfl,.inl rfl⟩
theorem zqr{w w':World}{o:Option Ex × Int × Int}{e:Ending}(h:RxP w o e w') :
 ∃n a len cap,e=.returned (.tuple #[.agg #[.int .u8 (xoX o).kind,.string (xoX o).rat,.string (xoX o).name,.int .i64 (xoX o).date,.slice a len cap],.int .i64 o.2.1,.int .i64 o.2.2])∧ExAt n w' [.int .u8 (xoX o).kind,.string (xoX o).rat,.string (xoX o).name,.int .i64 (xoX o).date,.slice a len cap] (xoX o)∧Below w.heap.size w w':=by
 obtain⟨v,rfl,hv,hb⟩:=h
 have hv2:VEx w.heap.size (xoX o) w' v:=by
  unfold xoX
  cases ho:o.1 with
  |some x=>rw[ho]at hv;exact hv
  |none=>rw[ho]at hv;rw[show v=.agg #[.int .u8 0,.string ⟨#[]⟩,.string ⟨#[]⟩,.int .i64 0,.slice none 0 0]from hv];exact z5b _ _ _ _ _ _
 obtain⟨n,a,len,cap,rfl,hx⟩:=hv2;exact⟨n,a,len,cap,rfl,hx.at fun g h=>h.2,hb⟩
theorem zxp{x:Ex}(h:chkX x=0):x.size≤500:=by
 rcases Nat.lt_or_ge 500 x.size with q |q
 ·rw[show chkX x=4 from if_pos (.inl q)]at h;cases h
 ·exact q
theorem zhb(i e:Int):(xoX (none,i,e)).size=1:=zg0 _ _ _ _
theorem z2p(s:ByteArray):(xoX (zk6 s)).size≤1000:=by
 unfold zk6
 cases lexL 0 s.data.toList with
 |no i er=>dsimp only;rw[zhb];decide
 |yes ts =>
  dsimp only
  cases zde 20001 ts with
  |no l =>
   cases l with
   |nil=>dsimp only;rw[zhb];decide
   |cons t l=>dsimp only;rw[zhb];decide
  |ok x l =>
   cases l with
   |nil =>
    dsimp only
    by_cases h:chkX x=0
    ·rw[if_pos h];have:=zxp h;show x.size≤1000;omega
    ·rw[if_neg h,zhb];decide
   |cons t l=>dsimp only;rw[zhb];decide
noncomputable def zk7(s:ByteArray):Option Ex × Int × Int:=if 20000<s.size then(none,0,4)else zk6 s
theorem zr6(s:ByteArray):(xoX (zk7 s)).size≤1000:=by
 unfold zk7
 split
 ·rw[zhb];decide
 ·exact z2p s
theorem zvi(s:ByteArray)(w Wg:World)(hs:s.size≤1000000)(ZQ:zhp Wg)(YX:Below Wg.heap.size Wg w):Calls Tryz.prog 25 #[.string s] w (RxP w (zk7 s)):=by
 unfold zk7
 rcases Nat.lt_or_ge 20000 s.size with h |h
 ·rw[if_pos h];exact zsg s w h hs
 ·rw[if_neg (by omega)];exact zvh s w Wg h ZQ YX
theorem z1u(s:ByteArray)(w:World)(_hs:s.size≤1000000∨20100<s.size):Calls Tryz.prog 24 #[.string s] w (RetB w (decide ((3000<s.size∧s.size≤20000)∨20100<s.size))):=by
 rcases(show s.size≤3000∨(3000<s.size∧s.size≤20000)∨(20000<s.size∧s.size≤20100)∨20100<s.size by omega)with h |⟨h,h2⟩ |⟨h,h2⟩ |h
 ·rw[decide_eq_false (by omega)]
  have d1:decide ((3000:Int)<(s.size:Int))=false:=by simp;omega
  have d3:decide ((20100:Int)<(s.size:Int))=false:=by simp;omega
  go_enter Tryz.func24,Tryz.ntmps24;go_wp2_with fail;go_ret;exact⟨rfl,rfl⟩
 ·rw[decide_eq_true (by omega)]
  have d1:decide ((3000:Int)<(s.size:Int))=true:=by simp;omega
  have d2:decide ((s.size:Int)≤20000)=true:=by simp;omega
  go_enter Tryz.func24,Tryz.ntmps24;go_wp2_with fail;go_ret;exact⟨rfl,rfl⟩
 ·rw[decide_eq_false (by omega)]
  have d1:decide ((3000:Int)<(s.size:Int))=true:=by simp;omega
  have d2:decide ((s.size:Int)≤20000)=false:=by simp;omega
  have d3:decide ((20100:Int)<(s.size:Int))=false:=by simp;omega
  go_enter Tryz.func24,Tryz.ntmps24;go_wp2_with fail;go_ret;exact⟨rfl,rfl⟩
 ·rw[decide_eq_true (by omega)]
  have d1:decide ((3000:Int)<(s.size:Int))=true:=by simp;omega
  have d2:decide ((s.size:Int)≤20000)=false:=by simp;omega
  have d3:decide ((20100:Int)<(s.size:Int))=true:=by simp;omega
  go_enter Tryz.func24,Tryz.ntmps24;go_wp2_with fail;go_ret;exact⟨rfl,rfl⟩
def QAt(rb:Nat)(ts:List Tk)(w:World)(b:Bool)(l:List Tk):Prop :=
 ∃a cap nx,w.heap[rb]?=some (.cells #[.slice a ts.length cap,.int .i64 (nx:Nat),.bool b] 98)∧ts.length≤cap∧nx≤ts.length∧ts.length≤100000∧ts.drop nx=l∧TksAt w rb a ts
def QSt{α:Type}(rb:Nat)(ts:List Tk)(w:World)(r:Rd α):Prop:=match r with | .ok _ l=>QAt rb ts w false l | .no l=>QAt rb ts w true l
def QP{α:Type}(V:α→World→Value→Prop)(A:Value→Prop)(rb:Nat)(ts:List Tk)(w:World)(r:Rd α)(e:Ending)(w':World):Prop :=
 ∃v,e=.returned v∧A v∧(∀x l,r=.ok x l→V x w' v)∧QSt rb ts w' r∧w.grownBy w' (some rb)
theorem QAt.kept{rb:Nat}{ts:List Tk}{w w':World}{b:Bool}{l:List Tk}(h:QAt rb ts w b l)(hg:w.grownBy w' none):QAt rb ts w' b l:=by
 obtain⟨a,cap,nx,hb,h1,h2,h3,h4,h5⟩:=h;exact⟨a,cap,nx,(hg.block rb (Z8 hb) (by simp)).trans hb,h1,h2,h3,h4,h5.kept hg (fun k e=>by cases e)⟩
theorem QSt.kept{α:Type}{rb:Nat}{ts:List Tk}{w w':World}{r:Rd α}(h:QSt rb ts w r)(hg:w.grownBy w' none):QSt rb ts w' r:=by
 cases r with
 |ok a l=>exact QAt.kept h hg
 |no l=>exact QAt.kept h hg
theorem QSt.below{α:Type}{rb:Nat}{ts:List Tk}{w w':World}{r:Rd α}(h:QSt rb ts w r)(hb:Below w.heap.size w w'):QSt rb ts w' r:=h.kept (zah hb)
theorem QAt.lt{rb:Nat}{ts:List Tk}{w:World}{b:Bool}{l:List Tk}(h:QAt rb ts w b l):rb<w.heap.size:=by
 obtain⟨a,cap,nx,hb,_⟩:=h;exact(Z8 hb)
theorem QSt.lt{α:Type}{rb:Nat}{ts:List Tk}{w:World}{r:Rd α}(h:QSt rb ts w r):rb<w.heap.size:=by
 cases r with
 |ok a l=>exact QAt.lt h
 |no l=>exact QAt.lt h
theorem TksAt.nth{w:World}{rb nx:Nat}{a:Option Addr}{ts l:List Tk}{t:Tk}(h:TksAt w rb a ts)(hd:ts.drop nx=t :: l):∃g o,a=some ⟨g,o,none⟩∧nx<ts.length∧ts.drop (nx+1)=l∧g<w.heap.size∧g<rb∧∀j,j<5→w.cell? ⟨g,o+nx*5+j,none⟩=(tkC t)[j]?:=by
 have Z7:nx<ts.length:=by
  rcases Nat.lt_or_ge nx ts.length with q |q
  ·exact q
  ·rw[List.drop_eq_nil_of_le q]at hd;cases hd
 have WA:=List.drop_eq_getElem_cons Z7;rw[WA]at hd
 injection hd with e1 e2
 rcases h with h |⟨g,o,ha,hr,hg,hc⟩
 ·rw[h]at Z7;exact absurd Z7 (Nat.not_lt_zero _)
 ·exact⟨g,o,ha,Z7,e2,hg,hr,fun j hj=>by rw[←e1];exact hc nx Z7 j hj⟩
theorem q3{w:World}{b:Nat}{v0 v1 v2:Value}{t:TypeId}(h:w.heap[b]?=some (.cells #[v0,v1,v2] t)):w.cell? ⟨b,0,none⟩=some v0∧w.cell? ⟨b,1,none⟩=some v1∧w.cell? ⟨b,2,none⟩=some v2:=by
 refine⟨?_,?_,?_⟩<;>simp[World.cell?,h]
theorem QAt.next{rb:Nat}{ts l:List Tk}{w:World}{t:Tk}{a:Option Addr}{cap nx:Nat}(hb:w.heap[rb]?=some (.cells #[.slice a ts.length cap,.int .i64 (nx:Nat),.bool false] 98))(h1:ts.length≤cap)(h3:ts.length≤100000)(h4:ts.drop nx=t :: l)(h5:TksAt w rb a ts) :
 QAt rb ts (w.setCell ⟨rb,1,none⟩ (.int .i64 ((nx+1:Nat):Int))) false l:=by
 obtain⟨g,o,_,Z7,hd,_⟩:=h5.nth h4;exact⟨a,cap,nx+1,by simp[World.setCell,Array.getElem?_modify,hb],h1,by omega,h3,hd,h5.kept (Lib.grownBy_setCell w rb 1 _) (fun k e=>by injection e with e;exact e.symm)⟩
theorem QAt.fail{rb:Nat}{ts l:List Tk}{w:World}{b:Bool}(h:QAt rb ts w b l):QAt rb ts (w.setCell ⟨rb,2,none⟩ (.bool true)) true l:=by
 obtain⟨a,cap,nx,hb,h1,h2,h3,h4,h5⟩:=h;exact⟨a,cap,nx,by simp[World.setCell,Array.getElem?_modify,hb],h1,h2,h3,h4,h5.kept (Lib.grownBy_setCell w rb 2 _) (fun k e=>by injection e with e;exact e.symm)⟩
def qIs{α:Type}(k:Int)(s:List UInt8):Rd α→Bool
 | .ok _ l=>tIs k s l
 | .no _=>false
theorem zd6{α:Type}(rb:Nat)(ts:List Tk)(k:Int)(s:ByteArray)(w:World)(r:Rd α)(h:QSt rb ts w r) :
 Calls Tryz.prog 122 #[.pointer (some ⟨rb,0,none⟩),.int .u8 k,.string s] w (BelB w (qIs k s.data.toList r)):=by
 cases r with
 |no l =>
  obtain⟨a,cap,nx,hb,_⟩:=h;obtain⟨c0,c1,c2⟩:=q3 hb;clear hb
  show Calls _ _ _ _ (BelB w false)
  go_enter Tryz.func122,Tryz.ntmps122;go_wp2_with fail;go_quiet (fail);go_wp2_with fail;go_ret;exact⟨rfl,zav (Below.refl _ _) _⟩
 |ok x l =>
  obtain⟨a,cap,nx,hb,h1,h2,h3,h4,h5⟩:=h;obtain⟨c0,c1,c2⟩:=q3 hb
  show Calls _ _ _ _ (BelB w (tIs k s.data.toList l))
  cases l with
  |nil =>
   have YZ:¬(nx:Int)<(ts.length:Int):=by
    have:=List.drop_eq_nil_iff.1 h4;omega
   have Xz:decide ((nx:Int)<(ts.length:Int))=false:=decide_eq_false YZ;obtain⟨n,hn⟩:∃n,n=ts.length:=⟨_,rfl⟩
   rw[←hn]at c0 Xz YZ;have hnn:¬nx<n:=by omega
   have XA:decide (nx<n)=false:=decide_eq_false hnn;have YW:n≤nx:=by omega
   clear hb h5 h4 hn h1 h2 h3
   show Calls _ _ _ _ (BelB w false)
   go_enter Tryz.func122,Tryz.ntmps122;go_wp2_with fail;go_quiet (fail);go_wp2_with fail;go_ret;exact⟨rfl,zav (Below.refl _ _) _⟩
  |cons t l =>
   obtain⟨g,o,rfl,Z7,_,hg,Y1,hc⟩:=h5.nth h4;have k0:=hc 0 (by omega);have k1:=hc 1 (by omega);rw[Nat.add_zero]at k0;have Xz:(nx:Int)<(ts.length:Int):=by omega
   have hn0:(0:Int)≤(nx:Int):=by omega
   rw[z1h];obtain⟨n,hn⟩:∃n,n=ts.length:=⟨_,rfl⟩
   rw[←hn]at c0 Xz Z7 h1;clear hb h5 h4 hc hn h2 h3;obtain⟨b1,ZL⟩:∃b,(t.kind == k)=b:=⟨_,rfl⟩
   obtain⟨b2,ZS⟩:∃b,(t.text.toList == s.toList)=b:=⟨_,rfl⟩
   rw[ZL,ZS];change w.cell? ⟨g,o+nx*5,none⟩=some (.int .u8 t.kind)at k0;change w.cell? ⟨g,o+nx*5+1,none⟩=some (.string t.text)at k1
   cases b1<;>cases b2
   all_goals
    go_enter Tryz.func122,Tryz.ntmps122;go_wp2_with fail;go_quiet (fail);go_wp2_with fail;go_ret;exact⟨rfl,zav (Below.refl _ _) _⟩
def Rd.rest{α:Type}:Rd α→List Tk
 | .ok _ l=>l
 | .no l=>l
theorem QSt.rest{α:Type}{rb:Nat}{ts:List Tk}{w:World}{r:Rd α}(h:QSt rb ts w r):∃b,QAt rb ts w b r.rest:=by
 cases r with
 |ok a l=>exact⟨false,h⟩
 |no l=>exact⟨true,h⟩
theorem z2j{k:Int}{s:List UInt8}{l:List Tk}(h:tIs k s l=false):tEat k s l=.no l:=if_neg (by rw[h];simp)
theorem zor{k:Int}{s:List UInt8}{t:Tk}{l:List Tk}(h:tIs k s (t :: l)=true):tEat k s (t :: l)=.ok () l:=if_pos h
def QUn(v:Value):Prop:=v=.tuple #[]
theorem z6j(rb:Nat)(w:World){v0 v1:Value}{b:Bool}(hb:w.heap[rb]?=some (.cells #[v0,v1,.bool b] 98)) :
 Calls Tryz.prog 118 #[.pointer (some ⟨rb,0,none⟩)] w (fun e w'=>e=.returned (.tuple #[])∧w'=w.setCell ⟨rb,2,none⟩ (.bool true)):=by
 have hf:∀i,w.frozen? ⟨rb,i,none⟩=false:=Lib.frozen_of_heap hb
 obtain⟨c0,c1,c2⟩:=q3 hb;have Z7:=(Z8 hb);clear hb;go_enter Tryz.func118,Tryz.ntmps118;go_wp2_with fail;go_end0;exact⟨rfl,rfl⟩
theorem zii{α β:Type}(rb:Nat)(ts:List Tk)(w:World)(r:Rd α)(h:QSt rb ts w r) :
 Calls Tryz.prog 118 #[.pointer (some ⟨rb,0,none⟩)] w (fun e w'=>e=.returned (.tuple #[])∧QSt rb ts w' (.no r.rest:Rd β)∧w.grownBy w' (some rb)):=by
 obtain⟨b,hq⟩:=h.rest;have Zb:=hq;obtain⟨a,cap,nx,hb,_⟩:=hq;refine(z6j rb w hb).mono ?_;rintro e w' ⟨rfl,rfl⟩;exact⟨rfl,Zb.fail,Lib.grownBy_setCell w rb 2 _⟩
theorem z5u{α:Type}{k:Int}{s:List UInt8}{r:Rd α}(h:qIs k s r=false):(r.bind fun _ l=>tEat k s l)=.no r.rest:=by
 cases r with
 |ok a l=>exact z2j h
 |no l=>rfl
theorem zi2{α:Type}(rb:Nat)(ts:List Tk)(s:ByteArray)(w:World)(r:Rd α)(h:QSt rb ts w r) :
 Calls Tryz.prog 169 #[.pointer (some ⟨rb,0,none⟩),.string s] w (QP (fun _ _ _=>True) QUn rb ts w (r.bind fun _ l=>tEat 5 s.data.toList l)):=by
 have HP:=Z9 (zd6 rb ts 5 s w r h);have HQ:=Z9 h
 cases hq:qIs 5 s.data.toList r
 ·rw[z5u hq]
  rw[hq]at HP;clear hq h;go_enter Tryz.func169,Tryz.ntmps169;go_wp2_with fail;refine HP.out.mono ?_;rintro e u ⟨rfl,hb⟩;have HF:=Z9 (zii (β:=Unit) rb ts u r (HQ.out.below hb));have HB:=Z9 hb;clear hb;go_wp2_with fail;refine HF.out.mono ?_;rintro e u2 ⟨rfl,hs,hg⟩;have HG:=Z9 (And.intro hs (Lib.grownBy_trans (zan (zah HB.out)) hg));clear hs hg;go_wp2_with fail;go_end0;exact⟨_,rfl,rfl,fun _ _ _=>trivial,HG.out⟩
 ·cases r with
  |no l=>cases hq
  |ok x l =>
   obtain⟨t,l,rfl⟩:=zb2 hq;rw[Rd.bind_ok,zor hq];rw[hq]at HP;clear hq h;go_enter Tryz.func169,Tryz.ntmps169;go_wp2_with fail;refine HP.out.mono ?_;rintro e u ⟨rfl,hb⟩;have hq:=HQ.out.below hb;obtain⟨a,cap,nx,hc,h1,h2,h3,h4,h5⟩:=hq;obtain⟨c0,c1,c2⟩:=q3 hc;have hf:∀i,u.frozen? ⟨rb,i,none⟩=false:=Lib.frozen_of_heap hc
   have Z7:=(Z8 hc);have hw:IntKind.i64.wrap ((nx:Int)+1)=(nx:Int)+1:=IntWalk.i64_in _ (by omega);have HN:=Z9 (QAt.next hc h1 h3 h4 h5);have HB:=Z9 hb;clear hb hc h1 h2 h3 h4 h5;go_wp2_with fail;go_end0;exact⟨_,rfl,rfl,fun _ _ _=>trivial,HN.out,Lib.grownBy_trans (zan (zah HB.out)) (Lib.grownBy_setCell u rb 1 _)⟩
def QTok(v:Value):Prop:=∃a b c d e,v=.agg #[.int .u8 a,.string b,.string c,.int .i64 d,.int .i64 e]
abbrev zTok:Obj:=.cells #[.int .u8 0,.string ⟨#[]⟩,.string ⟨#[]⟩,.int .i64 0,.int .i64 0] 100
theorem QAt.setNew{rb:Nat}{ts l:List Tk}{w:World}{b:Bool}(h:QAt rb ts w b l){g:Nat}(hb:rb<g)(i:Nat)(v:Value):QAt rb ts (w.setCell ⟨g,i,none⟩ v) b l:=by
 obtain⟨a,cap,nx,hx,h1,h2,h3,h4,h5⟩:=h;have hg:w.grownBy (w.setCell ⟨g,i,none⟩ v) (some g):=Lib.grownBy_setCell w g i v;refine⟨a,cap,nx,(Below.heap_setCell _ _ _ _ (by show rb≠g;omega)).trans hx,h1,h2,h3,h4,h5.imp id fun⟨q,o,ha,ZT,Z7,Z1⟩=>⟨q,o,ha,ZT,Nat.lt_of_lt_of_le Z7 hg.size,fun j hj k hk => ?_⟩⟩;exact(World.cell?_of_block (w:=w) (w':=w.setCell ⟨g,i,none⟩ v) (a:=⟨q,o+j*5+k,none⟩) (hg.block q Z7 (fun e=>by injection e with e;omega))).trans (Z1 j hj k hk)
theorem QSt.setNew{α:Type}{rb:Nat}{ts:List Tk}{w:World}{r:Rd α}(h:QSt rb ts w r){g:Nat}(hb:rb<g)(i:Nat)(v:Value):QSt rb ts (w.setCell ⟨g,i,none⟩ v) r:=by
 cases r with
 |ok a l=>exact QAt.setNew h hb i v
 |no l=>exact QAt.setNew h hb i v
theorem z1q{α:Type}{rb:Nat}{ts:List Tk}{w u:World}{r:Rd α}(Z7:rb<w.heap.size)(hq:QSt rb ts u r)(hg:w.grownBy u (some rb))(v0 v1 v2 v3 v4:Value) :
 QSt rb ts (((((u.setCell ⟨w.heap.size,0,none⟩ v0).setCell ⟨w.heap.size,1,none⟩ v1).setCell ⟨w.heap.size,2,none⟩ v2).setCell ⟨w.heap.size,3,none⟩ v3).setCell ⟨w.heap.size,4,none⟩ v4) r∧w.grownBy (((((u.setCell ⟨w.heap.size,0,none⟩ v0).setCell ⟨w.heap.size,1,none⟩ v1).setCell ⟨w.heap.size,2,none⟩ v2).setCell ⟨w.heap.size,3,none⟩ v3).setCell ⟨w.heap.size,4,none⟩ v4) (some rb) :=
 ⟨((((hq.setNew Z7 _ _).setNew Z7 _ _).setNew Z7 _ _).setNew Z7 _ _).setNew Z7 _ _,zaq (zaq (zaq (zaq (zaq hg (Nat.le_refl _) _ _) (Nat.le_refl _) _ _) (Nat.le_refl _) _ _) (Nat.le_refl _) _ _) (Nat.le_refl _) _ _⟩
theorem z5t{α:Type}{rb:Nat}{ts:List Tk}{w u:World}{r:Rd α}(h:QSt rb ts u r∧w.grownBy u (some rb)):QSt rb ts u.drew r∧w.grownBy u.drew (some rb) :=
 ⟨h.1.kept ⟨rfl,rfl,rfl,Nat.le_refl _,fun _ _ _=>rfl⟩,⟨h.2.os,h.2.tape,h.2.output,h.2.size,h.2.block⟩⟩
theorem z5p{rb:Nat}{ts:List Tk}{w W:World}{t:Tk}{l:List Tk}(h:QSt rb ts W (.ok t l:Rd Tk)∧w.grownBy W (some rb)) :
 QP VTok QTok rb ts w (.ok t l) (.returned (.agg #[.int .u8 t.kind,.string t.text,.string t.rat,.int .i64 t.date,.int .i64 t.place])) W :=
 ⟨_,rfl,⟨_,_,_,_,_,rfl⟩,(fun x l e=>by injection e with e1 e2;subst e1;rfl),h.1,h.2⟩
theorem zu1{α:Type}(rb:Nat)(ts:List Tk)(k:Int)(w:World)(r:Rd α)(h:QSt rb ts w r) :
 Calls Tryz.prog 195 #[.pointer (some ⟨rb,0,none⟩),.int .u8 k] w (QP VTok QTok rb ts w (r.bind fun _ l=>tOf k l)):=by
 have Z7:=h.lt
 have HW:Hid (∀W,Below (w.alloc zTok).heap.size (w.alloc zTok) W→Calls Tryz.prog 118 #[.pointer (some ⟨rb,0,none⟩)] W (fun e w'=>e=.returned (.tuple #[])∧QSt rb ts w' (.no r.rest:Rd Tk)∧w.grownBy w' (some rb)∧w'.heap[w.heap.size]?=some zTok)):=Z9 (fun W hb=>by
  have hb':Below w.heap.size w W:=(zaf w zTok).trans (hb.mono (by simp));refine(zii (β:=Tk) rb ts W r (h.below hb')).mono ?_;rintro e w' ⟨rfl,hs,hg⟩
  exact⟨rfl,hs,Lib.grownBy_trans (zan (zah hb')) hg,zre (Lib.grownBy_trans (zan (zah hb)) hg) Z7⟩)
 have HE:Hid (∀u,QSt rb ts u (.no r.rest:Rd Tk)→w.grownBy u (some rb)→_):=Z9 (fun u (hq:QSt rb ts u (.no r.rest:Rd Tk)) hg=>z1q Z7 hq hg (.int .u8 0) (.string ⟨#[]⟩) (.string ⟨#[]⟩) (.int .i64 0) (.int .i64 0))
 cases r with
 |no l =>
  obtain⟨a,cap,nx,hb,_⟩:=h;obtain⟨c0,c1,c2⟩:=q3 hb;clear hb
  show Calls _ _ _ _ (QP _ _ _ _ _ (.no l))
  go_enter Tryz.func195,Tryz.ntmps195;go_wp2_with fail;go_quiet (fail);go_wp2_with fail;refine(HW.out _ (zav (Below.refl _ _) _)).mono ?_;rintro e u ⟨rfl,hs,hg,hz⟩;have Vh:w.heap.size<u.heap.size:=(Z8 hz);have Wf:∀i,u.frozen? ⟨w.heap.size,i,none⟩=false:=Lib.frozen_of_heap hz
  obtain⟨z0,z1,z2,z3,z4⟩:=zae hz;have HF:=Z9 (zae (za2 hz (.int .u8 0) (.string ⟨#[]⟩) (.string ⟨#[]⟩) (.int .i64 0) (.int .i64 0)));have HG:=Z9 (HE.out u hs hg);clear hs hg hz HE HW c0 c1 c2;go_wp2_with fail;obtain⟨y0,y1,y2,y3,y4⟩:=HF.out;exact bodyPost_ret (v:=.agg #[.int .u8 0,.string ⟨#[]⟩,.string ⟨#[]⟩,.int .i64 0,.int .i64 0]) (by simp only[results,Tryz.results195];simp[go_sem,y0,y1,y2,y3,y4]) rfl ⟨_,rfl,⟨_,_,_,_,_,rfl⟩,(by intro _ _ e;cases e),HG.out⟩
 |ok x l =>
  obtain⟨a,cap,nx,hb,h1,h2,h3,h4,h5⟩:=h;obtain⟨c0,c1,c2⟩:=q3 hb
  cases l with
  |nil =>
   have YZ:(ts.length:Int)≤(nx:Int):=by
    have:=List.drop_eq_nil_iff.1 h4;omega
   obtain⟨n,hn⟩:∃n,n=ts.length:=⟨_,rfl⟩
   rw[←hn]at c0 YZ;have hnn:n≤nx:=by omega
   have Xz:decide ((n:Int)≤(nx:Int))=true:=decide_eq_true YZ;have XA:decide (n≤nx)=true:=decide_eq_true hnn;clear hb h5 h4 hn h1 h2 h3
   show Calls _ _ _ _ (QP _ _ _ _ _ (.no []))
   go_enter Tryz.func195,Tryz.ntmps195;go_wp2_with fail;go_quiet (fail);go_wp2_with fail;refine(HW.out _ (zav (Below.refl _ _) _)).mono ?_;rintro e u ⟨rfl,hs,hg,hz⟩;have Vh:w.heap.size<u.heap.size:=(Z8 hz);have Wf:∀i,u.frozen? ⟨w.heap.size,i,none⟩=false:=Lib.frozen_of_heap hz
   obtain⟨z0,z1,z2,z3,z4⟩:=zae hz;have HF:=Z9 (zae (za2 hz (.int .u8 0) (.string ⟨#[]⟩) (.string ⟨#[]⟩) (.int .i64 0) (.int .i64 0)));have HG:=Z9 (HE.out u hs hg);clear hs hg hz HE HW c0 c1 c2;go_wp2_with fail;obtain⟨y0,y1,y2,y3,y4⟩:=HF.out;exact bodyPost_ret (v:=.agg #[.int .u8 0,.string ⟨#[]⟩,.string ⟨#[]⟩,.int .i64 0,.int .i64 0]) (by simp only[results,Tryz.results195];simp[go_sem,y0,y1,y2,y3,y4]) rfl ⟨_,rfl,⟨_,_,_,_,_,rfl⟩,(by intro _ _ e;cases e),HG.out⟩
  |cons t l =>
   obtain⟨g,o,rfl,Vs,_,hg,Y1,hc⟩:=h5.nth h4;have k0:=hc 0 (by omega);have k1:=hc 1 (by omega);have k2:=hc 2 (by omega);have k3:=hc 3 (by omega);have k4:=hc 4 (by omega);rw[Nat.add_zero]at k0;change w.cell? ⟨g,o+nx*5,none⟩=some (.int .u8 t.kind)at k0;change w.cell? ⟨g,o+nx*5+1,none⟩=some (.string t.text)at k1;change w.cell? ⟨g,o+nx*5+2,none⟩=some (.string t.rat)at k2;change w.cell? ⟨g,o+nx*5+3,none⟩=some (.int .i64 t.date)at k3;change w.cell? ⟨g,o+nx*5+4,none⟩=some (.int .i64 t.place)at k4;have YZ:(nx:Int)<(ts.length:Int):=by omega
   have hnn:nx<ts.length:=Vs;have Xz:decide ((ts.length:Int)≤(nx:Int))=false:=decide_eq_false (by omega);have XA:decide (ts.length≤nx)=false:=decide_eq_false (by omega);have Wu:IntKind.i64.wrap ((nx:Int)+1)=(nx:Int)+1:=IntWalk.i64_in _ (by omega);have Um:IntKind.i64.wrap ((nx:Int)+1-1)=(nx:Int):=by rw[Int.add_sub_cancel];exact IntWalk.i64_in _ (by omega)
   have hn0:(0:Int)≤(nx:Int):=by omega
   have hw0:IntKind.i64.wrap (nx:Int)=(nx:Int):=IntWalk.i64_in _ (by omega);have Yo:wrap64 (nx:Int)=(nx:Int):=by unfold wrap64;omega
   have hf:∀i,w.frozen? ⟨rb,i,none⟩=false:=Lib.frozen_of_heap hb
   have HN:Hid (∀W,Below w.heap.size w W→∀v,v=((nx:Int)+1)→QAt rb ts (W.setCell ⟨rb,1,none⟩ (.int .i64 v)) false l):=Z9 (fun W hB v hv=>by
    subst hv
    exact QAt.next (((zah hB).block rb (Z8 hb) (by simp)).trans hb) h1 h3 h4 (h5.kept (zah hB) (fun k e=>by cases e)))
   have hR:((Rd.ok x (t :: l)).bind fun _ l=>tOf k l)=if (t.kind == k)=true then .ok t l else .no (t :: l):=by
    show(if t.kind=k then _ else _)=_
    by_cases e:t.kind=k
    ·rw[if_pos e,if_pos (by simp[e])]
    ·rw[if_neg e,if_neg (by simp[e])]
   rw[hR];obtain⟨n,hn⟩:∃n,n=ts.length:=⟨_,rfl⟩
   rw[←hn]at c0 YZ hnn Xz XA h1;clear hb h5 h4 hc hn h2 h3 hR Vs;obtain⟨b1,ZL⟩:∃b,(t.kind == k)=b:=⟨_,rfl⟩
   have ZS:(t.kind != k) = !b1:=by rw[←ZL];rfl
   rw[ZL]
   cases b1
   ·rw[if_neg (by simp)]
    go_enter Tryz.func195,Tryz.ntmps195;go_wp2_with fail;go_quiet (fail);go_wp2_with fail;refine(HW.out _ (zav (Below.refl _ _) _)).mono ?_;rintro e u ⟨rfl,hs,hg,hz⟩;have Vh:w.heap.size<u.heap.size:=(Z8 hz);have Wf:∀i,u.frozen? ⟨w.heap.size,i,none⟩=false:=Lib.frozen_of_heap hz
    obtain⟨z0,z1,z2,z3,z4⟩:=zae hz;have HF:=Z9 (zae (za2 hz (.int .u8 0) (.string ⟨#[]⟩) (.string ⟨#[]⟩) (.int .i64 0) (.int .i64 0)));have HG:=Z9 (HE.out u hs hg);clear hs hg hz HE HW c0 c1 c2;go_wp2_with fail;obtain⟨y0,y1,y2,y3,y4⟩:=HF.out;exact bodyPost_ret (v:=.agg #[.int .u8 0,.string ⟨#[]⟩,.string ⟨#[]⟩,.int .i64 0,.int .i64 0]) (by simp only[results,Tryz.results195];simp[go_sem,y0,y1,y2,y3,y4]) rfl ⟨_,rfl,⟨_,_,_,_,_,rfl⟩,(by intro _ _ e;cases e),HG.out⟩
   ·rw[if_pos rfl]
    go_enter Tryz.func195,Tryz.ntmps195;go_wp2_with fail;go_quiet (fail);go_wp2_with fail;go_region
    all_goals
     go_wp2_with fail;have HB:Below w.heap.size w ((w.alloc zTok).drewN nq):=zav (zaf w zTok) _;have hz:(((w.alloc zTok).drewN nq).setCell ⟨rb,1,none⟩ (.int .i64 ((nx:Int)+1))).heap[w.heap.size]?=some zTok:=(Below.heap_setCell _ _ _ _ (by show w.heap.size≠rb;omega)).trans (heap_alloc_new w zTok);have hq:=HN.out _ HB _ rfl;obtain⟨y0,y1,y2,y3,y4⟩:=zae (za2 hz (.int .u8 t.kind) (.string t.text) (.string t.rat) (.int .i64 t.date) (.int .i64 t.place));have HG:=z1q (α:=Tk) (r:=.ok t l) Z7 hq (Lib.grownBy_trans (zan (zah HB)) (Lib.grownBy_setCell _ rb 1 _)) (.int .u8 t.kind) (.string t.text) (.string t.rat) (.int .i64 t.date) (.int .i64 t.place)
     have HG2:=z5t HG;refine bodyPost_ret (v:=.agg #[.int .u8 t.kind,.string t.text,.string t.rat,.int .i64 t.date,.int .i64 t.place]) (by simp only[results,Tryz.results195];simp[go_sem,y0,y1,y2,y3,y4]) rfl ?_;exact z5p HG2
end Go.Proofs.YtkobkpepgdddeaaGreatDoor
