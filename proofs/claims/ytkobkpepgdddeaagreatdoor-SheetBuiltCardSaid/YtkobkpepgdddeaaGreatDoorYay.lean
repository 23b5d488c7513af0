/-
  A node that is well-formed: the program's node, walked. No condition but the size.
-/
import Derived.Test.YtkobkpepgdddeaaGreatDoorYav
import Derived.Laws.EntriesVeiled
namespace Go.Proofs.YtkobkpepgdddeaaGreatDoor
open Go.RowKit
set_option maxHeartbeats 16000000
set_option maxRecDepth 100000
theorem z3d{Wg:World}(YN:zcr Wg)(n:Nat)(x:Ct)(cs:List Value)(w:World)(h:CtIn n x cs w Wg)(hG:x.kind=6∨x.kind=7):Calls Tryz.prog 103 #[.agg cs.toArray] w (BelB w (zdf x)):=by
 cases n with
 |zero=>exact h.at_.elim
 |succ n =>
  obtain⟨ea,el,ec,da,dl,dc,a,len,cap,rfl,Yu,YZ,Z6,ZC⟩:=h.at_;have hdl:=YZ.1;have hd200:=h.dates;have ZH:len≤3000:=by have:=h.len;omega
  have Zq:x.expr.sub.length=el:=by
   obtain⟨a',l',c',he,hl,_⟩:=Yu
   injection he with _ he;injection he with _ he;injection he with _ he;injection he with _ he;injection he with he _
   injection he with _ he _
   rw[hl,he]
  obtain⟨⟨YL,Zh⟩,_⟩:=h.kok;obtain⟨R,hR⟩:∃R,R=zdf x:=⟨_,rfl⟩
  rw[←hR];obtain⟨W0,Z7⟩:∃W0,W0=w.alloc (.cells #[.int .u8 x.kind,.string x.frm,.string x.too,.string x.name,.int .u8 x.expr.kind,.string x.expr.rat,.string x.expr.name,.int .i64 x.expr.date,.slice ea el ec,.int .i64 x.date,.slice da dl dc,.slice a len cap] 40):=⟨_,rfl⟩
  have Z2:W0.heap[w.heap.size]?=some (.cells #[.int .u8 x.kind,.string x.frm,.string x.too,.string x.name,.int .u8 x.expr.kind,.string x.expr.rat,.string x.expr.name,.int .i64 x.expr.date,.slice ea el ec,.int .i64 x.date,.slice da dl dc,.slice a len cap] 40):=by rw[Z7];exact heap_alloc_new w _
  have hB0:Below w.heap.size w W0:=by rw[Z7];exact zaa w _
  have ZS:W0.heap.size=w.heap.size+1:=by rw[Z7];simp
  have HIN0:=Z9 (h.below hB0);have YR:Below Wg.heap.size Wg W0:=h.old.trans (hB0.mono h.old.size);obtain⟨bm,hc,Yf⟩:=YN;have hgc:W0.cell? ⟨1,0,none⟩=some (.map (some bm)):=((zbg YR).1 _ _ (zf2 (a:=⟨_,0,none⟩) hc)).trans hc;have HKK:=Z9 (Yf x.kind YL Zh);have HBG:=Z9 YR;obtain⟨nobody,qnobody⟩:∃b,x.frm.toList.isEmpty=b:=⟨_,rfl⟩
  obtain⟨noTo,qnoTo⟩:∃b,x.too.toList.isEmpty=b:=⟨_,rfl⟩
  obtain⟨noName,qnoName⟩:∃b,x.name.toList.isEmpty=b:=⟨_,rfl⟩
  obtain⟨noDate,qnoDate⟩:∃b,(x.date == 0)=b:=⟨_,rfl⟩
  obtain⟨noDays,qnoDays⟩:∃b,((dl:Int) == 0)=b:=⟨_,rfl⟩
  obtain⟨n0,qn0⟩:∃b,((len:Int) == 0)=b:=⟨_,rfl⟩
  obtain⟨n1,qn1⟩:∃b,((len:Int) == 1)=b:=⟨_,rfl⟩
  obtain⟨n2,qn2⟩:∃b,((len:Int) == 2)=b:=⟨_,rfl⟩
  obtain⟨eq,qeq⟩:∃b,(x.frm.toList == x.too.toList)=b:=⟨_,rfl⟩
  obtain⟨noExpr,qnoExpr⟩:∃b,b=zd8 x.expr:=⟨_,rfl⟩
  obtain⟨days,qdays⟩:∃b,b=zjm x.dates:=⟨_,rfl⟩
  obtain⟨number,qnumber⟩:∃b,b=numX x.expr:=⟨_,rfl⟩
  obtain⟨truth,qtruth⟩:∃b,b=truX x.expr:=⟨_,rfl⟩
  obtain⟨party,qparty⟩:∃b,b=nmB x.frm.data.toList:=⟨_,rfl⟩
  obtain⟨word,qword⟩:∃b,b=nmB x.name.data.toList:=⟨_,rfl⟩
  obtain⟨nTo,qnTo⟩:∃b,b=nmB x.too.data.toList:=⟨_,rfl⟩
  obtain⟨day,qday⟩:∃b,b=zhw x.date:=⟨_,rfl⟩
  have HX2:Hid (R=zjk x.kind n0 n1 n2 party nTo (!eq) word nobody noTo noName noDate noDays noExpr days number truth day):=by
   show R=_
   rw[hR];unfold zdf;rw[qnobody,qnoTo,qnoName,qnoDate,hdl,Z6,qnoDays,qn0,qn1,qn2,qeq,←qnoExpr,←qdays,←qnumber,←qtruth,←qparty,←qword,←qnTo,←qday]
  have HBARE:Hid (∀W,Calls Tryz.prog 150 #[.agg #[.int .u8 x.expr.kind,.string x.expr.rat,.string x.expr.name,.int .i64 x.expr.date,.slice ea el ec]] W (BelB W noExpr)):=fun W=>by rw[qnoExpr];exact zeh x.expr ea el ec W Zq
  have HDAYS:Hid (∀W,Below W0.heap.size W0 W→Calls Tryz.prog 157 #[.slice da dl dc] W (BelB W days)):=fun W hW=>by rw[qdays];exact zgk x.dates da dl dc W (YZ.below (hB0.trans (hW.mono hB0.size))) (by omega)
  have HNUM:Hid (∀W,Below W0.heap.size W0 W→Calls Tryz.prog 40 #[.agg #[.int .u8 x.expr.kind,.string x.expr.rat,.string x.expr.name,.int .i64 x.expr.date,.slice ea el ec]] W (BelB W number)):=fun W hW=>by rw[qnumber];exact zdo (n+1) x.expr _ W Wg (HIN0.out.below hW).expr
  have HTRU:Hid (∀W,Below W0.heap.size W0 W→Calls Tryz.prog 41 #[.agg #[.int .u8 x.expr.kind,.string x.expr.rat,.string x.expr.name,.int .i64 x.expr.date,.slice ea el ec]] W (BelB W truth)):=fun W hW=>by rw[qtruth];exact zeb (n+1) x.expr _ W Wg (HIN0.out.below hW).expr
  have HDAY:Hid (∀W,Calls Tryz.prog 156 #[.int .i64 x.date] W (fun e w'=>e=.returned (.bool day)∧W=w')):=fun W=>by rw[qday];exact zc7 x.date W
  have HQ:Hid (nobody=x.frm.toList.isEmpty∧noTo=x.too.toList.isEmpty∧noName=x.name.toList.isEmpty∧party=nmB x.frm.data.toList∧nTo=nmB x.too.data.toList∧word=nmB x.name.data.toList):=⟨qnobody.symm,qnoTo.symm,qnoName.symm,qparty,qnTo,qword⟩;obtain⟨c0,c1,c2,c3,c4,c5,c6,c7,c8,c9,ca,cb⟩:=zbz Z2;have HW0:=Z9 Z7;have HB0:=Z9 hB0;have HBX:=Z9 Z2;clear qnoExpr qdays qnumber qtruth qparty qword qnTo qday qnobody qnoTo qnoName hR Z7 Z2 hB0 YR hc Yf Yu YZ Z6 ZC h
  show Calls Tryz.prog 103 #[.agg #[.int .u8 x.kind,.string x.frm,.string x.too,.string x.name,.int .u8 x.expr.kind,.string x.expr.rat,.string x.expr.name,.int .i64 x.expr.date,.slice ea el ec,.int .i64 x.date,.slice da dl dc,.slice a len cap]] w _
  obtain⟨p,hp⟩:∃p,ptsL x.kind=some p:=by
   unfold ptsL
   (repeat' split)<;>first |exact⟨_,rfl⟩ |(exfalso;omega)
  have hlook:=HKK.out.2 p hp W0 HBG.out;clear HKK;obtain⟨V,hV⟩:∃V,V=(W0.alloc (.cells #[.int .i64 p] 3)).alloc (.cells #[.func (.func 154) #[] #[.pointer (some ⟨w.heap.size+1,0,none⟩)]] 152):=⟨_,rfl⟩
  have hVg:V.heap[w.heap.size+1]?=some (.cells #[.int .i64 p] 3):=by
   rw[←ZS,hV,Below.heap_alloc _ _ _ (by simp)];exact zcx W0 _ _ rfl
  have hVh:V.heap[w.heap.size+1+1]?=some (.cells #[.func (.func 154) #[] #[.pointer (some ⟨w.heap.size+1,0,none⟩)]] 152):=by
   rw[hV];exact zcx _ _ _ (by rw[World.size_alloc,ZS])
  have hVB:Below W0.heap.size W0 V:=by rw[hV];exact(zaa W0 _).alloc (by simp) _
  have hVs:V.heap.size=W0.heap.size+2:=by rw[hV];simp
  have HBV:=Z9 hVB
  have Zi:Hid (∀W,Below V.heap.size V W→(W.cell? ⟨w.heap.size+1,0,none⟩=some (.int .i64 p)∧W.cell? ⟨w.heap.size+1+1,0,none⟩=some (.func (.func 154) #[] #[.pointer (some ⟨w.heap.size+1,0,none⟩)]))∧_):=fun W hW =>
   ⟨⟨zbf ((hW.block _ (by omega)).trans hVg) 0,zbf ((hW.block _ (by omega)).trans hVh) 0⟩,zbz ((hW.block w.heap.size (by omega)).trans ((hVB.block _ (by omega)).trans HBX.out))⟩
  have HV:=Z9 hV;clear hVg hVh hVB hV;go_enter Tryz.func103,Tryz.ntmps103
  go_upto_region 1 with(fail)
  rw[←HW0.out]
  go_upto_region 6 with(fail)
  rw[←HV.out];clear c0 c1 c2 c3 c4 c5 c6 c7 c8 c9 ca cb hlook hgc;obtain⟨⟨hg,hh⟩,c0,c1,c2,c3,c4,c5,c6,c7,c8,c9,ca,cb⟩:=Zi.out V (Below.refl _ _);have HVR:=Z9 (Below.refl V.heap.size V)
  by_cases V4:x.kind=6
  ·have YB:p=160:=by rw[V4]at hp;simpa[ptsL]using hp.symm
   subst YB;have e:R=(n1 && nobody && noTo && noName && day && noDays && noExpr):=by rw[HX2.out,V4];rfl
   have E:=Z9 e;have HWF:=Z9 (zb1 (part:=1) (s:=x.frm) (v:=nobody) hg hh (b:=false) (by rfl) (by have:=HQ.out;simp[this]));have HWT:=Z9 (zb1 (part:=2) (s:=x.too) (v:=noTo) hg hh (b:=false) (by rfl) (by have:=HQ.out;simp[this]));have HWN:=Z9 (zb1 (part:=4) (s:=x.name) (v:=noName) hg hh (b:=false) (by rfl) (by have:=HQ.out;simp[this]));clear e HX2 hp
   cases nobody with
   |false =>
    go_wp2_with fail;refine HWF.out.mono ?_;rintro e w' ⟨rfl,rfl⟩;go_wp2_with fail;go_ret;exact⟨by rw[E.out];simp,(HB0.out.trans (HBV.out.mono HB0.out.size))⟩
   |true =>
    cases noTo with
    |false =>
     go_wp2_with fail;refine HWF.out.mono ?_;rintro e w' ⟨rfl,rfl⟩;go_wp2_with fail;refine HWT.out.mono ?_;rintro e w' ⟨rfl,rfl⟩;go_wp2_with fail;go_ret;exact⟨by rw[E.out];simp,(HB0.out.trans (HBV.out.mono HB0.out.size))⟩
    |true =>
     cases noName with
     |false =>
      go_wp2_with fail;refine HWF.out.mono ?_;rintro e w' ⟨rfl,rfl⟩;go_wp2_with fail;refine HWT.out.mono ?_;rintro e w' ⟨rfl,rfl⟩;go_wp2_with fail;refine HWN.out.mono ?_;rintro e w' ⟨rfl,rfl⟩;go_wp2_with fail;go_ret;exact⟨by rw[E.out];simp,(HB0.out.trans (HBV.out.mono HB0.out.size))⟩
     |true =>
      go_wp2_with fail;refine HWF.out.mono ?_;rintro e w' ⟨rfl,rfl⟩;go_wp2_with fail;refine HWT.out.mono ?_;rintro e w' ⟨rfl,rfl⟩;go_wp2_with fail;refine HWN.out.mono ?_;rintro e w' ⟨rfl,rfl⟩;go_wp2_with fail;refine(zau hg (part:=2) (b:=false) (by rfl)).mono ?_;rintro e w' ⟨rfl,rfl⟩;go_wp2_with fail;refine(zau hg (part:=8) (b:=false) (by rfl)).mono ?_;rintro e w' ⟨rfl,rfl⟩;go_wp2_with fail;refine(zau hg (part:=16) (b:=false) (by rfl)).mono ?_;rintro e w' ⟨rfl,rfl⟩;go_wp2_with fail;refine(HBARE.out _).mono ?_;rintro e w5 ⟨rfl,Y9⟩;have HB5:=Z9 Y9;clear Y9 hg hh c0 c1 c2 c3 c4 c5 c6 c7 c8 c9 ca cb;obtain⟨⟨hg,hh⟩,c0,c1,c2,c3,c4,c5,c6,c7,c8,c9,ca,cb⟩:=Zi.out w5 HB5.out
      go_wp2_with fail;refine(zau hg (part:=128) (b:=true) (by rfl)).mono ?_;rintro e w' ⟨rfl,rfl⟩;go_wp2_with fail;refine(zau hg (part:=256) (b:=false) (by rfl)).mono ?_;rintro e w' ⟨rfl,rfl⟩;go_wp2_with fail;refine(zau hg (part:=32) (b:=true) (by rfl)).mono ?_;rintro e w' ⟨rfl,rfl⟩;go_wp2_with fail;refine(HDAY.out _).mono ?_;rintro e w' ⟨rfl,rfl⟩
      cases day with
      |false =>
       go_wp2_with fail;refine(zau hg (part:=32) (b:=true) (by rfl)).mono ?_;rintro e w' ⟨rfl,rfl⟩;go_wp2_with fail;refine(zau hg (part:=64) (b:=false) (by rfl)).mono ?_;rintro e w' ⟨rfl,rfl⟩;go_wp2_with fail;refine(zau hg (part:=64) (b:=false) (by rfl)).mono ?_;rintro e w' ⟨rfl,rfl⟩
       go_upto_region 20 with(fail)
       cases noExpr with
       |false =>
        go_wp2_with fail;go_ret;exact⟨by rw[E.out];simp,(HB0.out.trans ((HBV.out.trans (HB5.out.mono HBV.out.size)).mono HB0.out.size))⟩
       |true =>
        go_wp2_with fail;go_ret;exact⟨by rw[E.out];simp,(HB0.out.trans ((HBV.out.trans (HB5.out.mono HBV.out.size)).mono HB0.out.size))⟩
      |true =>
       go_wp2_with fail;refine(zau hg (part:=64) (b:=false) (by rfl)).mono ?_;rintro e w' ⟨rfl,rfl⟩;go_wp2_with fail;refine(zau hg (part:=64) (b:=false) (by rfl)).mono ?_;rintro e w' ⟨rfl,rfl⟩
       go_upto_region 20 with(fail)
       cases noExpr with
       |false =>
        go_wp2_with fail;go_ret;exact⟨by rw[E.out];simp,(HB0.out.trans ((HBV.out.trans (HB5.out.mono HBV.out.size)).mono HB0.out.size))⟩
       |true =>
        cases noDays with
        |false =>
         go_wp2_with fail;go_ret;exact⟨by rw[E.out];simp,(HB0.out.trans ((HBV.out.trans (HB5.out.mono HBV.out.size)).mono HB0.out.size))⟩
        |true =>
         cases n1 with
         |false =>
          go_wp2_with fail;go_ret;exact⟨by rw[E.out];simp,(HB0.out.trans ((HBV.out.trans (HB5.out.mono HBV.out.size)).mono HB0.out.size))⟩
         |true =>
          go_wp2_with fail;go_ret;exact⟨by rw[E.out];simp,(HB0.out.trans ((HBV.out.trans (HB5.out.mono HBV.out.size)).mono HB0.out.size))⟩
  by_cases hk7:x.kind=7
  ·have YB:p=261:=by rw[hk7]at hp;simpa[ptsL]using hp.symm
   subst YB;have e:R=(n2 && party && noTo && word && noDate && noDays && noExpr):=by rw[HX2.out,hk7];rfl
   have E:=Z9 e;have HWF:=Z9 (zb1 (part:=1) (s:=x.frm) (v:=party) hg hh (b:=true) (by rfl) (by have:=HQ.out;simp[this]));have HWT:=Z9 (zb1 (part:=2) (s:=x.too) (v:=noTo) hg hh (b:=false) (by rfl) (by have:=HQ.out;simp[this]));have HWN:=Z9 (zb1 (part:=4) (s:=x.name) (v:=word) hg hh (b:=true) (by rfl) (by have:=HQ.out;simp[this]));clear e HX2 hp
   cases party with
   |false =>
    go_wp2_with fail;refine HWF.out.mono ?_;rintro e w' ⟨rfl,rfl⟩;go_wp2_with fail;go_ret;exact⟨by rw[E.out];simp,(HB0.out.trans (HBV.out.mono HB0.out.size))⟩
   |true =>
    cases noTo with
    |false =>
     go_wp2_with fail;refine HWF.out.mono ?_;rintro e w' ⟨rfl,rfl⟩;go_wp2_with fail;refine HWT.out.mono ?_;rintro e w' ⟨rfl,rfl⟩;go_wp2_with fail;go_ret;exact⟨by rw[E.out];simp,(HB0.out.trans (HBV.out.mono HB0.out.size))⟩
    |true =>
     cases word with
     |false =>
      go_wp2_with fail;refine HWF.out.mono ?_;rintro e w' ⟨rfl,rfl⟩;go_wp2_with fail;refine HWT.out.mono ?_;rintro e w' ⟨rfl,rfl⟩;go_wp2_with fail;refine HWN.out.mono ?_;rintro e w' ⟨rfl,rfl⟩;go_wp2_with fail;go_ret;exact⟨by rw[E.out];simp,(HB0.out.trans (HBV.out.mono HB0.out.size))⟩
     |true =>
      go_wp2_with fail;refine HWF.out.mono ?_;rintro e w' ⟨rfl,rfl⟩;go_wp2_with fail;refine HWT.out.mono ?_;rintro e w' ⟨rfl,rfl⟩;go_wp2_with fail;refine HWN.out.mono ?_;rintro e w' ⟨rfl,rfl⟩;go_wp2_with fail;refine(zau hg (part:=2) (b:=false) (by rfl)).mono ?_;rintro e w' ⟨rfl,rfl⟩;go_wp2_with fail;refine(zau hg (part:=8) (b:=false) (by rfl)).mono ?_;rintro e w' ⟨rfl,rfl⟩;go_wp2_with fail;refine(zau hg (part:=16) (b:=false) (by rfl)).mono ?_;rintro e w' ⟨rfl,rfl⟩;go_wp2_with fail;refine(HBARE.out _).mono ?_;rintro e w5 ⟨rfl,Y9⟩;have HB5:=Z9 Y9;clear Y9 hg hh c0 c1 c2 c3 c4 c5 c6 c7 c8 c9 ca cb;obtain⟨⟨hg,hh⟩,c0,c1,c2,c3,c4,c5,c6,c7,c8,c9,ca,cb⟩:=Zi.out w5 HB5.out
      go_wp2_with fail;refine(zau hg (part:=128) (b:=false) (by rfl)).mono ?_;rintro e w' ⟨rfl,rfl⟩;go_wp2_with fail;refine(zau hg (part:=256) (b:=true) (by rfl)).mono ?_;rintro e w' ⟨rfl,rfl⟩;go_wp2_with fail;refine(zau hg (part:=32) (b:=false) (by rfl)).mono ?_;rintro e w' ⟨rfl,rfl⟩;go_wp2_with fail;refine(zau hg (part:=32) (b:=false) (by rfl)).mono ?_;rintro e w' ⟨rfl,rfl⟩;go_wp2_with fail;refine(zau hg (part:=64) (b:=false) (by rfl)).mono ?_;rintro e w' ⟨rfl,rfl⟩;go_wp2_with fail;refine(zau hg (part:=64) (b:=false) (by rfl)).mono ?_;rintro e w' ⟨rfl,rfl⟩
      go_upto_region 20 with(fail)
      cases noExpr with
      |false =>
       go_wp2_with fail;go_ret;exact⟨by rw[E.out];simp,(HB0.out.trans ((HBV.out.trans (HB5.out.mono HBV.out.size)).mono HB0.out.size))⟩
      |true =>
       cases noDate with
       |false =>
        go_wp2_with fail;go_ret;exact⟨by rw[E.out];simp,(HB0.out.trans ((HBV.out.trans (HB5.out.mono HBV.out.size)).mono HB0.out.size))⟩
       |true =>
        cases noDays with
        |false =>
         go_wp2_with fail;go_ret;exact⟨by rw[E.out];simp,(HB0.out.trans ((HBV.out.trans (HB5.out.mono HBV.out.size)).mono HB0.out.size))⟩
        |true =>
         cases n2 with
         |false =>
          go_wp2_with fail;go_ret;exact⟨by rw[E.out];simp,(HB0.out.trans ((HBV.out.trans (HB5.out.mono HBV.out.size)).mono HB0.out.size))⟩
         |true =>
          go_wp2_with fail;go_ret;exact⟨by rw[E.out];simp,(HB0.out.trans ((HBV.out.trans (HB5.out.mono HBV.out.size)).mono HB0.out.size))⟩
  ·exfalso;omega
end Go.Proofs.YtkobkpepgdddeaaGreatDoor
