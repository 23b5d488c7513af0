/-
  The map of the parts as it is laid. No condition.
-/
import Derived.Test.YtkobkpepgdddeaaGreatDoorYat
import Derived.Test.YtkobkpepgdddeaaGreatDoorYai
import Derived.Test.YtkobkpepgdddeaaGreatDoorYaf
import Derived.Deep.AppendSrc
import Derived.Lib.AppendZeros
import Derived.Laws.EntriesVeiled
namespace Go.Proofs.YtkobkpepgdddeaaGreatDoor
open Go.RowKit Go.ChangeShapes Go.WideShapes Go.Deep
set_option maxHeartbeats 16000000
set_option maxRecDepth 100000
def ptsL(k:Int):Option Int :=
 if k=1 then some 0 else if k=2 then some 15 else if k=3 then some 256 else if k=4 then some 136 else if k=5 then some 272 else if k=6 then some 160 else if k=7 then some 261 else if k=8 then some 197 else if k=9 then some 208 else if k=10 then some 208 else none
def zcr(w:World):Prop:=∃bm,w.cell? ⟨1,0,none⟩=some (.map (some bm))∧∀k:Int,0≤k→k≤255 →
 (ptsL k=none→∀W,Below w.heap.size w W→(Instr.lookup 173 (.map (some bm)) (.int .u8 k) true).run Tryz.prog W=.ok (.tuple #[.int .i64 0,.bool false]) W) ∧
 (∀p,ptsL k=some p→∀W,Below w.heap.size w W→(Instr.lookup 173 (.map (some bm)) (.int .u8 k) true).run Tryz.prog W=.ok (.tuple #[.int .i64 p,.bool true]) W)
theorem gParts : Tryz.prog.globalNamed "novation/contract.parts" = some 1 := by kernel_rfl
theorem ptParts:(Tryz.prog.globals[1]?).map (·.type)=some 173:=by kernel_rfl
theorem zq6{H:Type}(k:Int):(ptsL k=none→(Rows.laid_novation_contract_parts (H:=H)).atKey (.int .u8 k) .nil=.nil)∧(∀p,ptsL k=some p→(Rows.laid_novation_contract_parts (H:=H)).atKey (.int .u8 k) .nil=.lit (.int .i64 p)):=by
 by_cases h1:k=1
 ·subst h1
  exact⟨fun h=>by simp[ptsL]at h,fun p h=>by simp[ptsL]at h;subst h;rfl⟩
 by_cases h2:k=2
 ·subst h2
  exact⟨fun h=>by simp[ptsL]at h,fun p h=>by simp[ptsL]at h;subst h;rfl⟩
 by_cases h3:k=3
 ·subst h3
  exact⟨fun h=>by simp[ptsL]at h,fun p h=>by simp[ptsL]at h;subst h;rfl⟩
 by_cases h4:k=4
 ·subst h4
  exact⟨fun h=>by simp[ptsL]at h,fun p h=>by simp[ptsL]at h;subst h;rfl⟩
 by_cases h5:k=5
 ·subst h5
  exact⟨fun h=>by simp[ptsL]at h,fun p h=>by simp[ptsL]at h;subst h;rfl⟩
 by_cases h6:k=6
 ·subst h6
  exact⟨fun h=>by simp[ptsL]at h,fun p h=>by simp[ptsL]at h;subst h;rfl⟩
 by_cases h7:k=7
 ·subst h7
  exact⟨fun h=>by simp[ptsL]at h,fun p h=>by simp[ptsL]at h;subst h;rfl⟩
 by_cases h8:k=8
 ·subst h8
  exact⟨fun h=>by simp[ptsL]at h,fun p h=>by simp[ptsL]at h;subst h;rfl⟩
 by_cases h9:k=9
 ·subst h9
  exact⟨fun h=>by simp[ptsL]at h,fun p h=>by simp[ptsL]at h;subst h;rfl⟩
 by_cases Yi:k=10
 ·subst Yi
  exact⟨fun h=>by simp[ptsL]at h,fun p h=>by simp[ptsL]at h;subst h;rfl⟩
 refine⟨fun _ => ?_,fun p h => ?_⟩
 ·simp[Rows.laid_novation_contract_parts,DataW.atKey,Lit.sameKey,Ne.symm h1,Ne.symm h2,Ne.symm h3,Ne.symm h4,Ne.symm h5,Ne.symm h6,Ne.symm h7,Ne.symm h8,Ne.symm h9,Ne.symm Yi]
 ·unfold ptsL at h
  rw[if_neg h1,if_neg h2,if_neg h3,if_neg h4,if_neg h5,if_neg h6,if_neg h7,if_neg h8,if_neg h9,if_neg Yi]at h
  cases h
theorem zvb{v:Value}{k:Int}(hl:v.cells.toList=[.int .i64 k])(hf:v.formed Tryz.prog 3=true):v=.int .i64 k:=by
 unfold Value.formed at hf;rw[Tryz.underlying3]at hf
 have Yv:∀u:Value,u.cells.toList=[.int .i64 k]→u.cells=#[u]→u=.int .i64 k:=fun u h1 h2=>by
  rw[h2]at h1;simpa using h1
 cases v<;>first |exact Yv _ hl rfl |simp at hf
theorem z7r(w:World):(zeroValue 3).run Tryz.prog w=.ok (.int .i64 0) w:=by kernel_rfl
theorem zrl {laid rest : List (String × DataW Unit)} (hl : laid = ("novation/contract.parts", Rows.laid_novation_contract_parts) :: rest) {W : World} (h : laidMet Tryz.prog laid W) : zcr W := by
 subst hl;obtain⟨ps,⟨g0,t0,cs0,f0,p0,q0,Y2,Vx,Uz,VK,_,_⟩,_,_⟩:=h;obtain rfl:=Option.some.inj (gParts.symm.trans Y2);obtain rfl:=Option.some.inj (ptParts.symm.trans Vx)
 rcases Go.WideElems.open_map Tryz.underlying173 VK with⟨_,hx⟩ |⟨bm,es,clock,m,rfl,YG,hb,_,F,hx⟩
 ·simp[Rows.laid_novation_contract_parts]at hx
 simp only[Prod.mk.injEq]at hx
 have Z5:W.cell? ⟨1,0,none⟩=some (.map (some bm)):=by
  have:=World.var?_cell Y2 Uz 0;rw[Array.eq_one_of_toList YG]at this;simpa using this
 have ZK:bm<W.heap.size:=(Z8 hb);refine⟨bm,Z5,fun k YL Zh => ?_⟩
 have hkey:keyOf Tryz.prog 5 (.int .u8 k)=some (.int .u8 k):=Maps.keyOf_int_mk Tryz.underlying5 (by
  have h0:IntKind.u8.min=0:=rfl;have h1:IntKind.u8.max=255:=rfl
  simp[Lit.wf];omega)
 have look:∀W',Below W.heap.size W W'→_:=fun W' hW'=>Maps.fit_look (w:=W') true (Maps.int_keyed Tryz.underlying5) Tryz.underlying173 (z7r W') ((hW'.block _ ZK).trans hb) F hkey
 refine⟨fun hs W' hW' => ?_,fun p hs W' hW' => ?_⟩
 ·rcases look W' hW' with⟨hr,_,_⟩ |⟨e0,y,_,_,_,hR,ZZ,_⟩
  ·simpa using hr
  ·have h2:=ZZ .nil
   rw[←hx.1,(zq6 k).1 hs]at h2;unfold Go.WideElems.elemAt at hR
   split at hR
   ·obtain⟨n,e1,e2,_⟩:=DataW.trod_int Tryz.underlying3 hR
    rw[e2]at h2
    cases h2
   ·cases hR
 ·rcases look W' hW' with⟨_,_,ZZ⟩ |⟨e0,y,Yl,UR,hr,hR,ZZ,_⟩
  ·have h2:=ZZ .nil
   rw[←hx.1,(zq6 k).2 p hs]at h2
   cases h2
  ·have h2:=ZZ .nil
   rw[←hx.1,(zq6 k).2 p hs]at h2;unfold Go.WideElems.elemAt at hR
   split at hR
   ·rename_i SW
    obtain⟨n,e1,e2,_⟩:=DataW.trod_int Tryz.underlying3 hR;rw[e2]at h2;simp only[DataW.lit.injEq,Lit.int.injEq,true_and]at h2;subst h2;have hval:e0.val=.int .i64 p:=zvb e1 SW;rw[hval]at hr;simpa using hr
   ·cases hR
theorem zom(w:World)(o1 o2 o3:Obj):(((w.alloc o1).alloc o2).alloc o3).heap[w.heap.size]?=some o1∧(((w.alloc o1).alloc o2).alloc o3).heap[w.heap.size+1]?=some o2∧(((w.alloc o1).alloc o2).alloc o3).heap[w.heap.size+1+1]?=some o3:=by
 refine⟨?_,?_,?_⟩
 ·show(((w.heap.push _).push _).push _)[w.heap.size]?=_
  rw[Array.getElem?_push,if_neg (by simp;omega),Array.getElem?_push,if_neg (by simp),Array.getElem?_push,if_pos rfl]
 ·show(((w.heap.push _).push _).push _)[w.heap.size+1]?=_
  rw[Array.getElem?_push,if_neg (by simp),Array.getElem?_push,if_pos (by simp)]
 ·show(((w.heap.push _).push _).push _)[w.heap.size+1+1]?=_
  rw[Array.getElem?_push,if_pos (by simp)]
theorem zcx(U:World)(o:Obj)(k:Nat)(h:U.heap.size=k):(U.alloc o).heap[k]?=some o:=by
 subst h
 show(U.heap.push o)[U.heap.size]?=_
 rw[Array.getElem?_push,if_pos rfl]
def hasB(p part:Int):Bool:=bits BinOp.and IntKind.i64 p part != 0
theorem zau{p part:Int}{g:Nat}{w:World}{b:Bool}(h:w.cell? ⟨g,0,none⟩=some (.int .i64 p))(hb:hasB p part=b):Calls Tryz.prog 154 #[.int .i64 part,.pointer (some ⟨g,0,none⟩)] w (fun e w'=>e=.returned (.bool b)∧w=w'):=by
 subst hb;go_enter Tryz.func154,Tryz.ntmps154;go_wp2_with fail;go_ret;exact⟨rfl,rfl⟩
theorem zb1{p part:Int}{g h:Nat}{s:ByteArray}{w:World}{b v:Bool}(hg:w.cell? ⟨g,0,none⟩=some (.int .i64 p))(hh:w.cell? ⟨h,0,none⟩=some (.func (.func 154) #[] #[.pointer (some ⟨g,0,none⟩)]))(hb:hasB p part=b)
 (hv:v=if b then nmB s.data.toList else s.toList.isEmpty):Calls Tryz.prog 155 #[.int .i64 part,.string s,.pointer (some ⟨h,0,none⟩)] w (fun e w'=>e=.returned (.bool v)∧w=w'):=by
 have HB:=Z9 hb
 have Zd:Hid (∀W,Calls Tryz.prog 51 #[.string s] W (fun e w'=>e=.returned (.bool (nmB s.data.toList))∧W=w')):=fun W=>zie s W
 obtain⟨nb,Zo⟩:∃z,z=nmB s.data.toList:=⟨_,rfl⟩
 obtain⟨em,hem⟩:∃z,s.toList.isEmpty=z:=⟨_,rfl⟩
 rw[←Zo]at Zd hv;rw[hem]at hv;clear hb Zo
 cases b with
 |true =>
  have hv2:v=nb:=hv;subst hv2;clear hv
  cases v with
  |true =>
   go_enter Tryz.func155,Tryz.ntmps155;go_wp2_with fail;refine(zau hg HB.out).mono ?_;rintro e w' ⟨rfl,rfl⟩;go_wp2_with fail;refine(Zd.out _).mono ?_;rintro e w' ⟨rfl,rfl⟩;go_wp2_with fail;go_ret;exact⟨rfl,rfl⟩
  |false =>
   go_enter Tryz.func155,Tryz.ntmps155;go_wp2_with fail;refine(zau hg HB.out).mono ?_;rintro e w' ⟨rfl,rfl⟩;go_wp2_with fail;refine(Zd.out _).mono ?_;rintro e w' ⟨rfl,rfl⟩;go_wp2_with fail;refine(zau hg HB.out).mono ?_;rintro e w' ⟨rfl,rfl⟩;go_wp2_with fail;go_ret;exact⟨rfl,rfl⟩
 |false =>
  have hv2:v=em:=hv;subst hv2;clear hv
  cases v with
  |true =>
   go_enter Tryz.func155,Tryz.ntmps155;go_wp2_with fail;refine(zau hg HB.out).mono ?_;rintro e w' ⟨rfl,rfl⟩;go_wp2_with fail;refine(zau hg HB.out).mono ?_;rintro e w' ⟨rfl,rfl⟩;go_wp2_with fail;go_ret;exact⟨rfl,rfl⟩
  |false =>
   go_enter Tryz.func155,Tryz.ntmps155;go_wp2_with fail;refine(zau hg HB.out).mono ?_;rintro e w' ⟨rfl,rfl⟩;go_wp2_with fail;refine(zau hg HB.out).mono ?_;rintro e w' ⟨rfl,rfl⟩;go_wp2_with fail;go_ret;exact⟨rfl,rfl⟩
theorem zuu{Wg:World}(YN:zcr Wg)(n:Nat)(x:Ct)(cs:List Value)(w:World)(h:CtIn n x cs w Wg)(hG:ptsL x.kind=none):Calls Tryz.prog 103 #[.agg cs.toArray] w (BelB w (zdf x)):=by
 cases n with
 |zero=>exact h.at_.elim
 |succ n =>
  obtain⟨ea,el,ec,da,dl,dc,a,len,cap,rfl,Yu,YZ,Z6,ZC⟩:=h.at_;have hdl:=YZ.1;have hd200:=h.dates;have ZH:len≤3000:=by have:=h.len;omega
  have Zq:x.expr.sub.length=el:=by
   obtain⟨a',l',c',he,hl,_⟩:=Yu
   injection he with _ he;injection he with _ he;injection he with _ he;injection he with _ he;injection he with he _
   injection he with _ he _
   rw[hl,he]
  obtain⟨⟨YL,Zh⟩,_⟩:=h.kok;obtain⟨R,hR⟩:∃R,R=zdf x:=⟨_,rfl⟩
  rw[←hR];obtain⟨W0,Z7⟩:∃W0,W0=w.alloc (.cells #[.int .u8 x.kind,.string x.frm,.string x.too,.string x.name,.int .u8 x.expr.kind,.string x.expr.rat,.string x.expr.name,.int .i64 x.expr.date,.slice ea el ec,.int .i64 x.date,.slice da dl dc,.slice a len cap] 40):=⟨_,rfl⟩
  have Z2:W0.heap[w.heap.size]?=some (.cells #[.int .u8 x.kind,.string x.frm,.string x.too,.string x.name,.int .u8 x.expr.kind,.string x.expr.rat,.string x.expr.name,.int .i64 x.expr.date,.slice ea el ec,.int .i64 x.date,.slice da dl dc,.slice a len cap] 40):=by rw[Z7];exact heap_alloc_new w _
  have hB0:Below w.heap.size w W0:=by rw[Z7];exact zaa w _
  have ZS:W0.heap.size=w.heap.size+1:=by rw[Z7];simp
  have HIN0:=Z9 (h.below hB0);have YR:Below Wg.heap.size Wg W0:=h.old.trans (hB0.mono h.old.size);obtain⟨bm,hc,Yf⟩:=YN;have hgc:W0.cell? ⟨1,0,none⟩=some (.map (some bm)):=((zbg YR).1 _ _ (zf2 (a:=⟨_,0,none⟩) hc)).trans hc;have HKK:=Z9 (Yf x.kind YL Zh);have HBG:=Z9 YR;obtain⟨nobody,qnobody⟩:∃b,x.frm.toList.isEmpty=b:=⟨_,rfl⟩
  obtain⟨noTo,qnoTo⟩:∃b,x.too.toList.isEmpty=b:=⟨_,rfl⟩
  obtain⟨noName,qnoName⟩:∃b,x.name.toList.isEmpty=b:=⟨_,rfl⟩
  obtain⟨noDate,qnoDate⟩:∃b,(x.date == 0)=b:=⟨_,rfl⟩
  obtain⟨noDays,qnoDays⟩:∃b,((dl:Int) == 0)=b:=⟨_,rfl⟩
  obtain⟨n0,qn0⟩:∃b,((len:Int) == 0)=b:=⟨_,rfl⟩
  obtain⟨n1,qn1⟩:∃b,((len:Int) == 1)=b:=⟨_,rfl⟩
  obtain⟨n2,qn2⟩:∃b,((len:Int) == 2)=b:=⟨_,rfl⟩
  obtain⟨eq,qeq⟩:∃b,(x.frm.toList == x.too.toList)=b:=⟨_,rfl⟩
  obtain⟨noExpr,qnoExpr⟩:∃b,b=zd8 x.expr:=⟨_,rfl⟩
  obtain⟨days,qdays⟩:∃b,b=zjm x.dates:=⟨_,rfl⟩
  obtain⟨number,qnumber⟩:∃b,b=numX x.expr:=⟨_,rfl⟩
  obtain⟨truth,qtruth⟩:∃b,b=truX x.expr:=⟨_,rfl⟩
  obtain⟨party,qparty⟩:∃b,b=nmB x.frm.data.toList:=⟨_,rfl⟩
  obtain⟨word,qword⟩:∃b,b=nmB x.name.data.toList:=⟨_,rfl⟩
  obtain⟨nTo,qnTo⟩:∃b,b=nmB x.too.data.toList:=⟨_,rfl⟩
  obtain⟨day,qday⟩:∃b,b=zhw x.date:=⟨_,rfl⟩
  have HX2:Hid (R=zjk x.kind n0 n1 n2 party nTo (!eq) word nobody noTo noName noDate noDays noExpr days number truth day):=by
   show R=_
   rw[hR];unfold zdf;rw[qnobody,qnoTo,qnoName,qnoDate,hdl,Z6,qnoDays,qn0,qn1,qn2,qeq,←qnoExpr,←qdays,←qnumber,←qtruth,←qparty,←qword,←qnTo,←qday]
  have HBARE:Hid (∀W,Calls Tryz.prog 150 #[.agg #[.int .u8 x.expr.kind,.string x.expr.rat,.string x.expr.name,.int .i64 x.expr.date,.slice ea el ec]] W (BelB W noExpr)):=fun W=>by rw[qnoExpr];exact zeh x.expr ea el ec W Zq
  have HDAYS:Hid (∀W,Below W0.heap.size W0 W→Calls Tryz.prog 157 #[.slice da dl dc] W (BelB W days)):=fun W hW=>by rw[qdays];exact zgk x.dates da dl dc W (YZ.below (hB0.trans (hW.mono hB0.size))) (by omega)
  have HNUM:Hid (∀W,Below W0.heap.size W0 W→Calls Tryz.prog 40 #[.agg #[.int .u8 x.expr.kind,.string x.expr.rat,.string x.expr.name,.int .i64 x.expr.date,.slice ea el ec]] W (BelB W number)):=fun W hW=>by rw[qnumber];exact zdo (n+1) x.expr _ W Wg (HIN0.out.below hW).expr
  have HTRU:Hid (∀W,Below W0.heap.size W0 W→Calls Tryz.prog 41 #[.agg #[.int .u8 x.expr.kind,.string x.expr.rat,.string x.expr.name,.int .i64 x.expr.date,.slice ea el ec]] W (BelB W truth)):=fun W hW=>by rw[qtruth];exact zeb (n+1) x.expr _ W Wg (HIN0.out.below hW).expr
  have HDAY:Hid (∀W,Calls Tryz.prog 156 #[.int .i64 x.date] W (fun e w'=>e=.returned (.bool day)∧W=w')):=fun W=>by rw[qday];exact zc7 x.date W
  have HQ:Hid (nobody=x.frm.toList.isEmpty∧noTo=x.too.toList.isEmpty∧noName=x.name.toList.isEmpty∧party=nmB x.frm.data.toList∧nTo=nmB x.too.data.toList∧word=nmB x.name.data.toList):=⟨qnobody.symm,qnoTo.symm,qnoName.symm,qparty,qnTo,qword⟩;obtain⟨c0,c1,c2,c3,c4,c5,c6,c7,c8,c9,ca,cb⟩:=zbz Z2;have HW0:=Z9 Z7;have HB0:=Z9 hB0;have HBX:=Z9 Z2;clear qnoExpr qdays qnumber qtruth qparty qword qnTo qday qnobody qnoTo qnoName hR Z7 Z2 hB0 YR hc Yf Yu YZ Z6 ZC h
  show Calls Tryz.prog 103 #[.agg #[.int .u8 x.kind,.string x.frm,.string x.too,.string x.name,.int .u8 x.expr.kind,.string x.expr.rat,.string x.expr.name,.int .i64 x.expr.date,.slice ea el ec,.int .i64 x.date,.slice da dl dc,.slice a len cap]] w _
  have Wy:=hG;have hlook:=HKK.out.1 Wy W0 HBG.out
  have e:R=false:=by
   rw[HX2.out];refine z3x ?_ ..;unfold ptsL at Wy
   (repeat' split at Wy)<;>first |omega |cases Wy
  have E:=Z9 e;clear e HX2 HKK;go_enter Tryz.func103,Tryz.ntmps103
  go_upto_region 1 with(fail)
  rw[←HW0.out];go_wp2_with fail;go_ret;exact⟨by rw[E.out];rfl,HB0.out.alloc HB0.out.size _⟩
end Go.Proofs.YtkobkpepgdddeaaGreatDoor
