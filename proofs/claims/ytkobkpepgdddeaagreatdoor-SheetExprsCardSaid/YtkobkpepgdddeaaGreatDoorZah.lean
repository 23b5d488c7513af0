/-
  The program's leaf, walked. No condition but the size.
-/
import Derived.Test.YtkobkpepgdddeaaGreatDoorZag
import Derived.Maps.Keyed
import Derived.JoinedTies
import Derived.LaidMore
import Derived.MakeChecks
import Derived.Test.YtkobkpepgdddeaaGreatDoorZaa
import Derived.Test.YtkobkpepgdddeaaGreatDoorZaf
import Derived.Test.YtkobkpepgdddeaaGreatDoorRows
import Derived.IntWalk
namespace Go.Proofs.YtkobkpepgdddeaaGreatDoor
open Go.RowKit
set_option maxHeartbeats 16000000
set_option maxRecDepth 100000
def U8P(w:World)(v:Int)(e:Ending)(w':World):Prop:=e=.returned (.int .u8 v)∧Below w.heap.size w w'
theorem zo8(n:Int)(w:World):Calls Tryz.prog 179 #[.int .i64 n] w (fun e w'=>e=.returned (.bool (decide (0≤n) && decide (n≤99999)))∧w=w'):=by
 by_cases h0:0≤n
 ·by_cases h1:n≤99999
  ·have e:(decide (0≤n) && decide (n≤99999))=true:=by simp[h0,h1]
   rw[e];clear e;go_enter Tryz.func179,Tryz.ntmps179;go_wp2;go_ret;exact⟨rfl,rfl⟩
  ·have e:(decide (0≤n) && decide (n≤99999))=false:=by simp[h1]
   rw[e];clear e;go_enter Tryz.func179,Tryz.ntmps179;go_wp2;go_ret;exact⟨rfl,rfl⟩
 ·have e:(decide (0≤n) && decide (n≤99999))=false:=by simp[h0]
  have d0:decide (0≤n)=false:=by simpa using h0
  rw[e];clear e;go_enter Tryz.func179,Tryz.ntmps179;go_wp2;go_ret;exact⟨rfl,rfl⟩
def lfV(k:Int)(r n:ByteArray)(d:Int)(len:Nat):Int:=if len=0 then zci k r n d else 0
theorem z6f(r nm:ByteArray)(d:Int)(a:Option Addr)(len cap:Nat)(w:World)(hr:r.size≤2500) :
 Calls Tryz.prog 138 #[.agg #[.int .u8 1,.string r,.string nm,.int .i64 d,.slice a len cap]] w (U8P w (lfV 1 r nm d len)):=by
 obtain⟨bl,ql⟩:∃b,((len:Int) == 0)=b:=⟨_,rfl⟩
 obtain⟨br,qr⟩:∃b,r.toList.isEmpty=b:=⟨_,rfl⟩
 obtain⟨bn,qn⟩:∃b,nm.toList.isEmpty=b:=⟨_,rfl⟩
 obtain⟨bd,qd⟩:∃b,((d:Int) == 0)=b:=⟨_,rfl⟩
 have HQL:Hid (bl=true↔len=0):=by show bl=true↔_;rw[←ql];simp
 have HQR:Hid (r.data.toList.isEmpty=br):=by show _=br;rw[←qr,zac]
 have HQN:Hid (nm.data.toList.isEmpty=bn):=by show _=bn;rw[←qn,zac]
 have HQD:Hid (bd=true↔d=0):=by show bd=true↔_;rw[←qd];simp
 obtain⟨R,hR⟩:∃R,R=lfV 1 r nm d len:=⟨_,rfl⟩
 rw[←hR];have HRR:=Z9 hR
 have HCK:Hid (∀W,Calls Tryz.prog 178 #[.string r] W (za6 W (chkR r.data.toList))):=fun W=>zy4 r W (by omega)
 obtain⟨z,WV⟩:∃z,z=chkR r.data.toList:=⟨_,rfl⟩
 rw[←WV]at HCK;have HZZ:=Z9 WV;clear WV;clear hR;go_enter Tryz.func138,Tryz.ntmps138
 go_upto_region 1 with(fail)
 obtain⟨W0,Z3⟩:∃W0,W0=w.alloc (.cells #[.int .u8 1,.string r,.string nm,.int .i64 d,.slice a len cap] 25):=⟨_,rfl⟩
 have ZZ:W0.heap[w.heap.size]?=some (.cells #[.int .u8 1,.string r,.string nm,.int .i64 d,.slice a len cap] 25):=by rw[Z3];exact heap_alloc_new w _
 have HB0:Hid (Below w.heap.size w W0):=by rw[Z3];exact zaf w _
 have hzW:w.heap.size<W0.heap.size:=(Z8 ZZ);rw[←Z3];have HBX:=Z9 ZZ;obtain⟨c0,c1,c2,c3,c4⟩:=zae ZZ;clear Z3 ZZ
 cases bl with
 |false =>
  have hln:len≠0:=fun h=>by have:=HQL.out.2 h;cases this
  have e:R=0:=by rw[HRR.out];simp[lfV,hln]
  clear hln;have E:=Z9 e;clear e;go_wp2_with fail;go_ret;exact⟨by rw[E.out];rfl,HB0.out⟩
 |true =>
  have HLV:Hid (R=zci 1 r nm d):=by
   have hln:len=0:=HQL.out.1 rfl
   show R=_
   rw[HRR.out];simp[lfV,hln]
  by_cases ZN:z=0
  ·have qz:((z:Int) == 0)=true:=zaz ZN
   have HZ0:=Z9 ZN;clear ZN
   cases bn with
   |false =>
    have e:R=0:=by rw[HLV.out];simp[zci,HQN.out]
    have E:=Z9 e;clear e;go_wp2_with fail;refine(HCK.out _).mono ?_;rintro e w2 ⟨rfl,ZS⟩;have HB2:=Z9 (HB0.out.trans (ZS.mono HB0.out.size));obtain⟨d0,d1,d2,d3,d4⟩:=zae ((ZS.block _ hzW).trans HBX.out);clear ZS c0 c1 c2 c3 c4;go_wp2_with fail;go_ret;exact⟨by rw[E.out];rfl,HB2.out⟩
   |true =>
    cases bd with
    |false =>
     have e:R=0:=by
      have hd:d≠0:=fun h=>by have:=HQD.out.2 h;cases this
      rw[HLV.out];simp[zci,hd]
     have E:=Z9 e;clear e;go_wp2_with fail;refine(HCK.out _).mono ?_;rintro e w2 ⟨rfl,ZS⟩;have HB2:=Z9 (HB0.out.trans (ZS.mono HB0.out.size));obtain⟨d0,d1,d2,d3,d4⟩:=zae ((ZS.block _ hzW).trans HBX.out);clear ZS c0 c1 c2 c3 c4;go_wp2_with fail;go_ret;exact⟨by rw[E.out];rfl,HB2.out⟩
    |true =>
     have e:R=1:=by
      have hd:d=0:=HQD.out.1 rfl;rw[HLV.out];simp[zci,hd,HQN.out,←HZZ.out,HZ0.out]
     have E:=Z9 e;clear e;go_wp2_with fail;refine(HCK.out _).mono ?_;rintro e w2 ⟨rfl,ZS⟩;have HB2:=Z9 (HB0.out.trans (ZS.mono HB0.out.size));obtain⟨d0,d1,d2,d3,d4⟩:=zae ((ZS.block _ hzW).trans HBX.out);clear ZS c0 c1 c2 c3 c4;go_wp2_with fail;go_ret;exact⟨by rw[E.out];rfl,HB2.out⟩
  ·have qz:((z:Int) == 0)=false:=zam ZN
   have e:R=0:=by rw[HLV.out];simp[zci,←HZZ.out,ZN]
   clear ZN;have E:=Z9 e;clear e;go_wp2_with fail;refine(HCK.out _).mono ?_;rintro e w2 ⟨rfl,ZS⟩;have HB2:=Z9 (HB0.out.trans (ZS.mono HB0.out.size));obtain⟨d0,d1,d2,d3,d4⟩:=zae ((ZS.block _ hzW).trans HBX.out);clear ZS c0 c1 c2 c3 c4;go_wp2_with fail;go_ret;exact⟨by rw[E.out];rfl,HB2.out⟩
theorem z6e(r nm:ByteArray)(d:Int)(a:Option Addr)(len cap:Nat)(w:World) :
 Calls Tryz.prog 138 #[.agg #[.int .u8 2,.string r,.string nm,.int .i64 d,.slice a len cap]] w (U8P w (lfV 2 r nm d len)):=by
 obtain⟨bl,ql⟩:∃b,((len:Int) == 0)=b:=⟨_,rfl⟩
 obtain⟨br,qr⟩:∃b,r.toList.isEmpty=b:=⟨_,rfl⟩
 obtain⟨bn,qn⟩:∃b,nm.toList.isEmpty=b:=⟨_,rfl⟩
 obtain⟨bd,qd⟩:∃b,((d:Int) == 0)=b:=⟨_,rfl⟩
 have HQL:Hid (bl=true↔len=0):=by show bl=true↔_;rw[←ql];simp
 have HQR:Hid (r.data.toList.isEmpty=br):=by show _=br;rw[←qr,zac]
 have HQN:Hid (nm.data.toList.isEmpty=bn):=by show _=bn;rw[←qn,zac]
 have HQD:Hid (bd=true↔d=0):=by show bd=true↔_;rw[←qd];simp
 obtain⟨R,hR⟩:∃R,R=lfV 2 r nm d len:=⟨_,rfl⟩
 rw[←hR];have HRR:=Z9 hR
 have Zx:Hid (∀W,Calls Tryz.prog 51 #[.string nm] W (fun e w'=>e=.returned (.bool (nmB nm.data.toList))∧W=w')):=fun W=>zln nm W
 obtain⟨nb,Zf⟩:∃z,z=nmB nm.data.toList:=⟨_,rfl⟩
 rw[←Zf]at Zx;have HNB:=Z9 Zf;clear Zf
 have Y3:Hid (∀W,Calls Tryz.prog 179 #[.int .i64 d] W (fun e w'=>e=.returned (.bool (decide (0≤d) && decide (d≤99999)))∧W=w')):=fun W=>zo8 d W
 obtain⟨db,WM⟩:∃z,z=(decide (0≤d) && decide (d≤99999)):=⟨_,rfl⟩
 rw[←WM]at Y3;have HDB:=Z9 WM;clear WM;clear hR;go_enter Tryz.func138,Tryz.ntmps138
 go_upto_region 1 with(fail)
 obtain⟨W0,Z3⟩:∃W0,W0=w.alloc (.cells #[.int .u8 2,.string r,.string nm,.int .i64 d,.slice a len cap] 25):=⟨_,rfl⟩
 have ZZ:W0.heap[w.heap.size]?=some (.cells #[.int .u8 2,.string r,.string nm,.int .i64 d,.slice a len cap] 25):=by rw[Z3];exact heap_alloc_new w _
 have HB0:Hid (Below w.heap.size w W0):=by rw[Z3];exact zaf w _
 have hzW:w.heap.size<W0.heap.size:=(Z8 ZZ);rw[←Z3];obtain⟨c0,c1,c2,c3,c4⟩:=zae ZZ;clear Z3 ZZ
 cases bl with
 |false =>
  have hln:len≠0:=fun h=>by have:=HQL.out.2 h;cases this
  have e:R=0:=by rw[HRR.out];simp[lfV,hln]
  clear hln;have E:=Z9 e;clear e;go_wp2_with fail;go_ret;exact⟨by rw[E.out];rfl,HB0.out⟩
 |true =>
  have HLV:Hid (R=zci 2 r nm d):=by
   have hln:len=0:=HQL.out.1 rfl
   show R=_
   rw[HRR.out];simp[lfV,hln]
  cases br with
  |false =>
   have e:R=0:=by rw[HLV.out];simp[zci,HQR.out]
   have E:=Z9 e;clear e;go_wp2_with fail;go_ret;exact⟨by rw[E.out];rfl,HB0.out⟩
  |true =>
   cases nb with
   |false =>
    have e:R=0:=by rw[HLV.out];simp[zci,←HNB.out]
    have E:=Z9 e;clear e;go_wp2_with fail;refine(Zx.out _).mono ?_;rintro e w2 ⟨rfl,rfl⟩;go_wp2_with fail;go_ret;exact⟨by rw[E.out];rfl,HB0.out⟩
   |true =>
    have e0:R=if db=true then 1 else 0:=by
     rw[HLV.out,HDB.out];simp[zci,HQR.out,←HNB.out]
    cases db with
    |false =>
     have e:R=0:=by rw[e0];rfl
     clear e0;have E:=Z9 e;clear e;go_wp2_with fail;refine(Zx.out _).mono ?_;rintro e w2 ⟨rfl,rfl⟩;go_wp2_with fail;refine(Y3.out _).mono ?_;rintro e w2 ⟨rfl,rfl⟩;go_wp2_with fail;go_ret;exact⟨by rw[E.out];rfl,HB0.out⟩
    |true =>
     have e:R=1:=by rw[e0];rfl
     clear e0;have E:=Z9 e;clear e;go_wp2_with fail;refine(Zx.out _).mono ?_;rintro e w2 ⟨rfl,rfl⟩;go_wp2_with fail;refine(Y3.out _).mono ?_;rintro e w2 ⟨rfl,rfl⟩;go_wp2_with fail;go_ret;exact⟨by rw[E.out];rfl,HB0.out⟩
theorem z6d(r nm:ByteArray)(d:Int)(a:Option Addr)(len cap:Nat)(w:World) :
 Calls Tryz.prog 138 #[.agg #[.int .u8 3,.string r,.string nm,.int .i64 d,.slice a len cap]] w (U8P w (lfV 3 r nm d len)):=by
 obtain⟨bl,ql⟩:∃b,((len:Int) == 0)=b:=⟨_,rfl⟩
 obtain⟨br,qr⟩:∃b,r.toList.isEmpty=b:=⟨_,rfl⟩
 obtain⟨bn,qn⟩:∃b,nm.toList.isEmpty=b:=⟨_,rfl⟩
 obtain⟨bd,qd⟩:∃b,((d:Int) == 0)=b:=⟨_,rfl⟩
 have HQL:Hid (bl=true↔len=0):=by show bl=true↔_;rw[←ql];simp
 have HQR:Hid (r.data.toList.isEmpty=br):=by show _=br;rw[←qr,zac]
 have HQN:Hid (nm.data.toList.isEmpty=bn):=by show _=bn;rw[←qn,zac]
 have HQD:Hid (bd=true↔d=0):=by show bd=true↔_;rw[←qd];simp
 obtain⟨R,hR⟩:∃R,R=lfV 3 r nm d len:=⟨_,rfl⟩
 rw[←hR];have HRR:=Z9 hR
 have Zx:Hid (∀W,Calls Tryz.prog 51 #[.string nm] W (fun e w'=>e=.returned (.bool (nmB nm.data.toList))∧W=w')):=fun W=>zln nm W
 obtain⟨nb,Zf⟩:∃z,z=nmB nm.data.toList:=⟨_,rfl⟩
 rw[←Zf]at Zx;have HNB:=Z9 Zf;clear Zf;clear hR;go_enter Tryz.func138,Tryz.ntmps138
 go_upto_region 1 with(fail)
 obtain⟨W0,Z3⟩:∃W0,W0=w.alloc (.cells #[.int .u8 3,.string r,.string nm,.int .i64 d,.slice a len cap] 25):=⟨_,rfl⟩
 have ZZ:W0.heap[w.heap.size]?=some (.cells #[.int .u8 3,.string r,.string nm,.int .i64 d,.slice a len cap] 25):=by rw[Z3];exact heap_alloc_new w _
 have HB0:Hid (Below w.heap.size w W0):=by rw[Z3];exact zaf w _
 have hzW:w.heap.size<W0.heap.size:=(Z8 ZZ);rw[←Z3];obtain⟨c0,c1,c2,c3,c4⟩:=zae ZZ;clear Z3 ZZ
 cases bl with
 |false =>
  have hln:len≠0:=fun h=>by have:=HQL.out.2 h;cases this
  have e:R=0:=by rw[HRR.out];simp[lfV,hln]
  clear hln;have E:=Z9 e;clear e;go_wp2_with fail;go_ret;exact⟨by rw[E.out];rfl,HB0.out⟩
 |true =>
  have HLV:Hid (R=zci 3 r nm d):=by
   have hln:len=0:=HQL.out.1 rfl
   show R=_
   rw[HRR.out];simp[lfV,hln]
  cases br with
  |false =>
   have e:R=0:=by rw[HLV.out];simp[zci,HQR.out]
   have E:=Z9 e;clear e;go_wp2_with fail;go_ret;exact⟨by rw[E.out];rfl,HB0.out⟩
  |true =>
   cases nb with
   |false =>
    have e:R=0:=by rw[HLV.out];simp[zci,←HNB.out]
    have E:=Z9 e;clear e;go_wp2_with fail;refine(Zx.out _).mono ?_;rintro e w2 ⟨rfl,rfl⟩;go_wp2_with fail;go_ret;exact⟨by rw[E.out];rfl,HB0.out⟩
   |true =>
    cases bd with
    |false =>
     have e:R=0:=by
      have hd:d≠0:=fun h=>by have:=HQD.out.2 h;cases this
      rw[HLV.out];simp[zci,hd]
     have E:=Z9 e;clear e;go_wp2_with fail;refine(Zx.out _).mono ?_;rintro e w2 ⟨rfl,rfl⟩;go_wp2_with fail;go_ret;exact⟨by rw[E.out];rfl,HB0.out⟩
    |true =>
     have e:R=1:=by
      have hd:d=0:=HQD.out.1 rfl;rw[HLV.out];simp[zci,hd,HQR.out,←HNB.out]
     have E:=Z9 e;clear e;go_wp2_with fail;refine(Zx.out _).mono ?_;rintro e w2 ⟨rfl,rfl⟩;go_wp2_with fail;go_ret;exact⟨by rw[E.out];rfl,HB0.out⟩
theorem z6c(kd:Int)(h1:kd≠1)(h2:kd≠2)(h3:kd≠3)(r nm:ByteArray)(d:Int)(a:Option Addr)(len cap:Nat)(w:World) :
 Calls Tryz.prog 138 #[.agg #[.int .u8 kd,.string r,.string nm,.int .i64 d,.slice a len cap]] w (U8P w (lfV kd r nm d len)):=by
 obtain⟨bl,ql⟩:∃b,((len:Int) == 0)=b:=⟨_,rfl⟩
 obtain⟨br,qr⟩:∃b,r.toList.isEmpty=b:=⟨_,rfl⟩
 obtain⟨bn,qn⟩:∃b,nm.toList.isEmpty=b:=⟨_,rfl⟩
 obtain⟨bd,qd⟩:∃b,((d:Int) == 0)=b:=⟨_,rfl⟩
 obtain⟨R,hR⟩:∃R,R=lfV kd r nm d len:=⟨_,rfl⟩
 rw[←hR];have k1:((kd:Int) == 1)=false:=zam h1;have k2:((kd:Int) == 2)=false:=zam h2;have k3:((kd:Int) == 3)=false:=zam h3;have e:R=0:=by rw[hR];unfold lfV;split;exact zpm r nm d h1 h2 h3;rfl
 clear h1 h2 h3;clear hR;go_enter Tryz.func138,Tryz.ntmps138
 go_upto_region 1 with(fail)
 obtain⟨W0,Z3⟩:∃W0,W0=w.alloc (.cells #[.int .u8 kd,.string r,.string nm,.int .i64 d,.slice a len cap] 25):=⟨_,rfl⟩
 have ZZ:W0.heap[w.heap.size]?=some (.cells #[.int .u8 kd,.string r,.string nm,.int .i64 d,.slice a len cap] 25):=by rw[Z3];exact heap_alloc_new w _
 have HB0:Hid (Below w.heap.size w W0):=by rw[Z3];exact zaf w _
 have hzW:w.heap.size<W0.heap.size:=(Z8 ZZ);rw[←Z3];obtain⟨c0,c1,c2,c3,c4⟩:=zae ZZ;clear Z3 ZZ;have E:=Z9 e;clear e;go_wp2_with fail;go_ret;exact⟨by rw[E.out];rfl,HB0.out⟩
theorem zzr(k:Int)(r nm:ByteArray)(d:Int)(a:Option Addr)(len cap:Nat)(w:World)(hr:r.size≤2500) :
 Calls Tryz.prog 138 #[.agg #[.int .u8 k,.string r,.string nm,.int .i64 d,.slice a len cap]] w (U8P w (lfV k r nm d len)):=by
 by_cases h1:k=1
 ·subst h1;exact z6f r nm d a len cap w hr
 by_cases h2:k=2
 ·subst h2;exact z6e r nm d a len cap w
 by_cases h3:k=3
 ·subst h3;exact z6d r nm d a len cap w
 exact z6c k h1 h2 h3 r nm d a len cap w
open Go.ChangeShapes Go.WideShapes Go.Deep
def KOk:Nat→Ex→Prop
 |0,_=>False
 |n+1,x=>(0≤x.kind∧x.kind≤255)∧∀y ∈ x.sub,KOk n y
theorem KOk.up:∀{n m:Nat}{x:Ex},n≤m→KOk n x→KOk m x
 |0,_,_,_,h=>h.elim
 |n+1,0,_,hm,_=>absurd hm (by omega)
 |n+1,m+1,x,hm,⟨h1,h2⟩=>⟨h1,fun y hy=>KOk.up (by omega) (h2 y hy)⟩
def zhp(w:World):Prop:=∃bm,w.cell? ⟨0,0,none⟩=some (.map (some bm))∧∀k:Int,0≤k→k≤255 →
 (shpL k=none→∀W,Below w.heap.size w W→(Instr.lookup 163 (.map (some bm)) (.int .u8 k) true).run Tryz.prog W=.ok (.tuple #[.agg #[.slice none 0 0,.int .u8 0],.bool false]) W) ∧
 (∀ps own,shpL k=some (ps,own)→∃g o cap,g<w.heap.size∧(∀W,Below w.heap.size w W→(Instr.lookup 163 (.map (some bm)) (.int .u8 k) true).run Tryz.prog W=.ok (.tuple #[.agg #[.slice (some ⟨g,o,none⟩) ps.length cap,.int .u8 own],.bool true]) W) ∧
  ∀i,i<ps.length→w.cell? ⟨g,o+i,none⟩=some (.int .u8 (ps[i]?.getD 0)))
inductive Ct where
 |mk (kind:Int) (frm too name:ByteArray) (expr:Ex) (date:Int) (dates:List Int) (sub:List Ct)
namespace Ct
end Ct
instance:Inhabited Ct:=⟨.mk 0 ByteArray.empty ByteArray.empty ByteArray.empty default 0 [] []⟩
def zdq:List UInt8:=[40,41,123,125,44,59,64,43,42]
def zaj(c:UInt8):Int :=
 if c.toNat=32∨c.toNat=9∨c.toNat=10 then 1 else if 48≤c.toNat∧c.toNat≤57 then 2 else if letB c=true then 3
 else if c.toNat=95∨c.toNat=45 then 4 else if c ∈ zdq then 5 else if c.toNat=34 then 6 else if c.toNat=35 then 7 else 0
def mkB(c:UInt8):Bool:=decide (c ∈ zdq) ||decide (c.toNat=45)
theorem zak(c:UInt8):c ∈ zdq↔c.toNat=40∨c.toNat=41∨c.toNat=123∨c.toNat=125∨c.toNat=44∨c.toNat=59∨c.toNat=64∨c.toNat=43∨c.toNat=42:=by
 unfold zdq;simp only[List.mem_cons,List.not_mem_nil,or_false,←UInt8.toNat_inj];rfl
theorem zdb{c:UInt8}(h:¬c ∈ zdq):Lib.indexByte zdq c = -1:=by
 have h0:=Lib.indexByte_ge zdq c
 by_cases e:Lib.indexByte zdq c = -1
 ·exact e
 ·obtain⟨o,ho⟩:∃o:Nat,Lib.indexByte zdq c=o:=⟨(Lib.indexByte zdq c).toNat,by omega⟩
  exact absurd (List.mem_of_getElem? (Lib.indexByte_some ho).1) h
theorem z41(m:Nat)(h:m<256):bits BinOp.or IntKind.u8 (m:Int) 32=((if m.testBit 5 then m else m+32:Nat):Int):=by
 have:∀m:Fin 256,bits BinOp.or IntKind.u8 ((m:Nat):Int) 32=((if (m:Nat).testBit 5 then(m:Nat)else(m:Nat)+32:Nat):Int):=by decide +kernel
 exact this ⟨m,h⟩
theorem bit5(m:Nat)(h:m<256):m.testBit 5=decide (m / 32 % 2=1):=by
 have:∀m:Fin 256,(m:Nat).testBit 5=decide ((m:Nat) / 32 % 2=1):=by decide +kernel
 exact this ⟨m,h⟩
theorem za4{m:Nat}(h:m<256):bits BinOp.or IntKind.u8 (m:Int) 32=((if m / 32 % 2=1 then m else m+32:Nat):Int):=by
 rw[z41 m h,bit5 m h];simp
theorem zpo(c:UInt8)(w:World):Calls Tryz.prog 142 #[.string ⟨#[40,41,123,125,44,59,64,43,42]⟩,.int .u8 (c.toNat:Int)] w fun e w'=>e=.returned (.int .i64 (Lib.indexByte zdq c))∧w=w':=by
 have:=Tryz.strings_IndexByte ⟨#[40,41,123,125,44,59,64,43,42]⟩ (c.toNat:Int) w;rw[show((c.toNat:Int)).toNat.toUInt8=c by simp]at this
 exact this.mono fun e w' ⟨a,b⟩=>⟨a,b.symm⟩
theorem za7{c:UInt8}{n:Int}(h:Lib.indexByte zdq c=n):Hid (∀W,Calls Tryz.prog 142 #[.string ⟨#[40,41,123,125,44,59,64,43,42]⟩,.int .u8 (c.toNat:Int)] W fun e w'=>e=.returned (.int .i64 n)∧W=w'):=fun W=>h ▸ zpo c W
theorem z4w(c:UInt8)(w:World)(h1:0≤c.toNat)(h2:c.toNat≤8):Calls Tryz.prog 180 #[.int .u8 (c.toNat:Int)] w (RetI w (zaj c)):=by
 have hv:zaj c=0:=by
  unfold zaj letB;simp only[zak,decide_eq_true_eq]
  repeat' split
  all_goals omega
 rw[hv];have HI:=za7 (c:=c) (n := -1) (zdb (by rw[zak];omega))
 have e32:((c.toNat:Int) == 32)=false:=by simp<;>omega
 have e9:((c.toNat:Int) == 9)=false:=by simp<;>omega
 have e10:((c.toNat:Int) == 10)=false:=by simp<;>omega
 have e95:((c.toNat:Int) == 95)=false:=by simp<;>omega
 have e45:((c.toNat:Int) == 45)=false:=by simp<;>omega
 have e34:((c.toNat:Int) == 34)=false:=by simp<;>omega
 have e35:((c.toNat:Int) == 35)=false:=by simp<;>omega
 have p48:(decide ((48:Int)≤(c.toNat:Int)))=false:=by simp<;>omega
 have p57:(decide ((c.toNat:Int)≤57))=true:=by simp<;>omega
 have hx:bits BinOp.or IntKind.u8 (c.toNat:Int) 32=((c.toNat+32:Nat):Int):=by rw[za4 (by omega),if_neg (by omega)]
 have p97:(decide ((97:Int)≤bits BinOp.or IntKind.u8 (c.toNat:Int) 32))=false:=by rw[hx];simp<;>omega
 have p122:(decide (bits BinOp.or IntKind.u8 (c.toNat:Int) 32≤122))=true:=by rw[hx];simp<;>omega
 clear hx h1 h2 hv;go_enter Tryz.func180,Tryz.ntmps180;go_wp2_with fail;refine(HI.out _).mono ?_;rintro e w' ⟨rfl,rfl⟩;go_wp2;go_ret;exact⟨rfl,rfl⟩
theorem z4v(c:UInt8)(w:World)(h1:9≤c.toNat)(h2:c.toNat≤9):Calls Tryz.prog 180 #[.int .u8 (c.toNat:Int)] w (RetI w (zaj c)):=by
 have hv:zaj c=1:=by
  unfold zaj letB;simp only[zak,decide_eq_true_eq]
  repeat' split
  all_goals omega
 rw[hv]
 have e32:((c.toNat:Int) == 32)=false:=by simp<;>omega
 have e9:((c.toNat:Int) == 9)=true:=by simp<;>omega
 have e10:((c.toNat:Int) == 10)=false:=by simp<;>omega
 have e95:((c.toNat:Int) == 95)=false:=by simp<;>omega
 have e45:((c.toNat:Int) == 45)=false:=by simp<;>omega
 have e34:((c.toNat:Int) == 34)=false:=by simp<;>omega
 have e35:((c.toNat:Int) == 35)=false:=by simp<;>omega
 have p48:(decide ((48:Int)≤(c.toNat:Int)))=false:=by simp<;>omega
 have p57:(decide ((c.toNat:Int)≤57))=true:=by simp<;>omega
 have hx:bits BinOp.or IntKind.u8 (c.toNat:Int) 32=((c.toNat+32:Nat):Int):=by rw[za4 (by omega),if_neg (by omega)]
 have p97:(decide ((97:Int)≤bits BinOp.or IntKind.u8 (c.toNat:Int) 32))=false:=by rw[hx];simp<;>omega
 have p122:(decide (bits BinOp.or IntKind.u8 (c.toNat:Int) 32≤122))=true:=by rw[hx];simp<;>omega
 clear hx h1 h2 hv;go_enter Tryz.func180,Tryz.ntmps180;go_wp2;go_ret;exact⟨rfl,rfl⟩
theorem z05(c:UInt8)(w:World)(h1:10≤c.toNat)(h2:c.toNat≤10):Calls Tryz.prog 180 #[.int .u8 (c.toNat:Int)] w (RetI w (zaj c)):=by
 have hv:zaj c=1:=by
  unfold zaj letB;simp only[zak,decide_eq_true_eq]
  repeat' split
  all_goals omega
 rw[hv]
 have e32:((c.toNat:Int) == 32)=false:=by simp<;>omega
 have e9:((c.toNat:Int) == 9)=false:=by simp<;>omega
 have e10:((c.toNat:Int) == 10)=true:=by simp<;>omega
 have e95:((c.toNat:Int) == 95)=false:=by simp<;>omega
 have e45:((c.toNat:Int) == 45)=false:=by simp<;>omega
 have e34:((c.toNat:Int) == 34)=false:=by simp<;>omega
 have e35:((c.toNat:Int) == 35)=false:=by simp<;>omega
 have p48:(decide ((48:Int)≤(c.toNat:Int)))=false:=by simp<;>omega
 have p57:(decide ((c.toNat:Int)≤57))=true:=by simp<;>omega
 have hx:bits BinOp.or IntKind.u8 (c.toNat:Int) 32=((c.toNat+32:Nat):Int):=by rw[za4 (by omega),if_neg (by omega)]
 have p97:(decide ((97:Int)≤bits BinOp.or IntKind.u8 (c.toNat:Int) 32))=false:=by rw[hx];simp<;>omega
 have p122:(decide (bits BinOp.or IntKind.u8 (c.toNat:Int) 32≤122))=true:=by rw[hx];simp<;>omega
 clear hx h1 h2 hv;go_enter Tryz.func180,Tryz.ntmps180;go_wp2;go_ret;exact⟨rfl,rfl⟩
theorem z04(c:UInt8)(w:World)(h1:11≤c.toNat)(h2:c.toNat≤31):Calls Tryz.prog 180 #[.int .u8 (c.toNat:Int)] w (RetI w (zaj c)):=by
 have hv:zaj c=0:=by
  unfold zaj letB;simp only[zak,decide_eq_true_eq]
  repeat' split
  all_goals omega
 rw[hv];have HI:=za7 (c:=c) (n := -1) (zdb (by rw[zak];omega))
 have e32:((c.toNat:Int) == 32)=false:=by simp<;>omega
 have e9:((c.toNat:Int) == 9)=false:=by simp<;>omega
 have e10:((c.toNat:Int) == 10)=false:=by simp<;>omega
 have e95:((c.toNat:Int) == 95)=false:=by simp<;>omega
 have e45:((c.toNat:Int) == 45)=false:=by simp<;>omega
 have e34:((c.toNat:Int) == 34)=false:=by simp<;>omega
 have e35:((c.toNat:Int) == 35)=false:=by simp<;>omega
 have p48:(decide ((48:Int)≤(c.toNat:Int)))=false:=by simp<;>omega
 have p57:(decide ((c.toNat:Int)≤57))=true:=by simp<;>omega
 have hx:bits BinOp.or IntKind.u8 (c.toNat:Int) 32=((c.toNat+32:Nat):Int):=by rw[za4 (by omega),if_neg (by omega)]
 have p97:(decide ((97:Int)≤bits BinOp.or IntKind.u8 (c.toNat:Int) 32))=false:=by rw[hx];simp<;>omega
 have p122:(decide (bits BinOp.or IntKind.u8 (c.toNat:Int) 32≤122))=true:=by rw[hx];simp<;>omega
 clear hx h1 h2 hv;go_enter Tryz.func180,Tryz.ntmps180;go_wp2_with fail;refine(HI.out _).mono ?_;rintro e w' ⟨rfl,rfl⟩;go_wp2;go_ret;exact⟨rfl,rfl⟩
theorem z03(c:UInt8)(w:World)(h1:32≤c.toNat)(h2:c.toNat≤32):Calls Tryz.prog 180 #[.int .u8 (c.toNat:Int)] w (RetI w (zaj c)):=by
 have hv:zaj c=1:=by
  unfold zaj letB;simp only[zak,decide_eq_true_eq]
  repeat' split
  all_goals omega
 rw[hv]
 have e32:((c.toNat:Int) == 32)=true:=by simp<;>omega
 have e9:((c.toNat:Int) == 9)=false:=by simp<;>omega
 have e10:((c.toNat:Int) == 10)=false:=by simp<;>omega
 have e95:((c.toNat:Int) == 95)=false:=by simp<;>omega
 have e45:((c.toNat:Int) == 45)=false:=by simp<;>omega
 have e34:((c.toNat:Int) == 34)=false:=by simp<;>omega
 have e35:((c.toNat:Int) == 35)=false:=by simp<;>omega
 have p48:(decide ((48:Int)≤(c.toNat:Int)))=false:=by simp<;>omega
 have p57:(decide ((c.toNat:Int)≤57))=true:=by simp<;>omega
 have hx:bits BinOp.or IntKind.u8 (c.toNat:Int) 32=((c.toNat:Nat):Int):=by rw[za4 (by omega),if_pos (by omega)]
 have p97:(decide ((97:Int)≤bits BinOp.or IntKind.u8 (c.toNat:Int) 32))=false:=by rw[hx];simp<;>omega
 have p122:(decide (bits BinOp.or IntKind.u8 (c.toNat:Int) 32≤122))=true:=by rw[hx];simp<;>omega
 clear hx h1 h2 hv;go_enter Tryz.func180,Tryz.ntmps180;go_wp2;go_ret;exact⟨rfl,rfl⟩
theorem z02(c:UInt8)(w:World)(h1:33≤c.toNat)(h2:c.toNat≤33):Calls Tryz.prog 180 #[.int .u8 (c.toNat:Int)] w (RetI w (zaj c)):=by
 have hv:zaj c=0:=by
  unfold zaj letB;simp only[zak,decide_eq_true_eq]
  repeat' split
  all_goals omega
 rw[hv];have HI:=za7 (c:=c) (n := -1) (zdb (by rw[zak];omega))
 have e32:((c.toNat:Int) == 32)=false:=by simp<;>omega
 have e9:((c.toNat:Int) == 9)=false:=by simp<;>omega
 have e10:((c.toNat:Int) == 10)=false:=by simp<;>omega
 have e95:((c.toNat:Int) == 95)=false:=by simp<;>omega
 have e45:((c.toNat:Int) == 45)=false:=by simp<;>omega
 have e34:((c.toNat:Int) == 34)=false:=by simp<;>omega
 have e35:((c.toNat:Int) == 35)=false:=by simp<;>omega
 have p48:(decide ((48:Int)≤(c.toNat:Int)))=false:=by simp<;>omega
 have p57:(decide ((c.toNat:Int)≤57))=true:=by simp<;>omega
 have hx:bits BinOp.or IntKind.u8 (c.toNat:Int) 32=((c.toNat:Nat):Int):=by rw[za4 (by omega),if_pos (by omega)]
 have p97:(decide ((97:Int)≤bits BinOp.or IntKind.u8 (c.toNat:Int) 32))=false:=by rw[hx];simp<;>omega
 have p122:(decide (bits BinOp.or IntKind.u8 (c.toNat:Int) 32≤122))=true:=by rw[hx];simp<;>omega
 clear hx h1 h2 hv;go_enter Tryz.func180,Tryz.ntmps180;go_wp2_with fail;refine(HI.out _).mono ?_;rintro e w' ⟨rfl,rfl⟩;go_wp2;go_ret;exact⟨rfl,rfl⟩
theorem z01(c:UInt8)(w:World)(h1:34≤c.toNat)(h2:c.toNat≤34):Calls Tryz.prog 180 #[.int .u8 (c.toNat:Int)] w (RetI w (zaj c)):=by
 have hv:zaj c=6:=by
  unfold zaj letB;simp only[zak,decide_eq_true_eq]
  repeat' split
  all_goals omega
 rw[hv];have HI:=za7 (c:=c) (n := -1) (zdb (by rw[zak];omega))
 have e32:((c.toNat:Int) == 32)=false:=by simp<;>omega
 have e9:((c.toNat:Int) == 9)=false:=by simp<;>omega
 have e10:((c.toNat:Int) == 10)=false:=by simp<;>omega
 have e95:((c.toNat:Int) == 95)=false:=by simp<;>omega
 have e45:((c.toNat:Int) == 45)=false:=by simp<;>omega
 have e34:((c.toNat:Int) == 34)=true:=by simp<;>omega
 have e35:((c.toNat:Int) == 35)=false:=by simp<;>omega
 have p48:(decide ((48:Int)≤(c.toNat:Int)))=false:=by simp<;>omega
 have p57:(decide ((c.toNat:Int)≤57))=true:=by simp<;>omega
 have hx:bits BinOp.or IntKind.u8 (c.toNat:Int) 32=((c.toNat:Nat):Int):=by rw[za4 (by omega),if_pos (by omega)]
 have p97:(decide ((97:Int)≤bits BinOp.or IntKind.u8 (c.toNat:Int) 32))=false:=by rw[hx];simp<;>omega
 have p122:(decide (bits BinOp.or IntKind.u8 (c.toNat:Int) 32≤122))=true:=by rw[hx];simp<;>omega
 clear hx h1 h2 hv;go_enter Tryz.func180,Tryz.ntmps180;go_wp2_with fail;refine(HI.out _).mono ?_;rintro e w' ⟨rfl,rfl⟩;go_wp2;go_ret;exact⟨rfl,rfl⟩
theorem z00(c:UInt8)(w:World)(h1:35≤c.toNat)(h2:c.toNat≤35):Calls Tryz.prog 180 #[.int .u8 (c.toNat:Int)] w (RetI w (zaj c)):=by
 have hv:zaj c=7:=by
  unfold zaj letB;simp only[zak,decide_eq_true_eq]
  repeat' split
  all_goals omega
 rw[hv];have HI:=za7 (c:=c) (n := -1) (zdb (by rw[zak];omega))
 have e32:((c.toNat:Int) == 32)=false:=by simp<;>omega
 have e9:((c.toNat:Int) == 9)=false:=by simp<;>omega
 have e10:((c.toNat:Int) == 10)=false:=by simp<;>omega
 have e95:((c.toNat:Int) == 95)=false:=by simp<;>omega
 have e45:((c.toNat:Int) == 45)=false:=by simp<;>omega
 have e34:((c.toNat:Int) == 34)=false:=by simp<;>omega
 have e35:((c.toNat:Int) == 35)=true:=by simp<;>omega
 have p48:(decide ((48:Int)≤(c.toNat:Int)))=false:=by simp<;>omega
 have p57:(decide ((c.toNat:Int)≤57))=true:=by simp<;>omega
 have hx:bits BinOp.or IntKind.u8 (c.toNat:Int) 32=((c.toNat:Nat):Int):=by rw[za4 (by omega),if_pos (by omega)]
 have p97:(decide ((97:Int)≤bits BinOp.or IntKind.u8 (c.toNat:Int) 32))=false:=by rw[hx];simp<;>omega
 have p122:(decide (bits BinOp.or IntKind.u8 (c.toNat:Int) 32≤122))=true:=by rw[hx];simp<;>omega
 clear hx h1 h2 hv;go_enter Tryz.func180,Tryz.ntmps180;go_wp2_with fail;refine(HI.out _).mono ?_;rintro e w' ⟨rfl,rfl⟩;go_wp2;go_ret;exact⟨rfl,rfl⟩
theorem z0z(c:UInt8)(w:World)(h1:36≤c.toNat)(h2:c.toNat≤39):Calls Tryz.prog 180 #[.int .u8 (c.toNat:Int)] w (RetI w (zaj c)):=by
 have hv:zaj c=0:=by
  unfold zaj letB;simp only[zak,decide_eq_true_eq]
  repeat' split
  all_goals omega
 rw[hv];have HI:=za7 (c:=c) (n := -1) (zdb (by rw[zak];omega))
 have e32:((c.toNat:Int) == 32)=false:=by simp<;>omega
 have e9:((c.toNat:Int) == 9)=false:=by simp<;>omega
 have e10:((c.toNat:Int) == 10)=false:=by simp<;>omega
 have e95:((c.toNat:Int) == 95)=false:=by simp<;>omega
 have e45:((c.toNat:Int) == 45)=false:=by simp<;>omega
 have e34:((c.toNat:Int) == 34)=false:=by simp<;>omega
 have e35:((c.toNat:Int) == 35)=false:=by simp<;>omega
 have p48:(decide ((48:Int)≤(c.toNat:Int)))=false:=by simp<;>omega
 have p57:(decide ((c.toNat:Int)≤57))=true:=by simp<;>omega
 have hx:bits BinOp.or IntKind.u8 (c.toNat:Int) 32=((c.toNat:Nat):Int):=by rw[za4 (by omega),if_pos (by omega)]
 have p97:(decide ((97:Int)≤bits BinOp.or IntKind.u8 (c.toNat:Int) 32))=false:=by rw[hx];simp<;>omega
 have p122:(decide (bits BinOp.or IntKind.u8 (c.toNat:Int) 32≤122))=true:=by rw[hx];simp<;>omega
 clear hx h1 h2 hv;go_enter Tryz.func180,Tryz.ntmps180;go_wp2_with fail;refine(HI.out _).mono ?_;rintro e w' ⟨rfl,rfl⟩;go_wp2;go_ret;exact⟨rfl,rfl⟩
theorem z0y(c:UInt8)(w:World)(h1:40≤c.toNat)(h2:c.toNat≤40):Calls Tryz.prog 180 #[.int .u8 (c.toNat:Int)] w (RetI w (zaj c)):=by
 have hv:zaj c=5:=by
  unfold zaj letB;simp only[zak,decide_eq_true_eq]
  repeat' split
  all_goals omega
 rw[hv]
 have HI:=za7 (c:=c) (n:=0) (by
  have:c=40:=UInt8.toNat_inj.1 (by show c.toNat=40;omega)
  rw[this];rfl)
 have e32:((c.toNat:Int) == 32)=false:=by simp<;>omega
 have e9:((c.toNat:Int) == 9)=false:=by simp<;>omega
 have e10:((c.toNat:Int) == 10)=false:=by simp<;>omega
 have e95:((c.toNat:Int) == 95)=false:=by simp<;>omega
 have e45:((c.toNat:Int) == 45)=false:=by simp<;>omega
 have e34:((c.toNat:Int) == 34)=false:=by simp<;>omega
 have e35:((c.toNat:Int) == 35)=false:=by simp<;>omega
 have p48:(decide ((48:Int)≤(c.toNat:Int)))=false:=by simp<;>omega
 have p57:(decide ((c.toNat:Int)≤57))=true:=by simp<;>omega
 have hx:bits BinOp.or IntKind.u8 (c.toNat:Int) 32=((c.toNat:Nat):Int):=by rw[za4 (by omega),if_pos (by omega)]
 have p97:(decide ((97:Int)≤bits BinOp.or IntKind.u8 (c.toNat:Int) 32))=false:=by rw[hx];simp<;>omega
 have p122:(decide (bits BinOp.or IntKind.u8 (c.toNat:Int) 32≤122))=true:=by rw[hx];simp<;>omega
 clear hx h1 h2 hv;go_enter Tryz.func180,Tryz.ntmps180;go_wp2_with fail;refine(HI.out _).mono ?_;rintro e w' ⟨rfl,rfl⟩;go_wp2;go_ret;exact⟨rfl,rfl⟩
theorem z0x(c:UInt8)(w:World)(h1:41≤c.toNat)(h2:c.toNat≤41):Calls Tryz.prog 180 #[.int .u8 (c.toNat:Int)] w (RetI w (zaj c)):=by
 have hv:zaj c=5:=by
  unfold zaj letB;simp only[zak,decide_eq_true_eq]
  repeat' split
  all_goals omega
 rw[hv]
 have HI:=za7 (c:=c) (n:=1) (by
  have:c=41:=UInt8.toNat_inj.1 (by show c.toNat=41;omega)
  rw[this];rfl)
 have e32:((c.toNat:Int) == 32)=false:=by simp<;>omega
 have e9:((c.toNat:Int) == 9)=false:=by simp<;>omega
 have e10:((c.toNat:Int) == 10)=false:=by simp<;>omega
 have e95:((c.toNat:Int) == 95)=false:=by simp<;>omega
 have e45:((c.toNat:Int) == 45)=false:=by simp<;>omega
 have e34:((c.toNat:Int) == 34)=false:=by simp<;>omega
 have e35:((c.toNat:Int) == 35)=false:=by simp<;>omega
 have p48:(decide ((48:Int)≤(c.toNat:Int)))=false:=by simp<;>omega
 have p57:(decide ((c.toNat:Int)≤57))=true:=by simp<;>omega
 have hx:bits BinOp.or IntKind.u8 (c.toNat:Int) 32=((c.toNat:Nat):Int):=by rw[za4 (by omega),if_pos (by omega)]
 have p97:(decide ((97:Int)≤bits BinOp.or IntKind.u8 (c.toNat:Int) 32))=false:=by rw[hx];simp<;>omega
 have p122:(decide (bits BinOp.or IntKind.u8 (c.toNat:Int) 32≤122))=true:=by rw[hx];simp<;>omega
 clear hx h1 h2 hv;go_enter Tryz.func180,Tryz.ntmps180;go_wp2_with fail;refine(HI.out _).mono ?_;rintro e w' ⟨rfl,rfl⟩;go_wp2;go_ret;exact⟨rfl,rfl⟩
theorem z0w(c:UInt8)(w:World)(h1:42≤c.toNat)(h2:c.toNat≤42):Calls Tryz.prog 180 #[.int .u8 (c.toNat:Int)] w (RetI w (zaj c)):=by
 have hv:zaj c=5:=by
  unfold zaj letB;simp only[zak,decide_eq_true_eq]
  repeat' split
  all_goals omega
 rw[hv]
 have HI:=za7 (c:=c) (n:=8) (by
  have:c=42:=UInt8.toNat_inj.1 (by show c.toNat=42;omega)
  rw[this];rfl)
 have e32:((c.toNat:Int) == 32)=false:=by simp<;>omega
 have e9:((c.toNat:Int) == 9)=false:=by simp<;>omega
 have e10:((c.toNat:Int) == 10)=false:=by simp<;>omega
 have e95:((c.toNat:Int) == 95)=false:=by simp<;>omega
 have e45:((c.toNat:Int) == 45)=false:=by simp<;>omega
 have e34:((c.toNat:Int) == 34)=false:=by simp<;>omega
 have e35:((c.toNat:Int) == 35)=false:=by simp<;>omega
 have p48:(decide ((48:Int)≤(c.toNat:Int)))=false:=by simp<;>omega
 have p57:(decide ((c.toNat:Int)≤57))=true:=by simp<;>omega
 have hx:bits BinOp.or IntKind.u8 (c.toNat:Int) 32=((c.toNat:Nat):Int):=by rw[za4 (by omega),if_pos (by omega)]
 have p97:(decide ((97:Int)≤bits BinOp.or IntKind.u8 (c.toNat:Int) 32))=false:=by rw[hx];simp<;>omega
 have p122:(decide (bits BinOp.or IntKind.u8 (c.toNat:Int) 32≤122))=true:=by rw[hx];simp<;>omega
 clear hx h1 h2 hv;go_enter Tryz.func180,Tryz.ntmps180;go_wp2_with fail;refine(HI.out _).mono ?_;rintro e w' ⟨rfl,rfl⟩;go_wp2;go_ret;exact⟨rfl,rfl⟩
theorem z0v(c:UInt8)(w:World)(h1:43≤c.toNat)(h2:c.toNat≤43):Calls Tryz.prog 180 #[.int .u8 (c.toNat:Int)] w (RetI w (zaj c)):=by
 have hv:zaj c=5:=by
  unfold zaj letB;simp only[zak,decide_eq_true_eq]
  repeat' split
  all_goals omega
 rw[hv]
 have HI:=za7 (c:=c) (n:=7) (by
  have:c=43:=UInt8.toNat_inj.1 (by show c.toNat=43;omega)
  rw[this];rfl)
 have e32:((c.toNat:Int) == 32)=false:=by simp<;>omega
 have e9:((c.toNat:Int) == 9)=false:=by simp<;>omega
 have e10:((c.toNat:Int) == 10)=false:=by simp<;>omega
 have e95:((c.toNat:Int) == 95)=false:=by simp<;>omega
 have e45:((c.toNat:Int) == 45)=false:=by simp<;>omega
 have e34:((c.toNat:Int) == 34)=false:=by simp<;>omega
 have e35:((c.toNat:Int) == 35)=false:=by simp<;>omega
 have p48:(decide ((48:Int)≤(c.toNat:Int)))=false:=by simp<;>omega
 have p57:(decide ((c.toNat:Int)≤57))=true:=by simp<;>omega
 have hx:bits BinOp.or IntKind.u8 (c.toNat:Int) 32=((c.toNat:Nat):Int):=by rw[za4 (by omega),if_pos (by omega)]
 have p97:(decide ((97:Int)≤bits BinOp.or IntKind.u8 (c.toNat:Int) 32))=false:=by rw[hx];simp<;>omega
 have p122:(decide (bits BinOp.or IntKind.u8 (c.toNat:Int) 32≤122))=true:=by rw[hx];simp<;>omega
 clear hx h1 h2 hv;go_enter Tryz.func180,Tryz.ntmps180;go_wp2_with fail;refine(HI.out _).mono ?_;rintro e w' ⟨rfl,rfl⟩;go_wp2;go_ret;exact⟨rfl,rfl⟩
theorem z0u(c:UInt8)(w:World)(h1:44≤c.toNat)(h2:c.toNat≤44):Calls Tryz.prog 180 #[.int .u8 (c.toNat:Int)] w (RetI w (zaj c)):=by
 have hv:zaj c=5:=by
  unfold zaj letB;simp only[zak,decide_eq_true_eq]
  repeat' split
  all_goals omega
 rw[hv]
 have HI:=za7 (c:=c) (n:=4) (by
  have:c=44:=UInt8.toNat_inj.1 (by show c.toNat=44;omega)
  rw[this];rfl)
 have e32:((c.toNat:Int) == 32)=false:=by simp<;>omega
 have e9:((c.toNat:Int) == 9)=false:=by simp<;>omega
 have e10:((c.toNat:Int) == 10)=false:=by simp<;>omega
 have e95:((c.toNat:Int) == 95)=false:=by simp<;>omega
 have e45:((c.toNat:Int) == 45)=false:=by simp<;>omega
 have e34:((c.toNat:Int) == 34)=false:=by simp<;>omega
 have e35:((c.toNat:Int) == 35)=false:=by simp<;>omega
 have p48:(decide ((48:Int)≤(c.toNat:Int)))=false:=by simp<;>omega
 have p57:(decide ((c.toNat:Int)≤57))=true:=by simp<;>omega
 have hx:bits BinOp.or IntKind.u8 (c.toNat:Int) 32=((c.toNat:Nat):Int):=by rw[za4 (by omega),if_pos (by omega)]
 have p97:(decide ((97:Int)≤bits BinOp.or IntKind.u8 (c.toNat:Int) 32))=false:=by rw[hx];simp<;>omega
 have p122:(decide (bits BinOp.or IntKind.u8 (c.toNat:Int) 32≤122))=true:=by rw[hx];simp<;>omega
 clear hx h1 h2 hv;go_enter Tryz.func180,Tryz.ntmps180;go_wp2_with fail;refine(HI.out _).mono ?_;rintro e w' ⟨rfl,rfl⟩;go_wp2;go_ret;exact⟨rfl,rfl⟩
theorem z0t(c:UInt8)(w:World)(h1:45≤c.toNat)(h2:c.toNat≤45):Calls Tryz.prog 180 #[.int .u8 (c.toNat:Int)] w (RetI w (zaj c)):=by
 have hv:zaj c=4:=by
  unfold zaj letB;simp only[zak,decide_eq_true_eq]
  repeat' split
  all_goals omega
 rw[hv]
 have e32:((c.toNat:Int) == 32)=false:=by simp<;>omega
 have e9:((c.toNat:Int) == 9)=false:=by simp<;>omega
 have e10:((c.toNat:Int) == 10)=false:=by simp<;>omega
 have e95:((c.toNat:Int) == 95)=false:=by simp<;>omega
 have e45:((c.toNat:Int) == 45)=true:=by simp<;>omega
 have e34:((c.toNat:Int) == 34)=false:=by simp<;>omega
 have e35:((c.toNat:Int) == 35)=false:=by simp<;>omega
 have p48:(decide ((48:Int)≤(c.toNat:Int)))=false:=by simp<;>omega
 have p57:(decide ((c.toNat:Int)≤57))=true:=by simp<;>omega
 have hx:bits BinOp.or IntKind.u8 (c.toNat:Int) 32=((c.toNat:Nat):Int):=by rw[za4 (by omega),if_pos (by omega)]
 have p97:(decide ((97:Int)≤bits BinOp.or IntKind.u8 (c.toNat:Int) 32))=false:=by rw[hx];simp<;>omega
 have p122:(decide (bits BinOp.or IntKind.u8 (c.toNat:Int) 32≤122))=true:=by rw[hx];simp<;>omega
 clear hx h1 h2 hv;go_enter Tryz.func180,Tryz.ntmps180;go_wp2;go_ret;exact⟨rfl,rfl⟩
theorem z0s(c:UInt8)(w:World)(h1:46≤c.toNat)(h2:c.toNat≤47):Calls Tryz.prog 180 #[.int .u8 (c.toNat:Int)] w (RetI w (zaj c)):=by
 have hv:zaj c=0:=by
  unfold zaj letB;simp only[zak,decide_eq_true_eq]
  repeat' split
  all_goals omega
 rw[hv];have HI:=za7 (c:=c) (n := -1) (zdb (by rw[zak];omega))
 have e32:((c.toNat:Int) == 32)=false:=by simp<;>omega
 have e9:((c.toNat:Int) == 9)=false:=by simp<;>omega
 have e10:((c.toNat:Int) == 10)=false:=by simp<;>omega
 have e95:((c.toNat:Int) == 95)=false:=by simp<;>omega
 have e45:((c.toNat:Int) == 45)=false:=by simp<;>omega
 have e34:((c.toNat:Int) == 34)=false:=by simp<;>omega
 have e35:((c.toNat:Int) == 35)=false:=by simp<;>omega
 have p48:(decide ((48:Int)≤(c.toNat:Int)))=false:=by simp<;>omega
 have p57:(decide ((c.toNat:Int)≤57))=true:=by simp<;>omega
 have hx:bits BinOp.or IntKind.u8 (c.toNat:Int) 32=((c.toNat:Nat):Int):=by rw[za4 (by omega),if_pos (by omega)]
 have p97:(decide ((97:Int)≤bits BinOp.or IntKind.u8 (c.toNat:Int) 32))=false:=by rw[hx];simp<;>omega
 have p122:(decide (bits BinOp.or IntKind.u8 (c.toNat:Int) 32≤122))=true:=by rw[hx];simp<;>omega
 clear hx h1 h2 hv;go_enter Tryz.func180,Tryz.ntmps180;go_wp2_with fail;refine(HI.out _).mono ?_;rintro e w' ⟨rfl,rfl⟩;go_wp2;go_ret;exact⟨rfl,rfl⟩
theorem z0r(c:UInt8)(w:World)(h1:48≤c.toNat)(h2:c.toNat≤57):Calls Tryz.prog 180 #[.int .u8 (c.toNat:Int)] w (RetI w (zaj c)):=by
 have hv:zaj c=2:=by
  unfold zaj letB;simp only[zak,decide_eq_true_eq]
  repeat' split
  all_goals omega
 rw[hv]
 have e32:((c.toNat:Int) == 32)=false:=by simp<;>omega
 have e9:((c.toNat:Int) == 9)=false:=by simp<;>omega
 have e10:((c.toNat:Int) == 10)=false:=by simp<;>omega
 have e95:((c.toNat:Int) == 95)=false:=by simp<;>omega
 have e45:((c.toNat:Int) == 45)=false:=by simp<;>omega
 have e34:((c.toNat:Int) == 34)=false:=by simp<;>omega
 have e35:((c.toNat:Int) == 35)=false:=by simp<;>omega
 have p48:(decide ((48:Int)≤(c.toNat:Int)))=true:=by simp<;>omega
 have p57:(decide ((c.toNat:Int)≤57))=true:=by simp<;>omega
 have hx:bits BinOp.or IntKind.u8 (c.toNat:Int) 32=((c.toNat:Nat):Int):=by rw[za4 (by omega),if_pos (by omega)]
 have p97:(decide ((97:Int)≤bits BinOp.or IntKind.u8 (c.toNat:Int) 32))=false:=by rw[hx];simp<;>omega
 have p122:(decide (bits BinOp.or IntKind.u8 (c.toNat:Int) 32≤122))=true:=by rw[hx];simp<;>omega
 clear hx h1 h2 hv;go_enter Tryz.func180,Tryz.ntmps180;go_wp2;go_ret;exact⟨rfl,rfl⟩
theorem z0q(c:UInt8)(w:World)(h1:58≤c.toNat)(h2:c.toNat≤58):Calls Tryz.prog 180 #[.int .u8 (c.toNat:Int)] w (RetI w (zaj c)):=by
 have hv:zaj c=0:=by
  unfold zaj letB;simp only[zak,decide_eq_true_eq]
  repeat' split
  all_goals omega
 rw[hv];have HI:=za7 (c:=c) (n := -1) (zdb (by rw[zak];omega))
 have e32:((c.toNat:Int) == 32)=false:=by simp<;>omega
 have e9:((c.toNat:Int) == 9)=false:=by simp<;>omega
 have e10:((c.toNat:Int) == 10)=false:=by simp<;>omega
 have e95:((c.toNat:Int) == 95)=false:=by simp<;>omega
 have e45:((c.toNat:Int) == 45)=false:=by simp<;>omega
 have e34:((c.toNat:Int) == 34)=false:=by simp<;>omega
 have e35:((c.toNat:Int) == 35)=false:=by simp<;>omega
 have p48:(decide ((48:Int)≤(c.toNat:Int)))=true:=by simp<;>omega
 have p57:(decide ((c.toNat:Int)≤57))=false:=by simp<;>omega
 have hx:bits BinOp.or IntKind.u8 (c.toNat:Int) 32=((c.toNat:Nat):Int):=by rw[za4 (by omega),if_pos (by omega)]
 have p97:(decide ((97:Int)≤bits BinOp.or IntKind.u8 (c.toNat:Int) 32))=false:=by rw[hx];simp<;>omega
 have p122:(decide (bits BinOp.or IntKind.u8 (c.toNat:Int) 32≤122))=true:=by rw[hx];simp<;>omega
 clear hx h1 h2 hv;go_enter Tryz.func180,Tryz.ntmps180;go_wp2_with fail;refine(HI.out _).mono ?_;rintro e w' ⟨rfl,rfl⟩;go_wp2;go_ret;exact⟨rfl,rfl⟩
theorem z0p(c:UInt8)(w:World)(h1:59≤c.toNat)(h2:c.toNat≤59):Calls Tryz.prog 180 #[.int .u8 (c.toNat:Int)] w (RetI w (zaj c)):=by
 have hv:zaj c=5:=by
  unfold zaj letB;simp only[zak,decide_eq_true_eq]
  repeat' split
  all_goals omega
 rw[hv]
 have HI:=za7 (c:=c) (n:=5) (by
  have:c=59:=UInt8.toNat_inj.1 (by show c.toNat=59;omega)
  rw[this];rfl)
 have e32:((c.toNat:Int) == 32)=false:=by simp<;>omega
 have e9:((c.toNat:Int) == 9)=false:=by simp<;>omega
 have e10:((c.toNat:Int) == 10)=false:=by simp<;>omega
 have e95:((c.toNat:Int) == 95)=false:=by simp<;>omega
 have e45:((c.toNat:Int) == 45)=false:=by simp<;>omega
 have e34:((c.toNat:Int) == 34)=false:=by simp<;>omega
 have e35:((c.toNat:Int) == 35)=false:=by simp<;>omega
 have p48:(decide ((48:Int)≤(c.toNat:Int)))=true:=by simp<;>omega
 have p57:(decide ((c.toNat:Int)≤57))=false:=by simp<;>omega
 have hx:bits BinOp.or IntKind.u8 (c.toNat:Int) 32=((c.toNat:Nat):Int):=by rw[za4 (by omega),if_pos (by omega)]
 have p97:(decide ((97:Int)≤bits BinOp.or IntKind.u8 (c.toNat:Int) 32))=false:=by rw[hx];simp<;>omega
 have p122:(decide (bits BinOp.or IntKind.u8 (c.toNat:Int) 32≤122))=true:=by rw[hx];simp<;>omega
 clear hx h1 h2 hv;go_enter Tryz.func180,Tryz.ntmps180;go_wp2_with fail;refine(HI.out _).mono ?_;rintro e w' ⟨rfl,rfl⟩;go_wp2;go_ret;exact⟨rfl,rfl⟩
theorem z0o(c:UInt8)(w:World)(h1:60≤c.toNat)(h2:c.toNat≤63):Calls Tryz.prog 180 #[.int .u8 (c.toNat:Int)] w (RetI w (zaj c)):=by
 have hv:zaj c=0:=by
  unfold zaj letB;simp only[zak,decide_eq_true_eq]
  repeat' split
  all_goals omega
 rw[hv];have HI:=za7 (c:=c) (n := -1) (zdb (by rw[zak];omega))
 have e32:((c.toNat:Int) == 32)=false:=by simp<;>omega
 have e9:((c.toNat:Int) == 9)=false:=by simp<;>omega
 have e10:((c.toNat:Int) == 10)=false:=by simp<;>omega
 have e95:((c.toNat:Int) == 95)=false:=by simp<;>omega
 have e45:((c.toNat:Int) == 45)=false:=by simp<;>omega
 have e34:((c.toNat:Int) == 34)=false:=by simp<;>omega
 have e35:((c.toNat:Int) == 35)=false:=by simp<;>omega
 have p48:(decide ((48:Int)≤(c.toNat:Int)))=true:=by simp<;>omega
 have p57:(decide ((c.toNat:Int)≤57))=false:=by simp<;>omega
 have hx:bits BinOp.or IntKind.u8 (c.toNat:Int) 32=((c.toNat:Nat):Int):=by rw[za4 (by omega),if_pos (by omega)]
 have p97:(decide ((97:Int)≤bits BinOp.or IntKind.u8 (c.toNat:Int) 32))=false:=by rw[hx];simp<;>omega
 have p122:(decide (bits BinOp.or IntKind.u8 (c.toNat:Int) 32≤122))=true:=by rw[hx];simp<;>omega
 clear hx h1 h2 hv;go_enter Tryz.func180,Tryz.ntmps180;go_wp2_with fail;refine(HI.out _).mono ?_;rintro e w' ⟨rfl,rfl⟩;go_wp2;go_ret;exact⟨rfl,rfl⟩
theorem z0n(c:UInt8)(w:World)(h1:64≤c.toNat)(h2:c.toNat≤64):Calls Tryz.prog 180 #[.int .u8 (c.toNat:Int)] w (RetI w (zaj c)):=by
 have hv:zaj c=5:=by
  unfold zaj letB;simp only[zak,decide_eq_true_eq]
  repeat' split
  all_goals omega
 rw[hv]
 have HI:=za7 (c:=c) (n:=6) (by
  have:c=64:=UInt8.toNat_inj.1 (by show c.toNat=64;omega)
  rw[this];rfl)
 have e32:((c.toNat:Int) == 32)=false:=by simp<;>omega
 have e9:((c.toNat:Int) == 9)=false:=by simp<;>omega
 have e10:((c.toNat:Int) == 10)=false:=by simp<;>omega
 have e95:((c.toNat:Int) == 95)=false:=by simp<;>omega
 have e45:((c.toNat:Int) == 45)=false:=by simp<;>omega
 have e34:((c.toNat:Int) == 34)=false:=by simp<;>omega
 have e35:((c.toNat:Int) == 35)=false:=by simp<;>omega
 have p48:(decide ((48:Int)≤(c.toNat:Int)))=true:=by simp<;>omega
 have p57:(decide ((c.toNat:Int)≤57))=false:=by simp<;>omega
 have hx:bits BinOp.or IntKind.u8 (c.toNat:Int) 32=((c.toNat+32:Nat):Int):=by rw[za4 (by omega),if_neg (by omega)]
 have p97:(decide ((97:Int)≤bits BinOp.or IntKind.u8 (c.toNat:Int) 32))=false:=by rw[hx];simp<;>omega
 have p122:(decide (bits BinOp.or IntKind.u8 (c.toNat:Int) 32≤122))=true:=by rw[hx];simp<;>omega
 clear hx h1 h2 hv;go_enter Tryz.func180,Tryz.ntmps180;go_wp2_with fail;refine(HI.out _).mono ?_;rintro e w' ⟨rfl,rfl⟩;go_wp2;go_ret;exact⟨rfl,rfl⟩
theorem z0m(c:UInt8)(w:World)(h1:65≤c.toNat)(h2:c.toNat≤90):Calls Tryz.prog 180 #[.int .u8 (c.toNat:Int)] w (RetI w (zaj c)):=by
 have hv:zaj c=3:=by
  unfold zaj letB;simp only[zak,decide_eq_true_eq]
  repeat' split
  all_goals omega
 rw[hv]
 have e32:((c.toNat:Int) == 32)=false:=by simp<;>omega
 have e9:((c.toNat:Int) == 9)=false:=by simp<;>omega
 have e10:((c.toNat:Int) == 10)=false:=by simp<;>omega
 have e95:((c.toNat:Int) == 95)=false:=by simp<;>omega
 have e45:((c.toNat:Int) == 45)=false:=by simp<;>omega
 have e34:((c.toNat:Int) == 34)=false:=by simp<;>omega
 have e35:((c.toNat:Int) == 35)=false:=by simp<;>omega
 have p48:(decide ((48:Int)≤(c.toNat:Int)))=true:=by simp<;>omega
 have p57:(decide ((c.toNat:Int)≤57))=false:=by simp<;>omega
 have hx:bits BinOp.or IntKind.u8 (c.toNat:Int) 32=((c.toNat+32:Nat):Int):=by rw[za4 (by omega),if_neg (by omega)]
 have p97:(decide ((97:Int)≤bits BinOp.or IntKind.u8 (c.toNat:Int) 32))=true:=by rw[hx];simp<;>omega
 have p122:(decide (bits BinOp.or IntKind.u8 (c.toNat:Int) 32≤122))=true:=by rw[hx];simp<;>omega
 clear hx h1 h2 hv;go_enter Tryz.func180,Tryz.ntmps180;go_wp2;go_ret;exact⟨rfl,rfl⟩
theorem z0l(c:UInt8)(w:World)(h1:91≤c.toNat)(h2:c.toNat≤94):Calls Tryz.prog 180 #[.int .u8 (c.toNat:Int)] w (RetI w (zaj c)):=by
 have hv:zaj c=0:=by
  unfold zaj letB;simp only[zak,decide_eq_true_eq]
  repeat' split
  all_goals omega
 rw[hv];have HI:=za7 (c:=c) (n := -1) (zdb (by rw[zak];omega))
 have e32:((c.toNat:Int) == 32)=false:=by simp<;>omega
 have e9:((c.toNat:Int) == 9)=false:=by simp<;>omega
 have e10:((c.toNat:Int) == 10)=false:=by simp<;>omega
 have e95:((c.toNat:Int) == 95)=false:=by simp<;>omega
 have e45:((c.toNat:Int) == 45)=false:=by simp<;>omega
 have e34:((c.toNat:Int) == 34)=false:=by simp<;>omega
 have e35:((c.toNat:Int) == 35)=false:=by simp<;>omega
 have p48:(decide ((48:Int)≤(c.toNat:Int)))=true:=by simp<;>omega
 have p57:(decide ((c.toNat:Int)≤57))=false:=by simp<;>omega
 have hx:bits BinOp.or IntKind.u8 (c.toNat:Int) 32=((c.toNat+32:Nat):Int):=by rw[za4 (by omega),if_neg (by omega)]
 have p97:(decide ((97:Int)≤bits BinOp.or IntKind.u8 (c.toNat:Int) 32))=true:=by rw[hx];simp<;>omega
 have p122:(decide (bits BinOp.or IntKind.u8 (c.toNat:Int) 32≤122))=false:=by rw[hx];simp<;>omega
 clear hx h1 h2 hv;go_enter Tryz.func180,Tryz.ntmps180;go_wp2_with fail;refine(HI.out _).mono ?_;rintro e w' ⟨rfl,rfl⟩;go_wp2;go_ret;exact⟨rfl,rfl⟩
theorem z0k(c:UInt8)(w:World)(h1:95≤c.toNat)(h2:c.toNat≤95):Calls Tryz.prog 180 #[.int .u8 (c.toNat:Int)] w (RetI w (zaj c)):=by
 have hv:zaj c=4:=by
  unfold zaj letB;simp only[zak,decide_eq_true_eq]
  repeat' split
  all_goals omega
 rw[hv]
 have e32:((c.toNat:Int) == 32)=false:=by simp<;>omega
 have e9:((c.toNat:Int) == 9)=false:=by simp<;>omega
 have e10:((c.toNat:Int) == 10)=false:=by simp<;>omega
 have e95:((c.toNat:Int) == 95)=true:=by simp<;>omega
 have e45:((c.toNat:Int) == 45)=false:=by simp<;>omega
 have e34:((c.toNat:Int) == 34)=false:=by simp<;>omega
 have e35:((c.toNat:Int) == 35)=false:=by simp<;>omega
 have p48:(decide ((48:Int)≤(c.toNat:Int)))=true:=by simp<;>omega
 have p57:(decide ((c.toNat:Int)≤57))=false:=by simp<;>omega
 have hx:bits BinOp.or IntKind.u8 (c.toNat:Int) 32=((c.toNat+32:Nat):Int):=by rw[za4 (by omega),if_neg (by omega)]
 have p97:(decide ((97:Int)≤bits BinOp.or IntKind.u8 (c.toNat:Int) 32))=true:=by rw[hx];simp<;>omega
 have p122:(decide (bits BinOp.or IntKind.u8 (c.toNat:Int) 32≤122))=false:=by rw[hx];simp<;>omega
 clear hx h1 h2 hv;go_enter Tryz.func180,Tryz.ntmps180;go_wp2;go_ret;exact⟨rfl,rfl⟩
theorem z0j(c:UInt8)(w:World)(h1:96≤c.toNat)(h2:c.toNat≤96):Calls Tryz.prog 180 #[.int .u8 (c.toNat:Int)] w (RetI w (zaj c)):=by
 have hv:zaj c=0:=by
  unfold zaj letB;simp only[zak,decide_eq_true_eq]
  repeat' split
  all_goals omega
 rw[hv];have HI:=za7 (c:=c) (n := -1) (zdb (by rw[zak];omega))
 have e32:((c.toNat:Int) == 32)=false:=by simp<;>omega
 have e9:((c.toNat:Int) == 9)=false:=by simp<;>omega
 have e10:((c.toNat:Int) == 10)=false:=by simp<;>omega
 have e95:((c.toNat:Int) == 95)=false:=by simp<;>omega
 have e45:((c.toNat:Int) == 45)=false:=by simp<;>omega
 have e34:((c.toNat:Int) == 34)=false:=by simp<;>omega
 have e35:((c.toNat:Int) == 35)=false:=by simp<;>omega
 have p48:(decide ((48:Int)≤(c.toNat:Int)))=true:=by simp<;>omega
 have p57:(decide ((c.toNat:Int)≤57))=false:=by simp<;>omega
 have hx:bits BinOp.or IntKind.u8 (c.toNat:Int) 32=((c.toNat:Nat):Int):=by rw[za4 (by omega),if_pos (by omega)]
 have p97:(decide ((97:Int)≤bits BinOp.or IntKind.u8 (c.toNat:Int) 32))=false:=by rw[hx];simp<;>omega
 have p122:(decide (bits BinOp.or IntKind.u8 (c.toNat:Int) 32≤122))=true:=by rw[hx];simp<;>omega
 clear hx h1 h2 hv;go_enter Tryz.func180,Tryz.ntmps180;go_wp2_with fail;refine(HI.out _).mono ?_;rintro e w' ⟨rfl,rfl⟩;go_wp2;go_ret;exact⟨rfl,rfl⟩
theorem z0i(c:UInt8)(w:World)(h1:97≤c.toNat)(h2:c.toNat≤122):Calls Tryz.prog 180 #[.int .u8 (c.toNat:Int)] w (RetI w (zaj c)):=by
 have hv:zaj c=3:=by
  unfold zaj letB;simp only[zak,decide_eq_true_eq]
  repeat' split
  all_goals omega
 rw[hv]
 have e32:((c.toNat:Int) == 32)=false:=by simp<;>omega
 have e9:((c.toNat:Int) == 9)=false:=by simp<;>omega
 have e10:((c.toNat:Int) == 10)=false:=by simp<;>omega
 have e95:((c.toNat:Int) == 95)=false:=by simp<;>omega
 have e45:((c.toNat:Int) == 45)=false:=by simp<;>omega
 have e34:((c.toNat:Int) == 34)=false:=by simp<;>omega
 have e35:((c.toNat:Int) == 35)=false:=by simp<;>omega
 have p48:(decide ((48:Int)≤(c.toNat:Int)))=true:=by simp<;>omega
 have p57:(decide ((c.toNat:Int)≤57))=false:=by simp<;>omega
 have hx:bits BinOp.or IntKind.u8 (c.toNat:Int) 32=((c.toNat:Nat):Int):=by rw[za4 (by omega),if_pos (by omega)]
 have p97:(decide ((97:Int)≤bits BinOp.or IntKind.u8 (c.toNat:Int) 32))=true:=by rw[hx];simp<;>omega
 have p122:(decide (bits BinOp.or IntKind.u8 (c.toNat:Int) 32≤122))=true:=by rw[hx];simp<;>omega
 clear hx h1 h2 hv;go_enter Tryz.func180,Tryz.ntmps180;go_wp2;go_ret;exact⟨rfl,rfl⟩
theorem zxn(c:UInt8)(w:World)(h1:123≤c.toNat)(h2:c.toNat≤123):Calls Tryz.prog 180 #[.int .u8 (c.toNat:Int)] w (RetI w (zaj c)):=by
 have hv:zaj c=5:=by
  unfold zaj letB;simp only[zak,decide_eq_true_eq]
  repeat' split
  all_goals omega
 rw[hv]
 have HI:=za7 (c:=c) (n:=2) (by
  have:c=123:=UInt8.toNat_inj.1 (by show c.toNat=123;omega)
  rw[this];rfl)
 have e32:((c.toNat:Int) == 32)=false:=by simp<;>omega
 have e9:((c.toNat:Int) == 9)=false:=by simp<;>omega
 have e10:((c.toNat:Int) == 10)=false:=by simp<;>omega
 have e95:((c.toNat:Int) == 95)=false:=by simp<;>omega
 have e45:((c.toNat:Int) == 45)=false:=by simp<;>omega
 have e34:((c.toNat:Int) == 34)=false:=by simp<;>omega
 have e35:((c.toNat:Int) == 35)=false:=by simp<;>omega
 have p48:(decide ((48:Int)≤(c.toNat:Int)))=true:=by simp<;>omega
 have p57:(decide ((c.toNat:Int)≤57))=false:=by simp<;>omega
 have hx:bits BinOp.or IntKind.u8 (c.toNat:Int) 32=((c.toNat:Nat):Int):=by rw[za4 (by omega),if_pos (by omega)]
 have p97:(decide ((97:Int)≤bits BinOp.or IntKind.u8 (c.toNat:Int) 32))=true:=by rw[hx];simp<;>omega
 have p122:(decide (bits BinOp.or IntKind.u8 (c.toNat:Int) 32≤122))=false:=by rw[hx];simp<;>omega
 clear hx h1 h2 hv;go_enter Tryz.func180,Tryz.ntmps180;go_wp2_with fail;refine(HI.out _).mono ?_;rintro e w' ⟨rfl,rfl⟩;go_wp2;go_ret;exact⟨rfl,rfl⟩
theorem zxm(c:UInt8)(w:World)(h1:124≤c.toNat)(h2:c.toNat≤124):Calls Tryz.prog 180 #[.int .u8 (c.toNat:Int)] w (RetI w (zaj c)):=by
 have hv:zaj c=0:=by
  unfold zaj letB;simp only[zak,decide_eq_true_eq]
  repeat' split
  all_goals omega
 rw[hv];have HI:=za7 (c:=c) (n := -1) (zdb (by rw[zak];omega))
 have e32:((c.toNat:Int) == 32)=false:=by simp<;>omega
 have e9:((c.toNat:Int) == 9)=false:=by simp<;>omega
 have e10:((c.toNat:Int) == 10)=false:=by simp<;>omega
 have e95:((c.toNat:Int) == 95)=false:=by simp<;>omega
 have e45:((c.toNat:Int) == 45)=false:=by simp<;>omega
 have e34:((c.toNat:Int) == 34)=false:=by simp<;>omega
 have e35:((c.toNat:Int) == 35)=false:=by simp<;>omega
 have p48:(decide ((48:Int)≤(c.toNat:Int)))=true:=by simp<;>omega
 have p57:(decide ((c.toNat:Int)≤57))=false:=by simp<;>omega
 have hx:bits BinOp.or IntKind.u8 (c.toNat:Int) 32=((c.toNat:Nat):Int):=by rw[za4 (by omega),if_pos (by omega)]
 have p97:(decide ((97:Int)≤bits BinOp.or IntKind.u8 (c.toNat:Int) 32))=true:=by rw[hx];simp<;>omega
 have p122:(decide (bits BinOp.or IntKind.u8 (c.toNat:Int) 32≤122))=false:=by rw[hx];simp<;>omega
 clear hx h1 h2 hv;go_enter Tryz.func180,Tryz.ntmps180;go_wp2_with fail;refine(HI.out _).mono ?_;rintro e w' ⟨rfl,rfl⟩;go_wp2;go_ret;exact⟨rfl,rfl⟩
theorem zxl(c:UInt8)(w:World)(h1:125≤c.toNat)(h2:c.toNat≤125):Calls Tryz.prog 180 #[.int .u8 (c.toNat:Int)] w (RetI w (zaj c)):=by
 have hv:zaj c=5:=by
  unfold zaj letB;simp only[zak,decide_eq_true_eq]
  repeat' split
  all_goals omega
 rw[hv]
 have HI:=za7 (c:=c) (n:=3) (by
  have:c=125:=UInt8.toNat_inj.1 (by show c.toNat=125;omega)
  rw[this];rfl)
 have e32:((c.toNat:Int) == 32)=false:=by simp<;>omega
 have e9:((c.toNat:Int) == 9)=false:=by simp<;>omega
 have e10:((c.toNat:Int) == 10)=false:=by simp<;>omega
 have e95:((c.toNat:Int) == 95)=false:=by simp<;>omega
 have e45:((c.toNat:Int) == 45)=false:=by simp<;>omega
 have e34:((c.toNat:Int) == 34)=false:=by simp<;>omega
 have e35:((c.toNat:Int) == 35)=false:=by simp<;>omega
 have p48:(decide ((48:Int)≤(c.toNat:Int)))=true:=by simp<;>omega
 have p57:(decide ((c.toNat:Int)≤57))=false:=by simp<;>omega
 have hx:bits BinOp.or IntKind.u8 (c.toNat:Int) 32=((c.toNat:Nat):Int):=by rw[za4 (by omega),if_pos (by omega)]
 have p97:(decide ((97:Int)≤bits BinOp.or IntKind.u8 (c.toNat:Int) 32))=true:=by rw[hx];simp<;>omega
 have p122:(decide (bits BinOp.or IntKind.u8 (c.toNat:Int) 32≤122))=false:=by rw[hx];simp<;>omega
 clear hx h1 h2 hv;go_enter Tryz.func180,Tryz.ntmps180;go_wp2_with fail;refine(HI.out _).mono ?_;rintro e w' ⟨rfl,rfl⟩;go_wp2;go_ret;exact⟨rfl,rfl⟩
theorem zxk(c:UInt8)(w:World)(h1:126≤c.toNat)(h2:c.toNat≤127):Calls Tryz.prog 180 #[.int .u8 (c.toNat:Int)] w (RetI w (zaj c)):=by
 have hv:zaj c=0:=by
  unfold zaj letB;simp only[zak,decide_eq_true_eq]
  repeat' split
  all_goals omega
 rw[hv];have HI:=za7 (c:=c) (n := -1) (zdb (by rw[zak];omega))
 have e32:((c.toNat:Int) == 32)=false:=by simp<;>omega
 have e9:((c.toNat:Int) == 9)=false:=by simp<;>omega
 have e10:((c.toNat:Int) == 10)=false:=by simp<;>omega
 have e95:((c.toNat:Int) == 95)=false:=by simp<;>omega
 have e45:((c.toNat:Int) == 45)=false:=by simp<;>omega
 have e34:((c.toNat:Int) == 34)=false:=by simp<;>omega
 have e35:((c.toNat:Int) == 35)=false:=by simp<;>omega
 have p48:(decide ((48:Int)≤(c.toNat:Int)))=true:=by simp<;>omega
 have p57:(decide ((c.toNat:Int)≤57))=false:=by simp<;>omega
 have hx:bits BinOp.or IntKind.u8 (c.toNat:Int) 32=((c.toNat:Nat):Int):=by rw[za4 (by omega),if_pos (by omega)]
 have p97:(decide ((97:Int)≤bits BinOp.or IntKind.u8 (c.toNat:Int) 32))=true:=by rw[hx];simp<;>omega
 have p122:(decide (bits BinOp.or IntKind.u8 (c.toNat:Int) 32≤122))=false:=by rw[hx];simp<;>omega
 clear hx h1 h2 hv;go_enter Tryz.func180,Tryz.ntmps180;go_wp2_with fail;refine(HI.out _).mono ?_;rintro e w' ⟨rfl,rfl⟩;go_wp2;go_ret;exact⟨rfl,rfl⟩
theorem zxj(c:UInt8)(w:World)(h1:128≤c.toNat)(h2:c.toNat≤159):Calls Tryz.prog 180 #[.int .u8 (c.toNat:Int)] w (RetI w (zaj c)):=by
 have hv:zaj c=0:=by
  unfold zaj letB;simp only[zak,decide_eq_true_eq]
  repeat' split
  all_goals omega
 rw[hv];have HI:=za7 (c:=c) (n := -1) (zdb (by rw[zak];omega))
 have e32:((c.toNat:Int) == 32)=false:=by simp<;>omega
 have e9:((c.toNat:Int) == 9)=false:=by simp<;>omega
 have e10:((c.toNat:Int) == 10)=false:=by simp<;>omega
 have e95:((c.toNat:Int) == 95)=false:=by simp<;>omega
 have e45:((c.toNat:Int) == 45)=false:=by simp<;>omega
 have e34:((c.toNat:Int) == 34)=false:=by simp<;>omega
 have e35:((c.toNat:Int) == 35)=false:=by simp<;>omega
 have p48:(decide ((48:Int)≤(c.toNat:Int)))=true:=by simp<;>omega
 have p57:(decide ((c.toNat:Int)≤57))=false:=by simp<;>omega
 have hx:bits BinOp.or IntKind.u8 (c.toNat:Int) 32=((c.toNat+32:Nat):Int):=by rw[za4 (by omega),if_neg (by omega)]
 have p97:(decide ((97:Int)≤bits BinOp.or IntKind.u8 (c.toNat:Int) 32))=true:=by rw[hx];simp<;>omega
 have p122:(decide (bits BinOp.or IntKind.u8 (c.toNat:Int) 32≤122))=false:=by rw[hx];simp<;>omega
 clear hx h1 h2 hv;go_enter Tryz.func180,Tryz.ntmps180;go_wp2_with fail;refine(HI.out _).mono ?_;rintro e w' ⟨rfl,rfl⟩;go_wp2;go_ret;exact⟨rfl,rfl⟩
theorem zxi(c:UInt8)(w:World)(h1:160≤c.toNat)(h2:c.toNat≤191):Calls Tryz.prog 180 #[.int .u8 (c.toNat:Int)] w (RetI w (zaj c)):=by
 have hv:zaj c=0:=by
  unfold zaj letB;simp only[zak,decide_eq_true_eq]
  repeat' split
  all_goals omega
 rw[hv];have HI:=za7 (c:=c) (n := -1) (zdb (by rw[zak];omega))
 have e32:((c.toNat:Int) == 32)=false:=by simp<;>omega
 have e9:((c.toNat:Int) == 9)=false:=by simp<;>omega
 have e10:((c.toNat:Int) == 10)=false:=by simp<;>omega
 have e95:((c.toNat:Int) == 95)=false:=by simp<;>omega
 have e45:((c.toNat:Int) == 45)=false:=by simp<;>omega
 have e34:((c.toNat:Int) == 34)=false:=by simp<;>omega
 have e35:((c.toNat:Int) == 35)=false:=by simp<;>omega
 have p48:(decide ((48:Int)≤(c.toNat:Int)))=true:=by simp<;>omega
 have p57:(decide ((c.toNat:Int)≤57))=false:=by simp<;>omega
 have hx:bits BinOp.or IntKind.u8 (c.toNat:Int) 32=((c.toNat:Nat):Int):=by rw[za4 (by omega),if_pos (by omega)]
 have p97:(decide ((97:Int)≤bits BinOp.or IntKind.u8 (c.toNat:Int) 32))=true:=by rw[hx];simp<;>omega
 have p122:(decide (bits BinOp.or IntKind.u8 (c.toNat:Int) 32≤122))=false:=by rw[hx];simp<;>omega
 clear hx h1 h2 hv;go_enter Tryz.func180,Tryz.ntmps180;go_wp2_with fail;refine(HI.out _).mono ?_;rintro e w' ⟨rfl,rfl⟩;go_wp2;go_ret;exact⟨rfl,rfl⟩
theorem zxh(c:UInt8)(w:World)(h1:192≤c.toNat)(h2:c.toNat≤223):Calls Tryz.prog 180 #[.int .u8 (c.toNat:Int)] w (RetI w (zaj c)):=by
 have hv:zaj c=0:=by
  unfold zaj letB;simp only[zak,decide_eq_true_eq]
  repeat' split
  all_goals omega
 rw[hv];have HI:=za7 (c:=c) (n := -1) (zdb (by rw[zak];omega))
 have e32:((c.toNat:Int) == 32)=false:=by simp<;>omega
 have e9:((c.toNat:Int) == 9)=false:=by simp<;>omega
 have e10:((c.toNat:Int) == 10)=false:=by simp<;>omega
 have e95:((c.toNat:Int) == 95)=false:=by simp<;>omega
 have e45:((c.toNat:Int) == 45)=false:=by simp<;>omega
 have e34:((c.toNat:Int) == 34)=false:=by simp<;>omega
 have e35:((c.toNat:Int) == 35)=false:=by simp<;>omega
 have p48:(decide ((48:Int)≤(c.toNat:Int)))=true:=by simp<;>omega
 have p57:(decide ((c.toNat:Int)≤57))=false:=by simp<;>omega
 have hx:bits BinOp.or IntKind.u8 (c.toNat:Int) 32=((c.toNat+32:Nat):Int):=by rw[za4 (by omega),if_neg (by omega)]
 have p97:(decide ((97:Int)≤bits BinOp.or IntKind.u8 (c.toNat:Int) 32))=true:=by rw[hx];simp<;>omega
 have p122:(decide (bits BinOp.or IntKind.u8 (c.toNat:Int) 32≤122))=false:=by rw[hx];simp<;>omega
 clear hx h1 h2 hv;go_enter Tryz.func180,Tryz.ntmps180;go_wp2_with fail;refine(HI.out _).mono ?_;rintro e w' ⟨rfl,rfl⟩;go_wp2;go_ret;exact⟨rfl,rfl⟩
theorem zxg(c:UInt8)(w:World)(h1:224≤c.toNat)(h2:c.toNat≤255):Calls Tryz.prog 180 #[.int .u8 (c.toNat:Int)] w (RetI w (zaj c)):=by
 have hv:zaj c=0:=by
  unfold zaj letB;simp only[zak,decide_eq_true_eq]
  repeat' split
  all_goals omega
 rw[hv];have HI:=za7 (c:=c) (n := -1) (zdb (by rw[zak];omega))
 have e32:((c.toNat:Int) == 32)=false:=by simp<;>omega
 have e9:((c.toNat:Int) == 9)=false:=by simp<;>omega
 have e10:((c.toNat:Int) == 10)=false:=by simp<;>omega
 have e95:((c.toNat:Int) == 95)=false:=by simp<;>omega
 have e45:((c.toNat:Int) == 45)=false:=by simp<;>omega
 have e34:((c.toNat:Int) == 34)=false:=by simp<;>omega
 have e35:((c.toNat:Int) == 35)=false:=by simp<;>omega
 have p48:(decide ((48:Int)≤(c.toNat:Int)))=true:=by simp<;>omega
 have p57:(decide ((c.toNat:Int)≤57))=false:=by simp<;>omega
 have hx:bits BinOp.or IntKind.u8 (c.toNat:Int) 32=((c.toNat:Nat):Int):=by rw[za4 (by omega),if_pos (by omega)]
 have p97:(decide ((97:Int)≤bits BinOp.or IntKind.u8 (c.toNat:Int) 32))=true:=by rw[hx];simp<;>omega
 have p122:(decide (bits BinOp.or IntKind.u8 (c.toNat:Int) 32≤122))=false:=by rw[hx];simp<;>omega
 clear hx h1 h2 hv;go_enter Tryz.func180,Tryz.ntmps180;go_wp2_with fail;refine(HI.out _).mono ?_;rintro e w' ⟨rfl,rfl⟩;go_wp2;go_ret;exact⟨rfl,rfl⟩
theorem zjq(c:UInt8)(w:World):Calls Tryz.prog 180 #[.int .u8 (c.toNat:Int)] w (RetI w (zaj c)):=by
 have hc:=c.toNat_lt
 rcases Nat.lt_or_ge 8 c.toNat with h8 |h8
 case inr=>exact z4w c w (by omega) h8
 rcases Nat.lt_or_ge 9 c.toNat with h9 |h9
 case inr=>exact z4v c w (by omega) h9
 rcases Nat.lt_or_ge 10 c.toNat with Za |Za
 case inr=>exact z05 c w (by omega) Za
 rcases Nat.lt_or_ge 31 c.toNat with h31 |h31
 case inr=>exact z04 c w (by omega) h31
 rcases Nat.lt_or_ge 32 c.toNat with h32 |h32
 case inr=>exact z03 c w (by omega) h32
 rcases Nat.lt_or_ge 33 c.toNat with h33 |h33
 case inr=>exact z02 c w (by omega) h33
 rcases Nat.lt_or_ge 34 c.toNat with V5 |V5
 case inr=>exact z01 c w (by omega) V5
 rcases Nat.lt_or_ge 35 c.toNat with VT |VT
 case inr=>exact z00 c w (by omega) VT
 rcases Nat.lt_or_ge 39 c.toNat with h39 |h39
 case inr=>exact z0z c w (by omega) h39
 rcases Nat.lt_or_ge 40 c.toNat with Vl |Vl
 case inr=>exact z0y c w (by omega) Vl
 rcases Nat.lt_or_ge 41 c.toNat with h41 |h41
 case inr=>exact z0x c w (by omega) h41
 rcases Nat.lt_or_ge 42 c.toNat with h42 |h42
 case inr=>exact z0w c w (by omega) h42
 rcases Nat.lt_or_ge 43 c.toNat with h43 |h43
 case inr=>exact z0v c w (by omega) h43
 rcases Nat.lt_or_ge 44 c.toNat with h44 |h44
 case inr=>exact z0u c w (by omega) h44
 rcases Nat.lt_or_ge 45 c.toNat with YN |YN
 case inr=>exact z0t c w (by omega) YN
 rcases Nat.lt_or_ge 47 c.toNat with YF |YF
 case inr=>exact z0s c w (by omega) YF
 rcases Nat.lt_or_ge 57 c.toNat with h57 |h57
 case inr=>exact z0r c w (by omega) h57
 rcases Nat.lt_or_ge 58 c.toNat with h58 |h58
 case inr=>exact z0q c w (by omega) h58
 rcases Nat.lt_or_ge 59 c.toNat with h59 |h59
 case inr=>exact z0p c w (by omega) h59
 rcases Nat.lt_or_ge 63 c.toNat with UJ |UJ
 case inr=>exact z0o c w (by omega) UJ
 rcases Nat.lt_or_ge 64 c.toNat with h64 |h64
 case inr=>exact z0n c w (by omega) h64
 rcases Nat.lt_or_ge 90 c.toNat with h90 |h90
 case inr=>exact z0m c w (by omega) h90
 rcases Nat.lt_or_ge 94 c.toNat with h94 |h94
 case inr=>exact z0l c w (by omega) h94
 rcases Nat.lt_or_ge 95 c.toNat with Uo |Uo
 case inr=>exact z0k c w (by omega) Uo
 rcases Nat.lt_or_ge 96 c.toNat with h96 |h96
 case inr=>exact z0j c w (by omega) h96
 rcases Nat.lt_or_ge 122 c.toNat with Tr |Tr
 case inr=>exact z0i c w (by omega) Tr
 rcases Nat.lt_or_ge 123 c.toNat with Ts |Ts
 case inr=>exact zxn c w (by omega) Ts
 rcases Nat.lt_or_ge 124 c.toNat with Tt |Tt
 case inr=>exact zxm c w (by omega) Tt
 rcases Nat.lt_or_ge 125 c.toNat with Tu |Tu
 case inr=>exact zxl c w (by omega) Tu
 rcases Nat.lt_or_ge 127 c.toNat with Tv |Tv
 case inr=>exact zxk c w (by omega) Tv
 rcases Nat.lt_or_ge 159 c.toNat with Tx |Tx
 case inr=>exact zxj c w (by omega) Tx
 rcases Nat.lt_or_ge 191 c.toNat with Ty |Ty
 case inr=>exact zxi c w (by omega) Ty
 rcases Nat.lt_or_ge 223 c.toNat with Tz |Tz
 case inr=>exact zxh c w (by omega) Tz
 exact zxg c w (by omega) (by omega)
theorem z36(c:UInt8)(w:World)(h:c.toNat=40):Calls Tryz.prog 168 #[.int .u8 (c.toNat:Int)] w (RetB w (mkB c)):=by
 have hv:mkB c=true:=by unfold mkB;simp only[zak,Bool.or_eq_true,decide_eq_true_eq];omega
 rw[hv,h];go_enter Tryz.func168,Tryz.ntmps168;go_wp2;go_ret;exact⟨rfl,rfl⟩
theorem z35(c:UInt8)(w:World)(h:c.toNat=41):Calls Tryz.prog 168 #[.int .u8 (c.toNat:Int)] w (RetB w (mkB c)):=by
 have hv:mkB c=true:=by unfold mkB;simp only[zak,Bool.or_eq_true,decide_eq_true_eq];omega
 rw[hv,h];go_enter Tryz.func168,Tryz.ntmps168;go_wp2;go_ret;exact⟨rfl,rfl⟩
theorem zzj(c:UInt8)(w:World)(h:c.toNat=123):Calls Tryz.prog 168 #[.int .u8 (c.toNat:Int)] w (RetB w (mkB c)):=by
 have hv:mkB c=true:=by unfold mkB;simp only[zak,Bool.or_eq_true,decide_eq_true_eq];omega
 rw[hv,h];go_enter Tryz.func168,Tryz.ntmps168;go_wp2;go_ret;exact⟨rfl,rfl⟩
theorem zzi(c:UInt8)(w:World)(h:c.toNat=125):Calls Tryz.prog 168 #[.int .u8 (c.toNat:Int)] w (RetB w (mkB c)):=by
 have hv:mkB c=true:=by unfold mkB;simp only[zak,Bool.or_eq_true,decide_eq_true_eq];omega
 rw[hv,h];go_enter Tryz.func168,Tryz.ntmps168;go_wp2;go_ret;exact⟨rfl,rfl⟩
theorem z32(c:UInt8)(w:World)(h:c.toNat=44):Calls Tryz.prog 168 #[.int .u8 (c.toNat:Int)] w (RetB w (mkB c)):=by
 have hv:mkB c=true:=by unfold mkB;simp only[zak,Bool.or_eq_true,decide_eq_true_eq];omega
 rw[hv,h];go_enter Tryz.func168,Tryz.ntmps168;go_wp2;go_ret;exact⟨rfl,rfl⟩
theorem z30(c:UInt8)(w:World)(h:c.toNat=59):Calls Tryz.prog 168 #[.int .u8 (c.toNat:Int)] w (RetB w (mkB c)):=by
 have hv:mkB c=true:=by unfold mkB;simp only[zak,Bool.or_eq_true,decide_eq_true_eq];omega
 rw[hv,h];go_enter Tryz.func168,Tryz.ntmps168;go_wp2;go_ret;exact⟨rfl,rfl⟩
theorem z3z(c:UInt8)(w:World)(h:c.toNat=64):Calls Tryz.prog 168 #[.int .u8 (c.toNat:Int)] w (RetB w (mkB c)):=by
 have hv:mkB c=true:=by unfold mkB;simp only[zak,Bool.or_eq_true,decide_eq_true_eq];omega
 rw[hv,h];go_enter Tryz.func168,Tryz.ntmps168;go_wp2;go_ret;exact⟨rfl,rfl⟩
theorem z33(c:UInt8)(w:World)(h:c.toNat=43):Calls Tryz.prog 168 #[.int .u8 (c.toNat:Int)] w (RetB w (mkB c)):=by
 have hv:mkB c=true:=by unfold mkB;simp only[zak,Bool.or_eq_true,decide_eq_true_eq];omega
 rw[hv,h];go_enter Tryz.func168,Tryz.ntmps168;go_wp2;go_ret;exact⟨rfl,rfl⟩
theorem z31(c:UInt8)(w:World)(h:c.toNat=45):Calls Tryz.prog 168 #[.int .u8 (c.toNat:Int)] w (RetB w (mkB c)):=by
 have hv:mkB c=true:=by unfold mkB;simp only[zak,Bool.or_eq_true,decide_eq_true_eq];omega
 rw[hv,h];go_enter Tryz.func168,Tryz.ntmps168;go_wp2;go_ret;exact⟨rfl,rfl⟩
theorem z34(c:UInt8)(w:World)(h:c.toNat=42):Calls Tryz.prog 168 #[.int .u8 (c.toNat:Int)] w (RetB w (mkB c)):=by
 have hv:mkB c=true:=by unfold mkB;simp only[zak,Bool.or_eq_true,decide_eq_true_eq];omega
 rw[hv,h];go_enter Tryz.func168,Tryz.ntmps168;go_wp2;go_ret;exact⟨rfl,rfl⟩
theorem z3y(c:UInt8)(w:World)(h:¬(c ∈ zdq∨c.toNat=45)):Calls Tryz.prog 168 #[.int .u8 (c.toNat:Int)] w (RetB w (mkB c)):=by
 have hv:mkB c=false:=by unfold mkB;simp only[Bool.or_eq_false_iff,decide_eq_false_iff_not];exact⟨fun a=>h (.inl a),fun a=>h (.inr a)⟩
 rw[zak]at h;rw[hv]
 have e40:((c.toNat:Int) == 40)=false:=by simp<;>omega
 have e41:((c.toNat:Int) == 41)=false:=by simp<;>omega
 have e123:((c.toNat:Int) == 123)=false:=by simp<;>omega
 have e125:((c.toNat:Int) == 125)=false:=by simp<;>omega
 have e44:((c.toNat:Int) == 44)=false:=by simp<;>omega
 have e59:((c.toNat:Int) == 59)=false:=by simp<;>omega
 have e64:((c.toNat:Int) == 64)=false:=by simp<;>omega
 have e43:((c.toNat:Int) == 43)=false:=by simp<;>omega
 have e45:((c.toNat:Int) == 45)=false:=by simp<;>omega
 have e42:((c.toNat:Int) == 42)=false:=by simp<;>omega
 clear h hv;go_enter Tryz.func168,Tryz.ntmps168;go_wp2;go_ret;exact⟨rfl,rfl⟩
theorem zzh(c:UInt8)(w:World):Calls Tryz.prog 168 #[.int .u8 (c.toNat:Int)] w (RetB w (mkB c)):=by
 by_cases h:c ∈ zdq∨c.toNat=45
 ·have h':=h
  rw[zak]at h'
  rcases h' with(h |h |h |h |h |h |h |h |h) |h
  ·exact z36 c w h
  ·exact z35 c w h
  ·exact zzj c w h
  ·exact zzi c w h
  ·exact z32 c w h
  ·exact z30 c w h
  ·exact z3z c w h
  ·exact z33 c w h
  ·exact z34 c w h
  ·exact z31 c w h
 ·exact z3y c w h
theorem zzq(y:Nat)(w:World)(hy:y≤10000):Calls Tryz.prog 231 #[.int .i64 (y:Int)] w (RetB w (zfp y)):=by
 have hb:zfp y=(((y:Int) % 4 == 0) && (((y:Int) % 100 != 0) ||((y:Int) % 400 == 0))):=by
  unfold zfp;rw[Bool.eq_iff_iff];simp;omega
 rw[hb];obtain⟨b1,h1⟩:∃b,((y:Int) % 4 == 0)=b:=⟨_,rfl⟩
 obtain⟨b2,h2⟩:∃b,((y:Int) % 100 != 0)=b:=⟨_,rfl⟩
 obtain⟨b3,h3⟩:∃b,((y:Int) % 400 == 0)=b:=⟨_,rfl⟩
 rw[h1,h2,h3];clear hb
 cases b1<;>cases b2<;>cases b3
 all_goals
  go_enter Tryz.func231,Tryz.ntmps231;go_wp2;go_ret;exact⟨rfl,rfl⟩
theorem zmr(y:Nat)(w:World)(hy:y≤10000):Calls Tryz.prog 219 #[.int .i64 (y:Int)] w (RetB w (zfp y)):=by
 have hb:zfp y=(((y:Int) % 400 == 0) ||(!((y:Int) % 100 == 0) && ((y:Int) % 4 == 0))):=by
  unfold zfp;rw[Bool.eq_iff_iff];simp;omega
 rw[hb];obtain⟨b1,h1⟩:∃b,((y:Int) % 4 == 0)=b:=⟨_,rfl⟩
 obtain⟨b2,h2⟩:∃b,((y:Int) % 100 == 0)=b:=⟨_,rfl⟩
 obtain⟨b3,h3⟩:∃b,((y:Int) % 400 == 0)=b:=⟨_,rfl⟩
 rw[h1,h2,h3];clear hb
 cases b1<;>cases b2<;>cases b3
 all_goals
  go_enter Tryz.func219,Tryz.ntmps219;go_wp2;go_ret;exact⟨rfl,rfl⟩
theorem zwf(y:Nat):zcu y 2=if zfp y=true then 29 else 28:=rfl
theorem znc(y m:Nat)(w:World)(hy:y≤10000)(h1:1≤m)(h2:m≤12):Calls Tryz.prog 197 #[.int .i64 (y:Int),.int .i64 (m:Int)] w (RetI w (zcu y m:Int)):=by
 have hm:m=1∨m=2∨m=3∨m=4∨m=5∨m=6∨m=7∨m=8∨m=9∨m=10∨m=11∨m=12:=by omega
 rcases hm with rfl |rfl |rfl |rfl |rfl |rfl |rfl |rfl |rfl |rfl |rfl |rfl
 case inr.inl =>
  have HL:=Z9 (fun W=>zmr y W hy);rw[zwf];obtain⟨b,hb⟩:∃b,b=zfp y:=⟨_,rfl⟩
  rw[←hb]at HL ⊢;clear hb
  cases b
  ·go_enter Tryz.func197,Tryz.ntmps197
   go_wp2_with fail;refine(HL.out _).mono ?_;rintro e w' ⟨rfl,rfl⟩;go_wp2;go_ret;exact⟨rfl,rfl⟩
  ·go_enter Tryz.func197,Tryz.ntmps197
   go_wp2_with fail;refine(HL.out _).mono ?_;rintro e w' ⟨rfl,rfl⟩;go_wp2;go_ret;exact⟨rfl,rfl⟩
 all_goals
  go_enter Tryz.func197,Tryz.ntmps197;go_wp2;go_ret;exact⟨rfl,rfl⟩
theorem znh(y:Nat)(w:World)(hy:y≤10000):Calls Tryz.prog 230 #[.int .i64 (y:Int)] w (RetI w (zfd y:Int)):=by
 obtain⟨a,ha⟩:∃a,a=y / 4:=⟨_,rfl⟩
 obtain⟨b,hb⟩:∃b,b=y / 100:=⟨_,rfl⟩
 obtain⟨c,hc⟩:∃c,c=y / 400:=⟨_,rfl⟩
 have ha':(y:Int) / 4=(a:Int):=by omega
 have hb':(y:Int) / 100=(b:Int):=by omega
 have hc':(y:Int) / 400=(c:Int):=by omega
 have hl:(zfd y:Int)=(a:Int)-(b:Int)+(c:Int):=by unfold zfd;omega
 have l1:b≤a:=by omega
 have l2:a≤10000:=by omega
 have l3:c≤10000:=by omega
 rw[hl];clear hl ha hb hc;go_enter Tryz.func230,Tryz.ntmps230;go_wp2;go_ret;exact⟨rfl,rfl⟩
theorem zkm(y:Nat)(w:World)(h1:1900≤y)(hy:y≤10000):Calls Tryz.prog 208 #[.int .i64 (y:Int)] w (RetI w (yd y:Int)):=by
 obtain⟨k,rfl⟩:∃k,y=k+1:=⟨y-1,by omega⟩
 have hl:=zrb (y:=k) (by omega);have H1:=Z9 (fun W=>znh k W (by omega));have H2:=Z9 (fun W=>znh 1899 W (by omega));have e2:(zfd 1899:Int)=460:=by decide
 have hu:zfd k≤10000:=by unfold zfd;omega
 obtain⟨L,hL⟩:∃L,L=zfd k:=⟨_,rfl⟩
 have hy':(yd (k+1):Int)=365*((k:Int)+1-1900)+(L:Int)-460:=by unfold yd;rw[Nat.add_sub_cancel,←hL];omega
 rw[hy'];rw[←hL]at H1 hl hu;rw[e2]at H2;have ek:((k+1:Nat):Int)=(k:Int)+1:=by omega
 rw[ek];clear hy' hL e2 ek;go_enter Tryz.func208,Tryz.ntmps208;go_wp2_with fail;refine(H1.out _).mono ?_;rintro e w' ⟨rfl,rfl⟩;go_wp2_with fail;refine(H2.out _).mono ?_;rintro e w' ⟨rfl,rfl⟩;go_wp2;go_ret;exact⟨rfl,rfl⟩
end Go.Proofs.YtkobkpepgdddeaaGreatDoor
