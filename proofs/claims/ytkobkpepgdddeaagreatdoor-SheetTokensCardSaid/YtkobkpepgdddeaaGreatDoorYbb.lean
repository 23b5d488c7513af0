/-
  The examples of the sheet: their tokens, what is read of them, that they are valid. No condition.
-/
import Derived.Test.YtkobkpepgdddeaaGreatDoorYba
import Derived.Test.YtkobkpepgdddeaaGreatDoorYal
import Derived.Test.YtkobkpepgdddeaaGreatDoorYah
import Derived.Test.YtkobkpepgdddeaaGreatDoorYai
import Derived.Test.YtkobkpepgdddeaaGreatDoorYak
import Derived.WalkKit
import Derived.Deep.DeepCutAuto
import Derived.Test.YtkobkpepgdddeaaGreatDoorYat
namespace Go.Proofs.YtkobkpepgdddeaaGreatDoor
open Go.RowKit
set_option maxHeartbeats 16000000
set_option maxRecDepth 100000
theorem yby:zhr false [50] 0 []=[50]:=by
 unfold zhr
 show ratT (ratN (((2:Nat):Int)) ((1:Nat):Int)) (ratD (((2:Nat):Int)) ((1:Nat):Int))=_
 rw[show ratN (((2:Nat):Int)) ((1:Nat):Int)=2 from by decide,show ratD (((2:Nat):Int)) ((1:Nat):Int)=1 from by decide];unfold ratT;rw[if_pos rfl,zql (l:=[50]) (by decide)]
theorem z23:zhr false [49,48,48] 0 []=[49,48,48]:=by
 unfold zhr
 show ratT (ratN (((100:Nat):Int)) ((1:Nat):Int)) (ratD (((100:Nat):Int)) ((1:Nat):Int))=_
 rw[show ratN (((100:Nat):Int)) ((1:Nat):Int)=100 from by decide,show ratD (((100:Nat):Int)) ((1:Nat):Int)=1 from by decide];unfold ratT;rw[if_pos rfl,zql (l:=[49,48,48]) (by decide)]
theorem zxy:zhr false [49] 0 []=[49]:=by
 unfold zhr
 show ratT (ratN (((1:Nat):Int)) ((1:Nat):Int)) (ratD (((1:Nat):Int)) ((1:Nat):Int))=_
 rw[show ratN (((1:Nat):Int)) ((1:Nat):Int)=1 from by decide,show ratD (((1:Nat):Int)) ((1:Nat):Int)=1 from by decide];unfold ratT;rw[if_pos rfl,zql (l:=[49]) (by decide)]
def sh1:List UInt8:=[65,32,112,97,121,115,32,50,32,42,32,40,83,80,88,64,110,111,119,32,45,32,49,48,48,41,32,85,83,68,32,116,111,32,66]
def sh1T:List Tk:=[wrdT [65] 0,wrdT [112,97,121,115] 2,numT [50] 7,mrkT [42] 9,mrkT [40] 11,wrdT [83,80,88] 12,mrkT [64] 15,wrdT [110,111,119] 16,mrkT [45] 20,numT [49,48,48] 22,mrkT [41] 25,wrdT [85,83,68] 27,wrdT [116,111] 31,wrdT [66] 34]
theorem z93:lexL 0 sh1=.yes sh1T:=by
 refine zbe 0 1 (wrdT [65] 0) (.yes _) rfl (by decide) rfl ?_;refine zbe 1 4 (wrdT [112,97,121,115] 0) (.yes _) rfl (by decide) rfl ?_;refine zbe 1 1 (numT [50] 0) (.yes _) rfl (by decide) ?_ ?_
 ·rw[←yby];rfl
 refine zbe 1 1 (mrkT [42] 0) (.yes _) rfl (by decide) rfl ?_;refine zbe 1 1 (mrkT [40] 0) (.yes _) rfl (by decide) rfl ?_;refine zbe 0 3 (wrdT [83,80,88] 0) (.yes _) rfl (by decide) rfl ?_;refine zbe 0 1 (mrkT [64] 0) (.yes _) rfl (by decide) rfl ?_;refine zbe 0 3 (wrdT [110,111,119] 0) (.yes _) rfl (by decide) rfl ?_;refine zbe 1 1 (mrkT [45] 0) (.yes _) rfl (by decide) rfl ?_;refine zbe 1 3 (numT [49,48,48] 0) (.yes _) rfl (by decide) ?_ ?_
 ·rw[←z23];rfl
 refine zbe 0 1 (mrkT [41] 0) (.yes _) rfl (by decide) rfl ?_;refine zbe 1 3 (wrdT [85,83,68] 0) (.yes _) rfl (by decide) rfl ?_;refine zbe 1 2 (wrdT [116,111] 0) (.yes _) rfl (by decide) rfl ?_;refine zbe 1 1 (wrdT [66] 0) (.yes _) rfl (by decide) rfl ?_;exact zbc rfl
def sh2:List UInt8:=[98,111,116,104,32,123,32,110,111,116,104,105,110,103,32,59,32,34,116,111,34,32,112,97,121,115,32,49,32,69,85,82,32,116,111,32,66,32,125]
def sh2T:List Tk:=[wrdT [98,111,116,104] 0,mrkT [123] 5,wrdT [110,111,116,104,105,110,103] 7,mrkT [59] 15,quoT [116,111] 17,wrdT [112,97,121,115] 22,numT [49] 27,wrdT [69,85,82] 29,wrdT [116,111] 33,wrdT [66] 36,mrkT [125] 38]
theorem z92:lexL 0 sh2=.yes sh2T:=by
 refine zbe 0 4 (wrdT [98,111,116,104] 0) (.yes _) rfl (by decide) rfl ?_;refine zbe 1 1 (mrkT [123] 0) (.yes _) rfl (by decide) rfl ?_;refine zbe 1 7 (wrdT [110,111,116,104,105,110,103] 0) (.yes _) rfl (by decide) rfl ?_;refine zbe 1 1 (mrkT [59] 0) (.yes _) rfl (by decide) rfl ?_;refine zbe 1 4 (quoT [116,111] 0) (.yes _) rfl (by decide) rfl ?_;refine zbe 1 4 (wrdT [112,97,121,115] 0) (.yes _) rfl (by decide) rfl ?_;refine zbe 1 1 (numT [49] 0) (.yes _) rfl (by decide) ?_ ?_
 ·rw[←zxy];rfl
 refine zbe 1 3 (wrdT [69,85,82] 0) (.yes _) rfl (by decide) rfl ?_;refine zbe 1 2 (wrdT [116,111] 0) (.yes _) rfl (by decide) rfl ?_;refine zbe 1 1 (wrdT [66] 0) (.yes _) rfl (by decide) rfl ?_;refine zbe 1 1 (mrkT [125] 0) (.yes _) rfl (by decide) rfl ?_;exact zbc rfl
def sh3:List UInt8:=[116,111,32,112,97,121,115,32,49,32,69,85,82,32,116,111,32,66]
def sh3T:List Tk:=[wrdT [116,111] 0,wrdT [112,97,121,115] 3,numT [49] 8,wrdT [69,85,82] 10,wrdT [116,111] 14,wrdT [66] 17]
theorem z91:lexL 0 sh3=.yes sh3T:=by
 refine zbe 0 2 (wrdT [116,111] 0) (.yes _) rfl (by decide) rfl ?_;refine zbe 1 4 (wrdT [112,97,121,115] 0) (.yes _) rfl (by decide) rfl ?_;refine zbe 1 1 (numT [49] 0) (.yes _) rfl (by decide) ?_ ?_
 ·rw[←zxy];rfl
 refine zbe 1 3 (wrdT [69,85,82] 0) (.yes _) rfl (by decide) rfl ?_;refine zbe 1 2 (wrdT [116,111] 0) (.yes _) rfl (by decide) rfl ?_;refine zbe 1 1 (wrdT [66] 0) (.yes _) rfl (by decide) rfl ?_;exact zbc rfl
def sh4:List UInt8:=[65,32,112,97,121,115,32,49,32,69,85,82,32,66]
def sh4T:List Tk:=[wrdT [65] 0,wrdT [112,97,121,115] 2,numT [49] 7,wrdT [69,85,82] 9,wrdT [66] 13]
theorem z90:lexL 0 sh4=.yes sh4T:=by
 refine zbe 0 1 (wrdT [65] 0) (.yes _) rfl (by decide) rfl ?_;refine zbe 1 4 (wrdT [112,97,121,115] 0) (.yes _) rfl (by decide) rfl ?_;refine zbe 1 1 (numT [49] 0) (.yes _) rfl (by decide) ?_ ?_
 ·rw[←zxy];rfl
 refine zbe 1 3 (wrdT [69,85,82] 0) (.yes _) rfl (by decide) rfl ?_;refine zbe 1 1 (wrdT [66] 0) (.yes _) rfl (by decide) rfl ?_;exact zbc rfl
def sh5:List UInt8:=[111,110,32,50,48,50,54,45,49,49,45,49,54,32,123,32,110,111,116,104,105,110,103]
def sh5T:List Tk:=[wrdT [111,110] 0,dayT 46340 3,mrkT [123] 14,wrdT [110,111,116,104,105,110,103] 16]
theorem z9z:lexL 0 sh5=.yes sh5T:=by
 refine zbe 0 2 (wrdT [111,110] 0) (.yes _) rfl (by decide) rfl ?_;refine zbe 1 10 (dayT 46340 0) (.yes _) rfl (by decide) rfl ?_;refine zbe 1 1 (mrkT [123] 0) (.yes _) rfl (by decide) rfl ?_;refine zbe 1 7 (wrdT [110,111,116,104,105,110,103] 0) (.yes _) rfl (by decide) rfl ?_;exact zbc rfl
theorem ybu:rdC 20001 sh1T=.ok shC1 []:=by rw[zhq 20001 40 _ (by decide) (by decide)];kernel_rfl
theorem ybt:rdC 20001 sh2T=.ok shC2 []:=by rw[zhq 20001 40 _ (by decide) (by decide)];kernel_rfl
theorem ybs:rdC 20001 sh3T=.no sh3T:=by rw[zhq 20001 40 _ (by decide) (by decide)];kernel_rfl
theorem ybr:rdC 20001 sh4T=.no (sh4T.drop 4):=by rw[zhq 20001 40 _ (by decide) (by decide)];kernel_rfl
theorem ybq:rdC 20001 sh5T=.no []:=by rw[zhq 20001 40 _ (by decide) (by decide)];kernel_rfl
theorem z64{s:ByteArray}{l:List UInt8}{ts:List Tk}{x:Ct}(hs:s.data.toList=l)(hl:lexL 0 l=.yes ts)(hr:rdC 20001 ts=.ok x [])(hc:chkC x=0):zb2 s=(some x,(s.size:Int),0):=by
 unfold zb2;rw[hs,hl];dsimp only;rw[hr];dsimp only;rw[if_pos hc]
theorem ybx{s:ByteArray}{l:List UInt8}{ts:List Tk}{t:Tk}{r:List Tk}(hs:s.data.toList=l)(hl:lexL 0 l=.yes ts)(hr:rdC 20001 ts=.no (t :: r)):zb2 s=(none,t.place,12):=by
 unfold zb2;rw[hs,hl];dsimp only;rw[hr]
theorem ybw{s:ByteArray}{l:List UInt8}{ts:List Tk}(hs:s.data.toList=l)(hl:lexL 0 l=.yes ts)(hr:rdC 20001 ts=.no []):zb2 s=(none,(s.size:Int),12):=by
 unfold zb2;rw[hs,hl];dsimp only;rw[hr]
theorem zn4{l:List UInt8}(h:l=[50]∨l=[49]∨l=[49,48,48]):chkR l=0:=by
 rcases h with rfl |rfl |rfl
 all_goals
  rw[zj4 (by decide)];unfold chkZ;rw[if_neg (by decide),zir ⟨by decide,by decide,by decide⟩];rfl
theorem z8k{r:ByteArray}(h:chkR r.data.toList=0):(Ex.mk 1 r tE0 0 []).srt=1:=by
 rw[Ex.srt_is];simp[srtP,shpL,Ex.kind,Ex.rat,Ex.name,Ex.date,Ex.sub,zel,tE0,h]
theorem zxa{k:Int}{x y:Ex}(hk:shpL k=some ([1,1],1))(hx:x.srt=1)(hy:y.srt=1):(Ex.mk k tE0 tE0 0 [x,y]).srt=1:=by
 rw[Ex.srt_is]
 show srtP k tE0 tE0 0 [x.srt,y.srt]=1
 rw[hx,hy];unfold srtP;rw[hk];exact if_pos ⟨by decide,rfl⟩
theorem z8j{s:ByteArray}(h:nmB s.data.toList=true):(Ex.mk 3 tE0 s 0 []).srt=1:=by
 rw[Ex.srt_is]
 show zel 3 tE0 s 0=1
 unfold zel;rw[if_neg (by decide),if_neg (by decide),if_pos rfl,if_pos ⟨by decide,h,rfl⟩]
theorem z2k:shE1.srt=1:=zxa rfl (z8k (zn4 (.inl rfl))) (zxa rfl (z8j (by decide)) (z8k (zn4 (.inr (.inr rfl)))))
theorem zib:shE1.size=5:=by simp[shE1,Ex.size_is,Ex.sub]
theorem zma:shE1.depth=3:=by simp[shE1,Ex.depth_is,Ex.sub,maxD]
theorem z2j:shE2.srt=1:=z8k (zn4 (.inr (.inl rfl)))
theorem zia:shE2.size=1:=zgp _ _ _ _
theorem zl9:shE2.depth=1:=by simp[shE2,Ex.depth_is,Ex.sub,maxD]
theorem z66{x:Ex}(h1:x.srt=1)(h2:x.size≤500)(h3:x.depth≤60):numX x=true:=by
 unfold numX chkX;rw[if_neg (by omega),h1];decide
theorem zso:zd8 tX0=true:=by
 unfold zd8;rw[zag,zag];decide
theorem z2h:ze6 shZ=true:=by
 rw[zil]
 show(true && zdf shZ)=true
 unfold zdf zjk;simp only[shZ,Ct.kind,Ct.frm,Ct.too,Ct.name,Ct.expr,Ct.date,Ct.dates,Ct.sub,zag,zso];decide
theorem zxi:ze6 shC1=true:=by
 rw[zil]
 show(true && zdf shC1)=true
 unfold zdf zjk;simp only[shC1,Ct.kind,Ct.frm,Ct.too,Ct.name,Ct.expr,Ct.date,Ct.dates,Ct.sub,zag,z66 z2k (by rw[zib];decide) (by rw[zma];decide)];decide
theorem z2i:ze6 shP=true:=by
 rw[zil]
 show(true && zdf shP)=true
 unfold zdf zjk;simp only[shP,Ct.kind,Ct.frm,Ct.too,Ct.name,Ct.expr,Ct.date,Ct.dates,Ct.sub,zag,z66 z2j (by rw[zia];decide) (by rw[zl9];decide)];decide
theorem zxg:ze6 shC2=true:=by
 rw[zil]
 show(([shZ,shP].all ze6) && zdf shC2)=true
 rw[List.all_cons,List.all_cons,z2h,z2i];unfold zdf zjk;simp only[shC2,Ct.kind,Ct.frm,Ct.too,Ct.name,Ct.expr,Ct.date,Ct.dates,Ct.sub,zag,zso];decide
theorem z7k{x:Ct}(h1:x.csz≤500)(h2:x.cdp≤60)(h3:ze6 x=true):chkC x=0:=by
 unfold chkC;rw[if_neg (by omega),h3];rfl
theorem zts(k:Int)(f t n:ByteArray)(e:Ex)(d:Int)(ds:List Int)(l:List Ct):(Ct.mk k f t n e d ds l).csz≤1+e.size+(l.map Ct.csz).sum:=by
 rw[Ct.csz_is];have:=zzu (.mk k f t n e d ds l)
 show 1+eSz _+(l.map Ct.csz).sum≤_
 have h:eSz (.mk k f t n e d ds l)≤e.size:=this;omega
theorem ztw(k:Int)(f t n:ByteArray)(e:Ex)(d:Int)(ds:List Int)(l:List Ct):(Ct.mk k f t n e d ds l).cdp≤1+max e.depth (maxC l):=by
 rw[Ct.cdp_is];have:=zzv (.mk k f t n e d ds l);have h:eDp (.mk k f t n e d ds l)≤e.depth:=this
 show 1+max (eDp _) (maxC l)≤_
 omega
theorem zoo:tX0.depth=1:=by simp[tX0,Ex.depth_is,Ex.sub,maxD]
theorem z2m:chkC shC1=0:=by
 refine z7k ?_ ?_ zxi
 ·have:=zts 2 ⟨#[65]⟩ ⟨#[66]⟩ ⟨#[85,83,68]⟩ shE1 0 [] []
  rw[zib]at this;exact Nat.le_trans this (by decide)
 ·have:=ztw 2 ⟨#[65]⟩ ⟨#[66]⟩ ⟨#[85,83,68]⟩ shE1 0 [] []
  rw[zma]at this;exact Nat.le_trans this (by decide)
theorem shZ_few:shZ.csz≤2∧shZ.cdp≤2:=by
 have h1:=zts 1 tE0 tE0 tE0 tX0 0 [] [];have h2:=ztw 1 tE0 tE0 tE0 tX0 0 [] [];rw[zee]at h1;rw[zoo]at h2;exact⟨Nat.le_trans h1 (by decide),Nat.le_trans h2 (by decide)⟩
theorem shP_few:shP.csz≤2∧shP.cdp≤2:=by
 have h1:=zts 2 ⟨#[116,111]⟩ ⟨#[66]⟩ ⟨#[69,85,82]⟩ shE2 0 [] [];have h2:=ztw 2 ⟨#[116,111]⟩ ⟨#[66]⟩ ⟨#[69,85,82]⟩ shE2 0 [] [];rw[zia]at h1;rw[zl9]at h2;exact⟨Nat.le_trans h1 (by decide),Nat.le_trans h2 (by decide)⟩
theorem z2l:chkC shC2=0:=by
 refine z7k ?_ ?_ zxg
 ·have h:=zts 3 tE0 tE0 tE0 tX0 0 [] [shZ,shP]
  rw[zee]at h;have h1:=shZ_few.1;have h2:=shP_few.1;simp only[List.map_cons,List.map_nil,List.sum_cons,List.sum_nil]at h
  show shC2.csz≤500
  have h3:shC2.csz≤1+1+(shZ.csz+(shP.csz+0)):=h;omega
 ·have h:=ztw 3 tE0 tE0 tE0 tX0 0 [] [shZ,shP]
  rw[zoo]at h;have h1:=shZ_few.2;have h2:=shP_few.2
  have h4:maxC [shZ,shP]≤2:=zy8 fun y hy=>by
   simp only[List.mem_cons,List.not_mem_nil,or_false]at hy
   rcases hy with rfl |rfl
   ·exact h1
   ·exact h2
  have h3:shC2.cdp≤1+max 1 (maxC [shZ,shP]):=h;omega
theorem z9e:zb2 ⟨#[65,32,112,97,121,115,32,50,32,42,32,40,83,80,88,64,110,111,119,32,45,32,49,48,48,41,32,85,83,68,32,116,111,32,66]⟩=(some shC1,35,0):=z64 (s:=⟨#[65,32,112,97,121,115,32,50,32,42,32,40,83,80,88,64,110,111,119,32,45,32,49,48,48,41,32,85,83,68,32,116,111,32,66]⟩) rfl z93 ybu z2m
theorem z9d:zb2 ⟨#[98,111,116,104,32,123,32,110,111,116,104,105,110,103,32,59,32,34,116,111,34,32,112,97,121,115,32,49,32,69,85,82,32,116,111,32,66,32,125]⟩=(some shC2,39,0):=z64 (s:=⟨#[98,111,116,104,32,123,32,110,111,116,104,105,110,103,32,59,32,34,116,111,34,32,112,97,121,115,32,49,32,69,85,82,32,116,111,32,66,32,125]⟩) rfl z92 ybt z2l
theorem z9c:zb2 ⟨#[116,111,32,112,97,121,115,32,49,32,69,85,82,32,116,111,32,66]⟩=(none,0,12):=ybx (s:=⟨#[116,111,32,112,97,121,115,32,49,32,69,85,82,32,116,111,32,66]⟩) rfl z91 ybs
theorem z9b:zb2 ⟨#[65,32,112,97,121,115,32,49,32,69,85,82,32,66]⟩=(none,13,12):=ybx (s:=⟨#[65,32,112,97,121,115,32,49,32,69,85,82,32,66]⟩) rfl z90 ybr
theorem z9a:zb2 ⟨#[111,110,32,50,48,50,54,45,49,49,45,49,54,32,123,32,110,111,116,104,105,110,103]⟩=(none,23,12):=ybw (s:=⟨#[111,110,32,50,48,50,54,45,49,49,45,49,54,32,123,32,110,111,116,104,105,110,103]⟩) rfl z9z ybq
theorem zno(r:ByteArray)(w:World):Calls Tryz.prog 35 #[.string r] w fun e w'=>e=.returned (.agg #[.int .u8 1,.string r,.string ⟨#[]⟩,.int .i64 0,.slice none 0 0])∧Below w.heap.size w w':=by
 have hb:=zaa w (.cells #[.int .u8 1,.string r,.string ⟨#[]⟩,.int .i64 0,.slice none 0 0] 25);obtain⟨d0,d1,d2,d3,d4⟩:=zad (heap_alloc_new w (.cells #[.int .u8 1,.string r,.string ⟨#[]⟩,.int .i64 0,.slice none 0 0] 25));go_enter Tryz.func35,Tryz.ntmps35;go_wp2_with fail;exact bodyPost_ret (v:=.agg #[.int .u8 1,.string r,.string ⟨#[]⟩,.int .i64 0,.slice none 0 0]) (by simp[results,Tryz.results35,go_sem,d0,d1,d2,d3,d4]) rfl ⟨rfl,hb⟩
theorem zyh(k:Int)(a0 a1 a2 a3 a4 b0 b1 b2 b3 b4:Value)(w:World):Calls Tryz.prog 34 #[.int .u8 k,.agg #[a0,a1,a2,a3,a4],.agg #[b0,b1,b2,b3,b4]] w fun e w' =>
 ∃g,e=.returned (.agg #[.int .u8 k,.string ⟨#[]⟩,.string ⟨#[]⟩,.int .i64 0,.slice (some ⟨g,0,none⟩) 2 2])∧w'.heap[g]?=some (.cells #[a0,a1,a2,a3,a4,b0,b1,b2,b3,b4] 25)∧Below w.heap.size w w':=by
 obtain⟨W3,YD⟩:∃W3,W3=((w.alloc (.cells #[a0,a1,a2,a3,a4] 25)).alloc (.cells #[b0,b1,b2,b3,b4] 25)).alloc (.cells #[.int .u8 k,.string ⟨#[]⟩,.string ⟨#[]⟩,.int .i64 0,.slice (some ⟨w.heap.size+1+1+1,0,none⟩) 2 2] 25):=⟨_,rfl⟩
 have hs3:W3.heap.size=w.heap.size+1+1+1:=by rw[YD];simp
 have Zw:Below w.heap.size w W3:=by rw[YD];exact((zaa w _).alloc (by simp) _).alloc (by simp;omega) _
 have WL:W3.heap[w.heap.size+1+1]?=some (.cells #[.int .u8 k,.string ⟨#[]⟩,.string ⟨#[]⟩,.int .i64 0,.slice (some ⟨w.heap.size+1+1+1,0,none⟩) 2 2] 25):=by
  rw[YD];have:=heap_alloc_new ((w.alloc (.cells #[a0,a1,a2,a3,a4] 25)).alloc (.cells #[b0,b1,b2,b3,b4] 25)) (.cells #[.int .u8 k,.string ⟨#[]⟩,.string ⟨#[]⟩,.int .i64 0,.slice (some ⟨w.heap.size+1+1+1,0,none⟩) 2 2] 25)
  rwa [World.size_alloc,World.size_alloc]at this
 have hb:=zaa W3 (.cells #[a0,a1,a2,a3,a4,b0,b1,b2,b3,b4] 25);have hg:=heap_alloc_new W3 (.cells #[a0,a1,a2,a3,a4,b0,b1,b2,b3,b4] 25);obtain⟨d0,d1,d2,d3,d4⟩:=zad ((hb.block _ (Z8 WL)).trans WL);rw[hs3]at hg;have HW:=Z9 YD;have HG:=Z9 hg;have HB:=Z9 (Zw.trans (hb.mono Zw.size));clear YD hs3 Zw WL hb hg;go_enter Tryz.func34,Tryz.ntmps34;go_wp2_with fail;rw[←HW.out];exact bodyPost_ret (v:=.agg #[.int .u8 k,.string ⟨#[]⟩,.string ⟨#[]⟩,.int .i64 0,.slice (some ⟨w.heap.size+1+1+1,0,none⟩) 2 2]) (by simp[results,Tryz.results34,go_sem,d0,d1,d2,d3,d4]) rfl ⟨_,rfl,HG.out,HB.out⟩
theorem zem(n:Nat)(w:World)(k:Int)(r s:ByteArray)(d:Int):ExAt (n+1) w [.int .u8 k,.string r,.string s,.int .i64 d,.slice none 0 0] (.mk k r s d []):=⟨none,0,0,rfl,rfl,.inl rfl⟩
theorem zla{n:Nat}{w:World}{g:Nat}(k:Int){a b:Ex}{a0 a1 a2 a3 a4 b0 b1 b2 b3 b4:Value}(hg:w.heap[g]?=some (.cells #[a0,a1,a2,a3,a4,b0,b1,b2,b3,b4] 25))(ha:ExAt n w [a0,a1,a2,a3,a4] a)(hb:ExAt n w [b0,b1,b2,b3,b4] b) :
 ExAt (n+1) w [.int .u8 k,.string ⟨#[]⟩,.string ⟨#[]⟩,.int .i64 0,.slice (some ⟨g,0,none⟩) 2 2] (tEx2 k a b):=by
 refine⟨some ⟨g,0,none⟩,2,2,rfl,rfl,.inr ⟨g,0,rfl,(Z8 hg),fun i hi => ?_⟩⟩;have XJ:i<2:=hi
 rcases(by omega:i=0∨i=1)with rfl |rfl
 ·refine⟨_,fun j hj => ?_,ha⟩
  rw[Lib.cell_of_heap hg]
  rcases(by omega:j=0∨j=1∨j=2∨j=3∨j=4)with rfl |rfl |rfl |rfl |rfl<;>rfl
 ·refine⟨_,fun j hj => ?_,hb⟩
  rw[Lib.cell_of_heap hg]
  rcases(by omega:j=0∨j=1∨j=2∨j=3∨j=4)with rfl |rfl |rfl |rfl |rfl<;>rfl
theorem zp0(n:Nat)(w:World)(k d:Int)(f t s:ByteArray):CtAt (n+1) w [.int .u8 k,.string f,.string t,.string s,.int .u8 0,.string ⟨#[]⟩,.string ⟨#[]⟩,.int .i64 0,.slice none 0 0,.int .i64 d,.slice none 0 0,.slice none 0 0] (.mk k f t s tX0 d [] []) :=
 ⟨none,0,0,none,0,0,none,0,0,rfl,zem n w 0 tE0 tE0 0,⟨rfl,.inl rfl⟩,rfl,.inl rfl⟩
theorem zlh{n:Nat}{w:World}{e:Ex}{ek:Int}{er es:ByteArray}{ed:Int}{ea:Option Addr}{el ec:Nat}(he:ExAt (n+1) w [.int .u8 ek,.string er,.string es,.int .i64 ed,.slice ea el ec] e)(hk:e.kind=ek∧e.rat=er∧e.name=es∧e.date=ed)(k d:Int)(f t s:ByteArray) :
 CtAt (n+1) w [.int .u8 k,.string f,.string t,.string s,.int .u8 ek,.string er,.string es,.int .i64 ed,.slice ea el ec,.int .i64 d,.slice none 0 0,.slice none 0 0] (.mk k f t s e d [] []):=by
 obtain⟨rfl,rfl,rfl,rfl⟩:=hk;exact⟨ea,el,ec,none,0,0,none,0,0,rfl,he,⟨rfl,.inl rfl⟩,rfl,.inl rfl⟩
theorem zj3{n:Nat}{w:World}{g:Nat}{y z:Ct}{eap dap ap:Option Addr}{elp ecp dlp dcp lenp capp:Nat}{eaq daq aq:Option Addr}{elq ecq dlq dcq lenq capq:Nat}(hg:w.heap[g]?=some (.cells #[.int .u8 y.kind,.string y.frm,.string y.too,.string y.name,.int .u8 y.expr.kind,.string y.expr.rat,.string y.expr.name,.int .i64 y.expr.date,.slice eap elp ecp,.int .i64 y.date,.slice dap dlp dcp,.slice ap lenp capp,.int .u8 z.kind,.string z.frm,.string z.too,.string z.name,.int .u8 z.expr.kind,.string z.expr.rat,.string z.expr.name,.int .i64 z.expr.date,.slice eaq elq ecq,.int .i64 z.date,.slice daq dlq dcq,.slice aq lenq capq] 40))(hy:CtAt n w [.int .u8 y.kind,.string y.frm,.string y.too,.string y.name,.int .u8 y.expr.kind,.string y.expr.rat,.string y.expr.name,.int .i64 y.expr.date,.slice eap elp ecp,.int .i64 y.date,.slice dap dlp dcp,.slice ap lenp capp] y)(hz:CtAt n w [.int .u8 z.kind,.string z.frm,.string z.too,.string z.name,.int .u8 z.expr.kind,.string z.expr.rat,.string z.expr.name,.int .i64 z.expr.date,.slice eaq elq ecq,.int .i64 z.date,.slice daq dlq dcq,.slice aq lenq capq] z)(k d:Int)(f t s:ByteArray) :
 CtAt (n+1) w [.int .u8 k,.string f,.string t,.string s,.int .u8 0,.string ⟨#[]⟩,.string ⟨#[]⟩,.int .i64 0,.slice none 0 0,.int .i64 d,.slice none 0 0,.slice (some ⟨g,0,none⟩) 2 2] (.mk k f t s tX0 d [] [y,z]):=by
 refine⟨none,0,0,none,0,0,some ⟨g,0,none⟩,2,2,rfl,zem n w 0 tE0 tE0 0,⟨rfl,.inl rfl⟩,rfl,.inr ⟨g,0,rfl,(Z8 hg),fun i hi => ?_⟩⟩;have XJ:i<2:=hi
 rcases(by omega:i=0∨i=1)with rfl |rfl
 ·refine⟨_,fun j hj => ?_,hy⟩
  rw[Lib.cell_of_heap hg]
  rcases(by omega:j=0∨j=1∨j=2∨j=3∨j=4∨j=5∨j=6∨j=7∨j=8∨j=9∨j=10∨j=11)with rfl |rfl |rfl |rfl |rfl |rfl |rfl |rfl |rfl |rfl |rfl |rfl<;>rfl
 ·refine⟨_,fun j hj => ?_,hz⟩
  rw[Lib.cell_of_heap hg]
  rcases(by omega:j=0∨j=1∨j=2∨j=3∨j=4∨j=5∨j=6∨j=7∨j=8∨j=9∨j=10∨j=11)with rfl |rfl |rfl |rfl |rfl |rfl |rfl |rfl |rfl |rfl |rfl |rfl<;>rfl
def tC0:Ct:=.mk 0 tE0 tE0 tE0 tX0 0 [] []
def coC(o:Option Ct × Int × Int):Ct:=match o.1 with |some x=>x |none=>tC0
theorem z6y(n:Nat)(w:World):CtAt (n+1) w [.int .u8 0,.string ⟨#[]⟩,.string ⟨#[]⟩,.string ⟨#[]⟩,.int .u8 0,.string ⟨#[]⟩,.string ⟨#[]⟩,.int .i64 0,.slice none 0 0,.int .i64 0,.slice none 0 0,.slice none 0 0] tC0:=zp0 n w 0 0 tE0 tE0 tE0
theorem zft{w w':World}{o:Option Ct × Int × Int}{e:Ending}(h:RcP w o e w') :
 ∃n ea el ec da dl dc a len cap,e=.returned (.tuple #[.agg #[.int .u8 (coC o).kind,.string (coC o).frm,.string (coC o).too,.string (coC o).name,.int .u8 (coC o).expr.kind,.string (coC o).expr.rat,.string (coC o).expr.name,.int .i64 (coC o).expr.date,.slice ea el ec,.int .i64 (coC o).date,.slice da dl dc,.slice a len cap],.int .i64 o.2.1,.int .i64 o.2.2]) ∧
  CtAt n w' [.int .u8 (coC o).kind,.string (coC o).frm,.string (coC o).too,.string (coC o).name,.int .u8 (coC o).expr.kind,.string (coC o).expr.rat,.string (coC o).expr.name,.int .i64 (coC o).expr.date,.slice ea el ec,.int .i64 (coC o).date,.slice da dl dc,.slice a len cap] (coC o)∧Below w.heap.size w w':=by
 obtain⟨v,rfl,hv,hb⟩:=h
 cases ho:o.1 with
 |some x =>
  rw[ho]at hv;obtain⟨n,ea,el,ec,da,dl,dc,a,len,cap,rfl,hx⟩:=hv;have e:coC o=x:=by unfold coC;rw[ho]
  rw[e];exact⟨n,ea,el,ec,da,dl,dc,a,len,cap,rfl,hx.at fun g h=>h.2,hb⟩
 |none =>
  rw[ho]at hv;have e:coC o=tC0:=by unfold coC;rw[ho]
  rw[e,show v=_ from hv];exact⟨1,none,0,0,none,0,0,none,0,0,rfl,z6y 0 w',hb⟩
theorem zss:tC0.size=2:=by unfold tC0;rw[zd4,zee];rfl
theorem z6x:∃d,CSm d tC0:=by
 refine⟨2,?_⟩;simp[CSm,SmX,tC0,Ct.name,Ct.frm,Ct.too,Ct.dates,Ct.expr,Ct.sub,zee];simp[tX0,Ex.name,Ex.rat,Ex.sub];decide
theorem zqj{Wg:World}(hs:zb6 Wg)(hp:zcr Wg)(s:ByteArray)(at_:Int)(VT:s.size≤20000)(ho:zb2 s=(none,at_,12))(w:World)(hb:Below Wg.heap.size Wg w):Calls Tryz.prog 36 #[.string s,.int .i64 at_] w (BelB w true):=by
 have HR:Hid (Calls Tryz.prog 32 #[.string s] w (RcP w (none,at_,12))):=Z9 (by rw[←ho];exact zff s w Wg VT hp hs hb);have ha:(at_ == at_)=true:=by simp
 clear hs hp VT ho hb;go_enter Tryz.func36,Tryz.ntmps36;go_wp2_with fail;refine HR.out.mono ?_;intro e u h1;obtain⟨n,ea,el,ec,da,dl,dc,a,len,cap,rfl,ZZ,hb⟩:=zft h1;clear h1;obtain⟨W1,YK⟩:∃W1,W1=u.alloc (.cells #[.int .u8 tC0.kind,.string tC0.frm,.string tC0.too,.string tC0.name,.int .u8 tC0.expr.kind,.string tC0.expr.rat,.string tC0.expr.name,.int .i64 tC0.expr.date,.slice ea el ec,.int .i64 tC0.date,.slice da dl dc,.slice a len cap] 40):=⟨_,rfl⟩
 have ZJ:Below u.heap.size u W1:=by rw[YK];exact zaa u _
 have HSA:=Z9 (zgt (n+1) tC0 _ _ W1 (CtAt.up (Nat.le_succ n) (CtAt.below ZJ ZZ)) (z6y n W1) (by rw[zss];decide) z6x);have ZT:=Z9 (hb.trans (ZJ.mono hb.size));have YW:=Z9 YK;clear hb ZJ ZZ YK;go_wp2_with fail;change Calls _ _ _ (u.alloc (.cells #[.int .u8 tC0.kind,.string tC0.frm,.string tC0.too,.string tC0.name,.int .u8 tC0.expr.kind,.string tC0.expr.rat,.string tC0.expr.name,.int .i64 tC0.expr.date,.slice ea el ec,.int .i64 tC0.date,.slice da dl dc,.slice a len cap] 40)) _;rw[←YW.out];refine HSA.out.mono ?_;rintro e u2 ⟨rfl,hb⟩;have HF:=Z9 (ZT.out.trans (hb.mono ZT.out.size));clear hb;go_wp2_with fail
 go_ret;exact⟨rfl,HF.out⟩
section
variable {P:Program} {ops:Array Oper} {Q:Exit→Act→World→Prop}
def updV(t:Nat→Value)(i:Nat)(v:Value):Nat→Value:=fun j=>if j=i then v else t j
def zh1(ops:Array Oper)(i j:Nat):Bool:=((ops[i]?).map (fun o=>o.after.any fun e=>Region.binds .any e && e.on == j)).getD false
def zhs(ops:Array Oper)(m:Nat):Bool :=
 decide (m<ops.size) && (List.range ops.size).all fun i=>(i == m ||(List.range ops.size).any fun j=>decide (i<j) && zh1 ops j i) && ((ops[i]?).map (fun o=>o.after.all fun e => !Region.binds .any e ||decide (e.on<i))).getD true
theorem waitsB_iff{i j:Nat}:zh1 ops i j=true↔∃o,ops[i]?=some o∧∃e ∈ o.after,Region.binds .any e=true∧e.on=j:=by
 unfold zh1
 cases h:ops[i]? with
 |none=>simp
 |some o =>
  simp only[Option.map_some,Option.getD_some,Array.any_eq_true',Bool.and_eq_true,beq_iff_eq]
  constructor
  ·rintro⟨e,he,h1,h2⟩;exact⟨o,rfl,e,he,h1,h2⟩
  ·rintro⟨o',ho,e,he,h1,h2⟩;cases ho;exact⟨e,he,h1,h2⟩
theorem z7c{l:Array Bool}{i j:Nat}{d:Bool}(hi:i<l.size):(l.setIfInBounds i true).getD j d=if i=j then true else l.getD j d:=by
 simp only[Array.getD_eq_getD_getElem?,Array.getElem?_setIfInBounds]
 by_cases h:i=j
 ·subst h;simp[hi]
 ·simp[h]
theorem yac{l:Array Bool}{i:Nat}(hi:i<l.size)(d d':Bool):l.getD i d=l.getD i d':=by
 simp[Array.getD_eq_getD_getElem?,hi]
theorem z7i{p p':Nat→Bool}{i:Nat}(hp:p i=true)(hq:∀x,p' x=true→p x=true)(hi:p' i=false):∀l:List Nat,i ∈ l→(l.filter p').length<(l.filter p).length
 | [],h=>by cases h
 |x :: l,h=>by
  have Y6:∀l:List Nat,(l.filter p').length≤(l.filter p).length:=by
   intro l
   induction l with
   |nil=>simp
   |cons y l ih =>
    simp only[List.filter_cons]
    cases h1:p' y with
    |true=>rw[hq y h1];simpa using ih
    |false=>cases h2:p y with
     |true=>simp;omega
     |false=>simpa using ih
  simp only[List.filter_cons]
  rcases List.mem_cons.1 h with rfl |h
  ·rw[hi,hp];have:=Y6 l;simp;omega
  ·have ih:=z7i hp hq hi l h
   cases h1:p' x with
   |true=>rw[hq x h1];simpa using ih
   |false=>cases h2:p x with
    |true=>simp;omega
    |false=>simpa using ih
def yd1(ops:Array Oper)(m:Nat)(C:World→Prop)(R:Nat→Value→World→Prop)(F:(Nat→Value)→Act)(listed:Array Bool)(a:Act)(w:World):Prop :=
 listed.size=ops.size∧listed.getD m true=false∧(∀i j,listed.getD i false=true→zh1 ops i j=true→listed.getD j false=true) ∧
  ∃t,a=F t∧C w∧∀j,listed.getD j false=true→R j (t j) w
theorem zlt{m:Nat}{C:World→Prop}{G:World→World→Prop}{R:Nat→Value→World→Prop}{F:(Nat→Value)→Act}
 (Zb:zhs ops m=true)
 (hG:∀j v w w',R j v w→G w w'→R j v w')
 (UZ:∀i,i<ops.size→i≠m→∀t w,C w→(∀j,zh1 ops i j=true→R j (t j) w)→wpOp P ops Q i (fun a' w'=>∃v,a'=F (updV t i v)∧C w'∧G w w'∧R i v w') (F t) w)
 (Yk:∀t w,C w→(∀j,j<ops.size→j≠m→R j (t j) w)→wpOp P ops Q m (Q .normal) (F t) w) :
 ∀(fuel:Nat)(listed:Array Bool)(a:Act)(w:World),yd1 ops m C R F listed a w→((List.range ops.size).filter (fun i => !listed.getD i false)).length≤fuel→wpAny P .any ops Q fuel listed a w:=by
 simp only[zhs,Bool.and_eq_true,decide_eq_true_eq,List.all_eq_true,List.mem_range,Bool.or_eq_true,beq_iff_eq,List.any_eq_true]at Zb;obtain⟨Yg,Yh⟩:=Zb;intro fuel
 induction fuel with
 |zero =>
  intro listed a w h hc
  exfalso
  have h0:((List.range ops.size).filter (fun i => !listed.getD i false))=[]:=List.length_eq_zero_iff.1 (by omega)
  have h1:m ∈ ((List.range ops.size).filter (fun i => !listed.getD i false)):=by
   refine List.mem_filter.2 ⟨List.mem_range.2 Yg,?_⟩;have:=h.2.1;rw[yac (by rw[h.1];exact Yg) true false]at this;simp[this]
  rw[h0]at h1
  cases h1
 |succ fuel ih =>
  intro listed a w h hc;obtain⟨ZS,hmu,VX,t,rfl,hC,hR⟩:=h
  have hun:∀i,i<ops.size→listed.getD i true=listed.getD i false:=fun i hi=>yac (by rw[ZS];exact hi) _ _
  refine⟨fun hr => ?_,fun i hi => ?_⟩
  ·exfalso
   have key:∀i,i<ops.size→listed.getD i false=true:=by
    intro i
    induction i using Nat.strongRecOn with
    |_ i ihi =>
     intro hi
     cases WJ:listed.getD i false with
     |true=>rfl
     |false =>
      exfalso
      have hoi:ops[i]?=some ops[i]:=Array.getElem?_eq_getElem hi
      have WZ:i ∈ Region.ready .any ops listed:=mem_ready.2 ⟨by rw[hun i hi];exact WJ,ops[i],hoi,fun e he hb=>by
       have h2:=(Yh i hi).2;rw[hoi]at h2;simp only[Option.map_some,Option.getD_some,Array.all_eq_true',Bool.or_eq_true,Bool.not_eq_true',decide_eq_true_eq]at h2
       have h3:e.on<i:=by
        rcases h2 e he with h |h;·rw[hb]at h;cases h
        ·exact h
       exact ihi e.on h3 (by omega)⟩
      rw[hr]at WZ
      cases WZ
   have:=key m Yg;rw[←hun m Yg,hmu]at this
   cases this
  ·obtain⟨hiu,o,ho,Zy⟩:=mem_ready.1 hi
   have TM:i<ops.size:=(Z8 ho)
   have hdep:∀j,zh1 ops i j=true→listed.getD j false=true:=fun j hj=>by
    obtain⟨o',ho',e,he,hb,rfl⟩:=waitsB_iff.1 hj;rw[ho]at ho'
    cases ho'
    exact Zy e he hb
   by_cases Sj:i=m
   ·subst Sj
    have hothers:∀k j,ops.size-j≤k→j<ops.size→j≠i→listed.getD j false=true:=by
     intro k
     induction k with
     |zero=>intro j h1 h2;omega
     |succ k ihk =>
      intro j h1 h2 h3
      rcases(Yh j h2).1 with h4 |⟨l,hl,h5⟩
      ·exact absurd h4 h3
      ·obtain⟨h5,h6⟩:=h5
       by_cases TW:l=i
       ·subst TW;exact hdep j h6
       ·exact VX l j (ihk l (by omega) hl TW) h6
    refine wpOp_mono (fun a' w' hq=>wpAny_done ?_ hq _) (Yk t w hC (fun j hj Z0=>hR j (hothers _ j (Nat.le_refl _) hj Z0)))
    refine List.eq_nil_iff_forall_not_mem.2 fun k hk => ?_
    obtain⟨TS,ok,XK,_⟩:=mem_ready.1 hk;have WI:k<ops.size:=(Z8 XK);rw[z7c (by rw[ZS];exact TM)]at TS
    by_cases VO:i=k
    ·rw[if_pos VO]at TS;cases TS
    ·rw[if_neg VO,hun k WI,hothers _ k (Nat.le_refl _) WI (Ne.symm VO)]at TS;cases TS
   ·refine wpOp_mono (fun a' w' hq => ?_) (UZ i TM Sj t w hC (fun j hj=>hR j (hdep j hj)))
    obtain⟨v,rfl,hC',hg,hRi⟩:=hq
    have WV:∀j d,(listed.setIfInBounds i true).getD j d=if i=j then true else listed.getD j d:=fun j d=>z7c (by rw[ZS];exact TM)
    refine ih _ _ _ ⟨by simpa using ZS,?_,?_,updV t i v,rfl,hC',?_⟩ ?_
    ·rw[WV,if_neg Sj];exact hmu
    ·intro k j hk hj
     rw[WV]at hk ⊢
     by_cases VO:i=k
     ·subst VO
      rw[hdep j hj]
      split<;>rfl
     ·rw[if_neg VO]at hk
      rw[VX k j hk hj]
      split<;>rfl
    ·intro j hj
     rw[WV]at hj
     by_cases Vm:i=j
     ·subst Vm
      simpa[updV]using hRi
     ·rw[if_neg Vm]at hj
      have:updV t i v j=t j:=by unfold updV;rw[if_neg (Ne.symm Vm)]
      rw[this];exact hG j _ w w' (hR j hj) hg
    ·have Z4:=z7i (p:=fun x => !listed.getD x false) (p':=fun x => !(listed.setIfInBounds i true).getD x false) (i:=i) (by
      show(!listed.getD i false)=true
      rw[←hun i TM,hiu];rfl) (fun x hx=>by
      show(!listed.getD x false)=true
      have hx:(!(listed.setIfInBounds i true).getD x false)=true:=hx;rw[WV]at hx
      by_cases TN:i=x
      ·rw[if_pos TN]at hx;cases hx
      ·rw[if_neg TN]at hx;exact hx) (by
      show(!(listed.setIfInBounds i true).getD i false)=false
      rw[WV,if_pos rfl];rfl) (List.range ops.size) (List.mem_range.2 TM)
     omega
theorem zuo{id:Nat}{a:Act}{w:World}(m:Nat)(C:World→Prop)(G:World→World→Prop)(R:Nat→Value→World→Prop)(F:(Nat→Value)→Act)(t0:Nat→Value)
 (hm:P.follows .mixedOrders=true) (Zb:zhs ops m=true) (ha:a=F t0) (hC:C w.drew)
 (hG:∀j v w w',R j v w→G w w'→R j v w')
 (UZ:∀i,i<ops.size→i≠m→∀t w,C w→(∀j,zh1 ops i j=true→R j (t j) w)→wpOp P ops Q i (fun a' w'=>∃v,a'=F (updV t i v)∧C w'∧G w w'∧R i v w') (F t) w)
 (Yk:∀t w,C w→(∀j,j<ops.size→j≠m→R j (t j) w)→wpOp P ops Q m (Q .normal) (F t) w) :
 (Code.region id ops true).wp P Q a w:=by
 refine wp_region_any hm ?_
 have Yg:m<ops.size:=by
  simp only[zhs,Bool.and_eq_true,decide_eq_true_eq]at Zb;exact Zb.1
 have hrep:∀i,(Array.replicate ops.size false).getD i false=false:=fun i=>by
  simp only[Array.getD_eq_getD_getElem?,Array.getElem?_replicate]
  split<;>rfl
 refine zlt Zb hG UZ Yk _ _ _ _ ⟨by simp,?_,fun i j hi => ?_,t0,ha,hC,fun j hj => ?_⟩ ?_
 ·rw[yac (by simpa using Yg) true false];exact hrep m
 ·rw[hrep]at hi;cases hi
 ·rw[hrep]at hj;cases hj
 ·refine Nat.le_trans (List.length_filter_le _ _) ?_
  simp
def zqg(P:Program)(K:Value→World→Prop):Result Next→Prop
 | .ok (.value v) w'=>K v w'
 | .ok .skip w'=>K undef w'
 | .ok (.enter f args) w'=>Calls P f args w' fun e w''=>∃v,e=.returned v∧K v w''
 |_=>False
theorem yd6{K:Value→World→Prop}(v:Value)(w:World):zqg P K (.ok (.value v) w)=K v w:=rfl
theorem yd8{K:Value→World→Prop}(w:World):zqg P K (.ok .skip w)=K undef w:=rfl
theorem yd7{K:Value→World→Prop}(f:FuncId)(args:Array Value)(w:World):zqg P K (.ok (.enter f args) w)=Calls P f args w fun e w''=>∃v,e=.returned v∧K v w'':=rfl
theorem zl0{o:Oper}{a:Act}{w:World}{K:Value→World→Prop}{K':Act→World→Prop}(hK:∀v w',K v w'→K' (a.put o.dst v) w')(h:zqg P K ((execOp a.eval o).run P w)):o.wp P a w K' Q:=by
 unfold Oper.wp;generalize (execOp a.eval o).run P w=r at *
 cases r with
 |ok n w' =>
  cases n with
  |value v=>exact hK _ _ h
  |skip=>exact hK _ _ h
  |enter f args =>
   show Calls P f args w' _
   refine Calls.mono h ?_;rintro e w'' ⟨v,rfl,h2⟩;exact hK _ _ h2
  |_=>exact False.elim h
 |halt x w'=>exact False.elim h
theorem zv9{i:Nat}{o:Oper}{a:Act}{w:World}{Kg:Value→World→Prop}(ho:ops[i]?=some o)(hg:o.guard.isNone=true)(h:∀K:Value→World→Prop,(∀v w',Kg v w'→K v w')→zqg P K ((execOp a.eval o).run P w)) :
 wpOp P ops Q i (fun a' w'=>∃v,a'=a.put o.dst v∧Kg v w') a w:=by
 refine wpOp_step ho fun K' hK' => ?_
 have hw:Region.wanted o (yielded ops a.tmps)=true:=by
  cases hq:o.guard with
  |none=>simp[Region.wanted,hq]
  |some x=>rw[hq]at hg;cases hg
 rw[if_pos hw];exact zl0 (fun v w' hv=>hK' _ _ ⟨v,rfl,hv⟩) (h Kg fun _ _ hv=>hv)
theorem zv8{i:Nat}{o:Oper}{a:Act}{w:World}(ho:ops[i]?=some o)(hg:o.guard.isNone=true)(h:∀K:Value→World→Prop,(∀v w',Q .normal (a.put o.dst v) w'→K v w')→zqg P K ((execOp a.eval o).run P w)) :
 wpOp P ops Q i (Q .normal) a w:=by
 refine wpOp_step ho fun K' hK' => ?_
 have hw:Region.wanted o (yielded ops a.tmps)=true:=by
  cases hq:o.guard with
  |none=>simp[Region.wanted,hq]
  |some x=>rw[hq]at hg;cases hg
 rw[if_pos hw];exact zl0 (fun v w' hv=>hK' _ _ hv) (h (fun v w'=>Q .normal (a.put o.dst v) w') fun _ _ hv=>hv)
def zcq:List (Option Tmp)→Nat→(Nat→Value)→Act→Act
 | [],_,_,a=>a
 |d :: l,k,t,a=>zcq l (k+1) t (a.put d (t k))
def zvl:List (Option Tmp)→Bool
 | []=>true
 |d :: l=>(d.isNone || !l.contains d) && zvl l
theorem zs6{d:Option Tmp}{v:Value}:∀(l:List (Option Tmp))(k:Nat)(t:Nat→Value)(a:Act),(∀e ∈ l,∀x,d=some x→e≠some x)→(zcq l k t a).put d v=zcq l k t (a.put d v)
 | [],_,_,_,_=>rfl
 |e :: l,k,t,a,h=>by
  show(zcq l (k+1) t (a.put e (t k))).put d v=zcq l (k+1) t ((a.put d v).put e (t k))
  rw[zs6 l (k+1) t _ (fun x hx=>h x (List.mem_cons_of_mem _ hx)),Act.put_comm a (x:=d) (y:=e) v (t k) (fun x hx=>h e (List.mem_cons_self ..) x hx)]
theorem zx2{v:Value}{i:Nat}:∀(l:List (Option Tmp))(k:Nat)(t:Nat→Value)(a:Act),i<k→zcq l k (updV t i v) a=zcq l k t a
 | [],_,_,_,_=>rfl
 |e :: l,k,t,a,h=>by
  show zcq l (k+1) (updV t i v) (a.put e (updV t i v k))=zcq l (k+1) t (a.put e (t k))
  have:updV t i v k=t k:=if_neg (by omega);rw[this,zx2 l (k+1) t _ (by omega)]
theorem z29(a:Act)(d:Option Tmp)(v u:Value):(a.put d v).put d u=a.put d u:=by
 cases d with
 |none=>rfl
 |some x=>simp[Act.put]
theorem zs5:∀(l:List (Option Tmp))(k:Nat)(t:Nat→Value)(a:Act)(i:Nat)(d:Option Tmp)(v:Value),zvl l=true→l[i]?=some d→(zcq l k t a).put d v=zcq l k (updV t (k+i) v) a
 | [],_,_,_,_,_,_,_,h=>by cases h
 |e :: l,k,t,a,0,d,v,h,hi=>by
  injection hi with hi
  subst hi;simp only[zvl,Bool.and_eq_true,Bool.or_eq_true,Option.isNone_iff_eq_none,Bool.not_eq_true',List.contains_eq_mem,decide_eq_false_iff_not]at h
  show(zcq l (k+1) t (a.put e (t k))).put e v=zcq l (k+1) (updV t k v) (a.put e (updV t k v k))
  rw[zs6 l (k+1) t _ (fun x hx y hy=>by
   rintro rfl
   rcases h.1 with h1 |h1
   ·rw[h1]at hy;cases hy
   ·rw[hy]at h1;exact h1 hx),z29,zx2 _ _ _ _ (by omega),show updV t k v k=v from if_pos rfl]
 |e :: l,k,t,a,i+1,d,v,h,hi=>by
  simp only[zvl,Bool.and_eq_true]at h
  show(zcq l (k+1) t (a.put e (t k))).put d v=zcq l (k+1) (updV t (k+(i+1)) v) (a.put e (updV t (k+(i+1)) v k))
  have e1:updV t (k+(i+1)) v k=t k:=if_neg (by omega);rw[zs5 l (k+1) t _ i d v h.2 hi,e1,show k+1+i=k+(i+1)by omega]
def getV(a:Act):Option Tmp→Value
 |some d=>a.tmps.getD d undef
 |none=>undef
theorem zx3(a:Act)(d:Option Tmp):a.put d (getV a d)=a:=by
 cases d with
 |none=>rfl
 |some x =>
  obtain⟨tm,ds⟩:=a
  have h:tm.setIfInBounds x (tm.getD x undef)=tm:=by
   by_cases h:x<tm.size
   ·have e:tm.getD x undef=tm[x]:=by simp[Array.getD_eq_getD_getElem?,h]
    rw[e]
    refine Array.ext (by simp) fun i h1 h2 => ?_
    rw[Array.getElem_setIfInBounds]
    split
    ·rename_i hx;subst hx;rfl
    ·rfl
   ·exact Array.setIfInBounds_eq_of_size_le (Nat.le_of_not_lt h)
  show(⟨tm.setIfInBounds x (tm.getD x undef),ds⟩:Act)=⟨tm,ds⟩
  rw[h]
theorem zo4:∀(l:List (Option Tmp))(k:Nat)(t:Nat→Value)(a:Act),(∀i d,l[i]?=some d→t (k+i)=getV a d)→zcq l k t a=a
 | [],_,_,_,_=>rfl
 |e :: l,k,t,a,h=>by
  show zcq l (k+1) t (a.put e (t k))=a
  have h0:t k=getV a e:=h 0 e rfl;rw[h0,zx3]
  exact zo4 l (k+1) t a fun i d hi=>by
   have:=h (i+1) d hi
   rwa [show k+(i+1)=k+1+i by omega]at this
theorem zls{id:Nat}{a:Act}{w:World}{l:List Oper}(m:Nat)(C:World→Prop)(G:World→World→Prop)(R:Nat→Value→World→Prop)
 (hm:P.follows .mixedOrders=true) (Zb:zhs l.toArray m=true) (hd:zvl (l.map (·.dst))=true) (hC:C w.drew)
 (hG:∀j v w w',R j v w→G w w'→R j v w')
 (UZ:∀i,i<l.length→i≠m→∀t w,C w→(∀j,zh1 l.toArray i j=true→R j (t j) w) →
  wpOp P l.toArray Q i (fun a' w'=>∃v,a'=(zcq (l.map (·.dst)) 0 t a).put (((l.map (·.dst))[i]?).getD none) v∧C w'∧G w w'∧R i v w') (zcq (l.map (·.dst)) 0 t a) w)
 (Yk:∀t w,C w→(∀j,j<l.length→j≠m→R j (t j) w)→wpOp P l.toArray Q m (Q .normal) (zcq (l.map (·.dst)) 0 t a) w) :
 (Code.region id l.toArray true).wp P Q a w:=by
 refine zuo m C G R (fun t=>zcq (l.map (·.dst)) 0 t a) (fun i=>getV a (((l.map (·.dst))[i]?).getD none)) hm Zb ?_ hC hG (fun i hi Z0 t w UF hR => ?_) (fun t w UF hR=>Yk t w UF fun j hj=>hR j (by simpa using hj))
 ·refine(zo4 _ 0 _ a fun i d hi => ?_).symm
  rw[show 0+i=i by omega,hi];rfl
 ·have hi:i<l.length:=by simpa using hi
  refine wpOp_mono (fun a' w' h => ?_) (UZ i hi Z0 t w UF hR);obtain⟨v,rfl,h2⟩:=h;refine⟨v,?_,h2⟩
  have hsome:(l.map (·.dst))[i]?=some (l[i].dst):=by rw[List.getElem?_map,List.getElem?_eq_getElem hi];rfl
  rw[hsome];have:=zs5 (l.map (·.dst)) 0 t a i (l[i].dst) v hd hsome;rw[show 0+i=i by omega]at this;exact this
theorem zkp{id:Nat}{a:Act}{w:World}{l:List Oper}(m:Nat)(C:World→Prop)(G:World→World→Prop)(R:Nat→Value→World→Prop)
 (hm:P.follows .mixedOrders=true) (Zb:zhs l.toArray m=true) (hd:zvl (l.map (·.dst))=true) (hgu:l.all (fun o=>o.guard.isNone)=true) (hC:C w.drew)
 (hG:∀j v w w',R j v w→G w w'→R j v w')
 (UZ:∀i o,l[i]?=some o→i≠m→∀t w,C w→(∀j,zh1 l.toArray i j=true→R j (t j) w) →
  ∀K:Value→World→Prop,(∀v w',C w'∧G w w'∧R i v w'→K v w')→zqg P K ((execOp (zcq (l.map (·.dst)) 0 t a).eval o).run P w))
 (Yk:∀o,l[m]?=some o→∀t w,C w→(∀j,j<l.length→j≠m→R j (t j) w) →
  ∀K:Value→World→Prop,(∀v w',Q .normal ((zcq (l.map (·.dst)) 0 t a).put o.dst v) w'→K v w')→zqg P K ((execOp (zcq (l.map (·.dst)) 0 t a).eval o).run P w)) :
 (Code.region id l.toArray true).wp P Q a w:=by
 have hg:∀{i:Nat}{o:Oper},l[i]?=some o→o.guard.isNone=true:=fun {i o} h=>List.all_eq_true.1 hgu o (List.mem_of_getElem? h)
 refine zls m C G R hm Zb hd hC hG (fun i hi Z0 t w UF hR => ?_) (fun t w UF hR => ?_)
 ·have ho:l[i]?=some l[i]:=List.getElem?_eq_getElem hi
  have hsome:((l.map (·.dst))[i]?).getD none=l[i].dst:=by rw[List.getElem?_map,ho];rfl
  rw[hsome];exact zv9 (by rw[List.getElem?_toArray];exact ho) (hg ho) (UZ i l[i] ho Z0 t w UF hR)
 ·have hml:m<l.length:=by
   simp only[zhs,Bool.and_eq_true,decide_eq_true_eq]at Zb;simpa using Zb.1
  have ho:l[m]?=some l[m]:=List.getElem?_eq_getElem hml;exact zv8 (by rw[List.getElem?_toArray];exact ho) (hg ho) (Yk l[m] ho t w UF hR)
end
open Go.RowKit
attribute [local go_sem] yd6 yd8 yd7
theorem zbm{u u':World}{o:Obj}{g:Nat}(h:u.heap[g]?=some o)(hb:Below u.heap.size u u'):u'.heap[g]?=some o:=(hb.block _ (Z8 h)).trans h
theorem z7y{u:World}{b:Nat}{t:TypeId}{z0 z1 z2 z3 z4 z5 z6 z7 z8 z9 za zb:Value}(h:u.heap[b]?=some (.cells #[z0,z1,z2,z3,z4,z5,z6,z7,z8,z9,za,zb] t))(v0 v1 v2 v3 v4 v5 v6 v7 v8 v9 va vb:Value):((((((((((((u.setCell ⟨b,0,none⟩ v0).setCell ⟨b,1,none⟩ v1).setCell ⟨b,2,none⟩ v2).setCell ⟨b,3,none⟩ v3).setCell ⟨b,4,none⟩ v4).setCell ⟨b,5,none⟩ v5).setCell ⟨b,6,none⟩ v6).setCell ⟨b,7,none⟩ v7).setCell ⟨b,8,none⟩ v8).setCell ⟨b,9,none⟩ v9).setCell ⟨b,10,none⟩ va).setCell ⟨b,11,none⟩ vb).heap[b]?=some (.cells #[v0,v1,v2,v3,v4,v5,v6,v7,v8,v9,va,vb] t):=by
 simp[World.setCell,Array.getElem?_modify,h]
theorem zwm{u:World}{b c:Nat}{v0 v1 v2 v3 v4 v5 v6 v7 v8 v9 va vb:Value}(h:c≠b):((((((((((((u.setCell ⟨b,0,none⟩ v0).setCell ⟨b,1,none⟩ v1).setCell ⟨b,2,none⟩ v2).setCell ⟨b,3,none⟩ v3).setCell ⟨b,4,none⟩ v4).setCell ⟨b,5,none⟩ v5).setCell ⟨b,6,none⟩ v6).setCell ⟨b,7,none⟩ v7).setCell ⟨b,8,none⟩ v8).setCell ⟨b,9,none⟩ v9).setCell ⟨b,10,none⟩ va).setCell ⟨b,11,none⟩ vb).heap[c]?=u.heap[c]?:=by
 iterate 12 rw[Below.heap_setCell _ _ _ _ (by show c≠b;exact h)]
def alR(Vs:Nat):Nat→Value→World→Prop
 |0,v,_=>v=.agg #[.int .u8 1,.string ⟨#[50]⟩,.string ⟨#[]⟩,.int .i64 0,.slice none 0 0]
 |1,v,_=>v=.agg #[.int .u8 3,.string ⟨#[]⟩,.string ⟨#[83,80,88]⟩,.int .i64 0,.slice none 0 0]
 |2,v,_=>v=.agg #[.int .u8 1,.string ⟨#[49,48,48]⟩,.string ⟨#[]⟩,.int .i64 0,.slice none 0 0]
 |3,v,w=>∃g,v=.agg #[.int .u8 5,.string ⟨#[]⟩,.string ⟨#[]⟩,.int .i64 0,.slice (some ⟨g,0,none⟩) 2 2]∧w.heap[g]?=some (.cells #[.int .u8 3,.string ⟨#[]⟩,.string ⟨#[83,80,88]⟩,.int .i64 0,.slice none 0 0,.int .u8 1,.string ⟨#[49,48,48]⟩,.string ⟨#[]⟩,.int .i64 0,.slice none 0 0] 25)
 |4,v,w=>∃g g3,v=.agg #[.int .u8 6,.string ⟨#[]⟩,.string ⟨#[]⟩,.int .i64 0,.slice (some ⟨g,0,none⟩) 2 2]∧w.heap[g]?=some (.cells #[.int .u8 1,.string ⟨#[50]⟩,.string ⟨#[]⟩,.int .i64 0,.slice none 0 0,.int .u8 5,.string ⟨#[]⟩,.string ⟨#[]⟩,.int .i64 0,.slice (some ⟨g3,0,none⟩) 2 2] 25)∧w.heap[g3]?=some (.cells #[.int .u8 3,.string ⟨#[]⟩,.string ⟨#[83,80,88]⟩,.int .i64 0,.slice none 0 0,.int .u8 1,.string ⟨#[49,48,48]⟩,.string ⟨#[]⟩,.int .i64 0,.slice none 0 0] 25)
 |5,v,w=>∃g g3,v=.agg #[.int .u8 2,.string ⟨#[65]⟩,.string ⟨#[66]⟩,.string ⟨#[85,83,68]⟩,.int .u8 6,.string ⟨#[]⟩,.string ⟨#[]⟩,.int .i64 0,.slice (some ⟨g,0,none⟩) 2 2,.int .i64 0,.slice none 0 0,.slice none 0 0]∧w.heap[g]?=some (.cells #[.int .u8 1,.string ⟨#[50]⟩,.string ⟨#[]⟩,.int .i64 0,.slice none 0 0,.int .u8 5,.string ⟨#[]⟩,.string ⟨#[]⟩,.int .i64 0,.slice (some ⟨g3,0,none⟩) 2 2] 25)∧w.heap[g3]?=some (.cells #[.int .u8 3,.string ⟨#[]⟩,.string ⟨#[83,80,88]⟩,.int .i64 0,.slice none 0 0,.int .u8 1,.string ⟨#[49,48,48]⟩,.string ⟨#[]⟩,.int .i64 0,.slice none 0 0] 25)
 |6,v,w=>∃b,v=.pointer (some ⟨b,0,none⟩)∧w.heap[b]?=some (.cells #[.int .u8 0,.string ⟨#[]⟩,.string ⟨#[]⟩,.string ⟨#[]⟩,.int .u8 0,.string ⟨#[]⟩,.string ⟨#[]⟩,.int .i64 0,.slice none 0 0,.int .i64 0,.slice none 0 0,.slice none 0 0] 40)∧Vs≤b
 |_,_,_=>True
theorem z6j{Vs:Nat}(j:Nat)(v:Value)(w w':World)(h:alR Vs j v w)(hb:Below w.heap.size w w'):alR Vs j v w':=by
 match j,h with
 |0,h=>exact h
 |1,h=>exact h
 |2,h=>exact h
 |3,⟨g,e,h⟩=>exact⟨g,e,zbm h hb⟩
 |4,⟨g,g3,e,h1,h2⟩=>exact⟨g,g3,e,zbm h1 hb,zbm h2 hb⟩
 |5,⟨g,g3,e,h1,h2⟩=>exact⟨g,g3,e,zbm h1 hb,zbm h2 hb⟩
 |6,⟨b,e,h,hs⟩=>exact⟨b,e,zbm h hb,hs⟩
 |_+7,_=>trivial
def RdLt(X:Ct)(I:Int)(W:World)(e:Ending)(w':World):Prop :=
 ∃n ea el ec da dl dc a l k,e=.returned (.tuple #[.agg #[.int .u8 X.kind,.string X.frm,.string X.too,.string X.name,.int .u8 X.expr.kind,.string X.expr.rat,.string X.expr.name,.int .i64 X.expr.date,.slice ea el ec,.int .i64 X.date,.slice da dl dc,.slice a l k],.int .i64 I,.int .i64 0])∧CtAt n w' [.int .u8 X.kind,.string X.frm,.string X.too,.string X.name,.int .u8 X.expr.kind,.string X.expr.rat,.string X.expr.name,.int .i64 X.expr.date,.slice ea el ec,.int .i64 X.date,.slice da dl dc,.slice a l k] X∧Below W.heap.size W w'
theorem z6i(w:World)
 (Xy:Hid (∀W,Below w.heap.size w W→Calls Tryz.prog 32 #[.string ⟨#[65,32,112,97,121,115,32,50,32,42,32,40,83,80,88,64,110,111,119,32,45,32,49,48,48,41,32,85,83,68,32,116,111,32,66]⟩] W (RdLt shC1 35 W)))
 (Yy:Hid (∀W,Below w.heap.size w W→Calls Tryz.prog 32 #[.string ⟨#[98,111,116,104,32,123,32,110,111,116,104,105,110,103,32,59,32,34,116,111,34,32,112,97,121,115,32,49,32,69,85,82,32,116,111,32,66,32,125]⟩] W (RdLt shC2 39 W)))
 (UC:Hid (∀n cs1 cs2 W,CtAt n W cs1 shC1→CtAt n W cs2 shC1→Calls Tryz.prog 23 #[.agg cs1.toArray,.agg cs2.toArray] W (BelB W true)))
 (Xj:Hid (∀n cs1 cs2 W,CtAt n W cs1 shC2→CtAt n W cs2 shC2→Calls Tryz.prog 23 #[.agg cs1.toArray,.agg cs2.toArray] W (BelB W true)))
 (VB:Hid (∀W,Below w.heap.size w W→Calls Tryz.prog 36 #[.string ⟨#[116,111,32,112,97,121,115,32,49,32,69,85,82,32,116,111,32,66]⟩,.int .i64 0] W (BelB W true)))
 (HW4:Hid (∀W,Below w.heap.size w W→Calls Tryz.prog 36 #[.string ⟨#[65,32,112,97,121,115,32,49,32,69,85,82,32,66]⟩,.int .i64 13] W (BelB W true)))
 (Tf:Hid (∀W,Below w.heap.size w W→Calls Tryz.prog 36 #[.string ⟨#[111,110,32,50,48,50,54,45,49,49,45,49,54,32,123,32,110,111,116,104,105,110,103]⟩,.int .i64 23] W (BelB W true))) :
 Calls Tryz.prog 29 #[] w (BelB w true):=by
 go_enter Tryz.func29,Tryz.ntmps29;go_wp2_with fail;refine(Xy.out _ (Below.refl _ _)).mono ?_;rintro e u1 ⟨n1,ea1,el1,ec1,da1,dl1,dc1,a1,l1,k1,rfl,ZB,ZJ⟩;have Y7:=zaa u1 (.cells #[.int .u8 shC1.kind,.string shC1.frm,.string shC1.too,.string shC1.name,.int .u8 shC1.expr.kind,.string shC1.expr.rat,.string shC1.expr.name,.int .i64 shC1.expr.date,.slice ea1 el1 ec1,.int .i64 shC1.date,.slice da1 dl1 dc1,.slice a1 l1 k1] 40);have ZT:Hid (Below w.heap.size w (u1.alloc (.cells #[.int .u8 shC1.kind,.string shC1.frm,.string shC1.too,.string shC1.name,.int .u8 shC1.expr.kind,.string shC1.expr.rat,.string shC1.expr.name,.int .i64 shC1.expr.date,.slice ea1 el1 ec1,.int .i64 shC1.date,.slice da1 dl1 dc1,.slice a1 l1 k1] 40))):=Z9 (ZJ.trans (Y7.mono ZJ.size))
 have HX1:=Z9 (CtAt.below Y7 ZB);have HBX1:=Z9 (heap_alloc_new u1 (.cells #[.int .u8 shC1.kind,.string shC1.frm,.string shC1.too,.string shC1.name,.int .u8 shC1.expr.kind,.string shC1.expr.rat,.string shC1.expr.name,.int .i64 shC1.expr.date,.slice ea1 el1 ec1,.int .i64 shC1.date,.slice da1 dl1 dc1,.slice a1 l1 k1] 40));clear ZJ ZB Y7;go_wp2_with fail;refine(Yy.out _ ZT.out).mono ?_;rintro e u2 ⟨n2,ea2,el2,ec2,da2,dl2,dc2,a2,l2,k2,rfl,Zu,Z3⟩;have hB2:=zaa u2 (.cells #[.int .u8 shC2.kind,.string shC2.frm,.string shC2.too,.string shC2.name,.int .u8 shC2.expr.kind,.string shC2.expr.rat,.string shC2.expr.name,.int .i64 shC2.expr.date,.slice ea2 el2 ec2,.int .i64 shC2.date,.slice da2 dl2 dc2,.slice a2 l2 k2] 40)
 have hB3:=zaa (u2.alloc (.cells #[.int .u8 shC2.kind,.string shC2.frm,.string shC2.too,.string shC2.name,.int .u8 shC2.expr.kind,.string shC2.expr.rat,.string shC2.expr.name,.int .i64 shC2.expr.date,.slice ea2 el2 ec2,.int .i64 shC2.date,.slice da2 dl2 dc2,.slice a2 l2 k2] 40)) (.cells #[.int .u8 3,.string ⟨#[]⟩,.string ⟨#[83,80,88]⟩,.int .i64 0,.slice none 0 0] 25);have hB23:=hB2.trans (hB3.mono hB2.size);have hb12:=Z3.trans (hB23.mono Z3.size);obtain⟨V,hV⟩:∃V,V=(u2.alloc (.cells #[.int .u8 shC2.kind,.string shC2.frm,.string shC2.too,.string shC2.name,.int .u8 shC2.expr.kind,.string shC2.expr.rat,.string shC2.expr.name,.int .i64 shC2.expr.date,.slice ea2 el2 ec2,.int .i64 shC2.date,.slice da2 dl2 dc2,.slice a2 l2 k2] 40)).alloc (.cells #[.int .u8 3,.string ⟨#[]⟩,.string ⟨#[83,80,88]⟩,.int .i64 0,.slice none 0 0] 25):=⟨_,rfl⟩
 have hv1:=CtAt.below hb12 HX1.out;have hv2:=CtAt.below hB23 Zu;have hbv1:=zbm HBX1.out hb12;have hbv2:=zbm (heap_alloc_new u2 (.cells #[.int .u8 shC2.kind,.string shC2.frm,.string shC2.too,.string shC2.name,.int .u8 shC2.expr.kind,.string shC2.expr.rat,.string shC2.expr.name,.int .i64 shC2.expr.date,.slice ea2 el2 ec2,.int .i64 shC2.date,.slice da2 dl2 dc2,.slice a2 l2 k2] 40)) hB3;have hbv3:=heap_alloc_new (u2.alloc (.cells #[.int .u8 shC2.kind,.string shC2.frm,.string shC2.too,.string shC2.name,.int .u8 shC2.expr.kind,.string shC2.expr.rat,.string shC2.expr.name,.int .i64 shC2.expr.date,.slice ea2 el2 ec2,.int .i64 shC2.date,.slice da2 dl2 dc2,.slice a2 l2 k2] 40)) (.cells #[.int .u8 3,.string ⟨#[]⟩,.string ⟨#[83,80,88]⟩,.int .i64 0,.slice none 0 0] 25)
 rw[World.size_alloc]at hbv3;have hbV:=ZT.out.trans (hb12.mono ZT.out.size);rw[←hV]at hv1 hv2 hbv1 hbv2 hbv3 hbV;have HV1:Hid (∀W,Below V.heap.size V W→W.heap[u1.heap.size]?=some (.cells #[.int .u8 shC1.kind,.string shC1.frm,.string shC1.too,.string shC1.name,.int .u8 shC1.expr.kind,.string shC1.expr.rat,.string shC1.expr.name,.int .i64 shC1.expr.date,.slice ea1 el1 ec1,.int .i64 shC1.date,.slice da1 dl1 dc1,.slice a1 l1 k1] 40)):=Z9 (fun W hW=>zbm hbv1 hW);have HV2b:Hid (∀W,Below V.heap.size V W→W.heap[u2.heap.size]?=some (.cells #[.int .u8 shC2.kind,.string shC2.frm,.string shC2.too,.string shC2.name,.int .u8 shC2.expr.kind,.string shC2.expr.rat,.string shC2.expr.name,.int .i64 shC2.expr.date,.slice ea2 el2 ec2,.int .i64 shC2.date,.slice da2 dl2 dc2,.slice a2 l2 k2] 40)):=Z9 (fun W hW=>zbm hbv2 hW)
 have HY1:Hid (∀W,Below V.heap.size V W→CtAt n1 W [.int .u8 shC1.kind,.string shC1.frm,.string shC1.too,.string shC1.name,.int .u8 shC1.expr.kind,.string shC1.expr.rat,.string shC1.expr.name,.int .i64 shC1.expr.date,.slice ea1 el1 ec1,.int .i64 shC1.date,.slice da1 dl1 dc1,.slice a1 l1 k1] shC1):=Z9 (fun W hW=>CtAt.below hW hv1);have HY2:Hid (∀W,Below V.heap.size V W→CtAt n2 W [.int .u8 shC2.kind,.string shC2.frm,.string shC2.too,.string shC2.name,.int .u8 shC2.expr.kind,.string shC2.expr.rat,.string shC2.expr.name,.int .i64 shC2.expr.date,.slice ea2 el2 ec2,.int .i64 shC2.date,.slice da2 dl2 dc2,.slice a2 l2 k2] shC2):=Z9 (fun W hW=>CtAt.below hW hv2)
 have HSB:Hid (∀W,Below V.heap.size V W→W.cell? ⟨u2.heap.size+1,0,none⟩=some (.int .u8 3)∧W.cell? ⟨u2.heap.size+1,1,none⟩=some (.string ⟨#[]⟩)∧W.cell? ⟨u2.heap.size+1,2,none⟩=some (.string ⟨#[83,80,88]⟩)∧W.cell? ⟨u2.heap.size+1,3,none⟩=some (.int .i64 0)∧W.cell? ⟨u2.heap.size+1,4,none⟩=some (.slice none 0 0)):=Z9 (fun W hW=>zad (zbm hbv3 hW));have HVW:=Z9 hbV;have HVV:=Z9 hV;clear hB2 hB3 hB23 hb12 Z3 Zu hv1 hv2 hbv1 hbv2 hbv3 hbV hV HX1 HBX1 ZT
 go_upto_region 4 with(fail)
 rw[←HVV.out];go_cut [8] (fun s wx=>∃b g g3,s=.pointer (some ⟨b,0,none⟩)∧Hid (Below V.heap.size V wx∧wx.heap[b]?=some (.cells #[.int .u8 2,.string ⟨#[65]⟩,.string ⟨#[66]⟩,.string ⟨#[85,83,68]⟩,.int .u8 6,.string ⟨#[]⟩,.string ⟨#[]⟩,.int .i64 0,.slice (some ⟨g,0,none⟩) 2 2,.int .i64 0,.slice none 0 0,.slice none 0 0] 40)∧wx.heap[g]?=some (.cells #[.int .u8 1,.string ⟨#[50]⟩,.string ⟨#[]⟩,.int .i64 0,.slice none 0 0,.int .u8 5,.string ⟨#[]⟩,.string ⟨#[]⟩,.int .i64 0,.slice (some ⟨g3,0,none⟩) 2 2] 25)∧wx.heap[g3]?=some (.cells #[.int .u8 3,.string ⟨#[]⟩,.string ⟨#[83,80,88]⟩,.int .i64 0,.slice none 0 0,.int .u8 1,.string ⟨#[49,48,48]⟩,.string ⟨#[]⟩,.int .i64 0,.slice none 0 0] 25)))
 case first =>
  refine zkp 7 (fun W=>Below V.heap.size V W) (fun w w'=>Below w.heap.size w w') (alR V.heap.size) (by kernel_rfl) (by kernel_rfl) (by kernel_rfl) (by kernel_rfl) (Below.refl _ _).drew z6j ?_ ?_
  case _ =>
   intro i o ho Z0 t W hC hR K hK;have HC:=Z9 hC
   rcases(show i=0∨i=1∨i=2∨i=3∨i=4∨i=5∨i=6 by have:i<8:=(List.getElem?_eq_some_iff.1 ho).1;omega)with rfl |rfl |rfl |rfl |rfl |rfl |rfl
   ·clear hC hR Z0
    cases ho
    dsimp only [List.map,zcq];go_simp;refine(zno _ _).mono ?_;rintro e u ⟨rfl,hb⟩;exact⟨_,rfl,hK _ _ ⟨HC.out.trans (hb.mono HC.out.size),hb,rfl⟩⟩
   ·obtain⟨d0,d1,d2,d3,d4⟩:=HSB.out W HC.out
    clear hC hR Z0
    cases ho
    dsimp only [List.map,zcq];go_simp;exact hK _ _ ⟨HC.out,Below.refl _ _,rfl⟩
   ·clear hC hR Z0
    cases ho
    dsimp only [List.map,zcq];go_simp;refine(zno _ _).mono ?_;rintro e u ⟨rfl,hb⟩;exact⟨_,rfl,hK _ _ ⟨HC.out.trans (hb.mono HC.out.size),hb,rfl⟩⟩
   ·have r1:=hR 1 (by kernel_rfl)
    have r2:=hR 2 (by kernel_rfl);clear hC hR Z0
    cases ho
    dsimp only [List.map,zcq];change t 1=_ at r1;change t 2=_ at r2;rw[r1,r2];clear r1 r2;go_simp;refine(zyh 5 _ _ _ _ _ _ _ _ _ _ _).mono ?_;rintro e u ⟨g,rfl,hg,hb⟩;exact⟨_,rfl,hK _ _ ⟨HC.out.trans (hb.mono HC.out.size),hb,g,rfl,hg⟩⟩
   ·have r0:=hR 0 (by kernel_rfl)
    obtain⟨g3,r3,h3⟩:=hR 3 (by kernel_rfl);clear hC hR Z0
    cases ho
    dsimp only [List.map,zcq];change t 0=_ at r0;rw[r0,r3];clear r0 r3;go_simp;refine(zyh 6 _ _ _ _ _ _ _ _ _ _ _).mono ?_;rintro e u ⟨g,rfl,hg,hb⟩;exact⟨_,rfl,hK _ _ ⟨HC.out.trans (hb.mono HC.out.size),hb,g,g3,rfl,hg,zbm h3 hb⟩⟩
   ·obtain⟨g,g3,r4,h4,h3⟩:=hR 4 (by kernel_rfl)
    clear hC hR Z0
    cases ho
    dsimp only [List.map,zcq];rw[r4];clear r4;go_simp;exact hK _ _ ⟨HC.out,Below.refl _ _,g,g3,rfl,h4,h3⟩
   ·clear hC hR Z0
    cases ho
    dsimp only [List.map,zcq];go_simp;exact hK _ _ ⟨HC.out.alloc HC.out.size _,zaa _ _,W.heap.size,rfl,heap_alloc_new _ _,HC.out.size⟩
  case _ =>
   intro o ho t W hC hR K hK;have HC:=Z9 hC;obtain⟨g,g3,r5,h4,h3⟩:=hR 5 (show 5<8 by decide) (show 5≠7 by decide);obtain⟨b,r6,hz,X0⟩:=hR 6 (show 6<8 by decide) (show 6≠7 by decide);obtain⟨z0,z1,z2,z3,z4,z5,z6,z7,z8,z9,za,zb⟩:=zbz hz;have fz:=Lib.frozen_of_heap hz;have HZ:=Z9 hz;have HH:=Z9 (And.intro h4 h3);clear hC hR hz h4 h3
   cases ho
   dsimp only [List.map,zcq];rw[r5,r6];go_simp;refine hK _ _ ?_;simp only[List.map,zcq,Act.put,List.setIfInBounds_toArray,List.set_cons_succ,List.set_cons_zero,Nat.zero_add,Nat.reduceAdd,r6];clear hK K r5 r6 z0 z1 z2 z3 z4 z5 z6 z7 z8 z9 za zb;go_wp2_with fail;go_meet
   case rel =>
    have YR:g≠b:=fun e=>by subst e;have h:=HH.out.1;rw[HZ.out]at h;cases h
    have Zw:g3≠b:=fun e=>by subst e;have h:=HH.out.2;rw[HZ.out]at h;cases h
    exact⟨b,g,g3,rfl,Z9 ⟨((((((((((((HC.out).setCell (p:=⟨b,0,none⟩) X0 _).setCell (p:=⟨b,1,none⟩) X0 _).setCell (p:=⟨b,2,none⟩) X0 _).setCell (p:=⟨b,3,none⟩) X0 _).setCell (p:=⟨b,4,none⟩) X0 _).setCell (p:=⟨b,5,none⟩) X0 _).setCell (p:=⟨b,6,none⟩) X0 _).setCell (p:=⟨b,7,none⟩) X0 _).setCell (p:=⟨b,8,none⟩) X0 _).setCell (p:=⟨b,9,none⟩) X0 _).setCell (p:=⟨b,10,none⟩) X0 _).setCell (p:=⟨b,11,none⟩) X0 _,z7y HZ.out _ _ _ _ _ _ _ _ _ _ _ _,(zwm YR).trans HH.out.1,(zwm Zw).trans HH.out.2⟩⟩
 case rest =>
  obtain⟨b,g,g3,rfl,hh⟩:=hcut;have HCC:=Z9 hh.out.1;have HON:=Z9 hh.out.2.1;have HE4:=Z9 hh.out.2.2;clear hh;go_wp2_with fail;refine(zno _ _).mono ?_;rintro e w3 ⟨rfl,Zw⟩;have HC3:=Z9 (HCC.out.trans (Zw.mono HCC.out.size));have Uu:=zbm HON.out Zw;have he4:=zbm HE4.out.1 Zw;have he3:=zbm HE4.out.2 Zw;have YF:=HV1.out w3 HC3.out;obtain⟨V2,Um⟩:∃V2,V2=(w3.alloc (.cells #[.int .u8 1,.string ⟨#[]⟩,.string ⟨#[]⟩,.string ⟨#[]⟩,.int .u8 0,.string ⟨#[]⟩,.string ⟨#[]⟩,.int .i64 0,.slice none 0 0,.int .i64 0,.slice none 0 0,.slice none 0 0,.int .u8 2,.string ⟨#[116,111]⟩,.string ⟨#[66]⟩,.string ⟨#[69,85,82]⟩,.int .u8 1,.string ⟨#[49]⟩,.string ⟨#[]⟩,.int .i64 0,.slice none 0 0,.int .i64 0,.slice none 0 0,.slice none 0 0] 40)).alloc (.cells #[.int .u8 3,.string ⟨#[]⟩,.string ⟨#[]⟩,.string ⟨#[]⟩,.int .u8 0,.string ⟨#[]⟩,.string ⟨#[]⟩,.int .i64 0,.slice none 0 0,.int .i64 0,.slice none 0 0,.slice (some ⟨w3.heap.size,0,none⟩) 2 2] 40):=⟨_,rfl⟩
  have Zt:=zaa w3 (.cells #[.int .u8 1,.string ⟨#[]⟩,.string ⟨#[]⟩,.string ⟨#[]⟩,.int .u8 0,.string ⟨#[]⟩,.string ⟨#[]⟩,.int .i64 0,.slice none 0 0,.int .i64 0,.slice none 0 0,.slice none 0 0,.int .u8 2,.string ⟨#[116,111]⟩,.string ⟨#[66]⟩,.string ⟨#[69,85,82]⟩,.int .u8 1,.string ⟨#[49]⟩,.string ⟨#[]⟩,.int .i64 0,.slice none 0 0,.int .i64 0,.slice none 0 0,.slice none 0 0] 40);have YJ:=zaa (w3.alloc (.cells #[.int .u8 1,.string ⟨#[]⟩,.string ⟨#[]⟩,.string ⟨#[]⟩,.int .u8 0,.string ⟨#[]⟩,.string ⟨#[]⟩,.int .i64 0,.slice none 0 0,.int .i64 0,.slice none 0 0,.slice none 0 0,.int .u8 2,.string ⟨#[116,111]⟩,.string ⟨#[66]⟩,.string ⟨#[69,85,82]⟩,.int .u8 1,.string ⟨#[49]⟩,.string ⟨#[]⟩,.int .i64 0,.slice none 0 0,.int .i64 0,.slice none 0 0,.slice none 0 0] 40)) (.cells #[.int .u8 3,.string ⟨#[]⟩,.string ⟨#[]⟩,.string ⟨#[]⟩,.int .u8 0,.string ⟨#[]⟩,.string ⟨#[]⟩,.int .i64 0,.slice none 0 0,.int .i64 0,.slice none 0 0,.slice (some ⟨w3.heap.size,0,none⟩) 2 2] 40)
  have hs12:=Zt.trans (YJ.mono Zt.size);have hsl:=zbm (heap_alloc_new w3 (.cells #[.int .u8 1,.string ⟨#[]⟩,.string ⟨#[]⟩,.string ⟨#[]⟩,.int .u8 0,.string ⟨#[]⟩,.string ⟨#[]⟩,.int .i64 0,.slice none 0 0,.int .i64 0,.slice none 0 0,.slice none 0 0,.int .u8 2,.string ⟨#[116,111]⟩,.string ⟨#[66]⟩,.string ⟨#[69,85,82]⟩,.int .u8 1,.string ⟨#[49]⟩,.string ⟨#[]⟩,.int .i64 0,.slice none 0 0,.int .i64 0,.slice none 0 0,.slice none 0 0] 40)) YJ;have W6:=heap_alloc_new (w3.alloc (.cells #[.int .u8 1,.string ⟨#[]⟩,.string ⟨#[]⟩,.string ⟨#[]⟩,.int .u8 0,.string ⟨#[]⟩,.string ⟨#[]⟩,.int .i64 0,.slice none 0 0,.int .i64 0,.slice none 0 0,.slice none 0 0,.int .u8 2,.string ⟨#[116,111]⟩,.string ⟨#[66]⟩,.string ⟨#[69,85,82]⟩,.int .u8 1,.string ⟨#[49]⟩,.string ⟨#[]⟩,.int .i64 0,.slice none 0 0,.int .i64 0,.slice none 0 0,.slice none 0 0] 40)) (.cells #[.int .u8 3,.string ⟨#[]⟩,.string ⟨#[]⟩,.string ⟨#[]⟩,.int .u8 0,.string ⟨#[]⟩,.string ⟨#[]⟩,.int .i64 0,.slice none 0 0,.int .i64 0,.slice none 0 0,.slice (some ⟨w3.heap.size,0,none⟩) 2 2] 40)
  rw[World.size_alloc]at W6;rw[←Um]at hs12 hsl W6;have HC4:=Z9 (HC3.out.trans (hs12.mono HC3.out.size));have HSL:=Z9 hsl;have HTW:=Z9 W6;have HSA1:=Z9 (UC.out (n1+3) _ _ V2 (CtAt.up (Nat.le_add_right _ _) (HY1.out V2 HC4.out)) (CtAt.up (Nat.le_add_left _ _) (zlh (n:=2) (k:=2) (d:=0) (f:=⟨#[65]⟩) (t:=⟨#[66]⟩) (s:=⟨#[85,83,68]⟩) (e:=shE1) (zla 6 (zbm he4 hs12) (zem 1 V2 1 ⟨#[50]⟩ ⟨#[]⟩ 0) (zla 5 (zbm he3 hs12) (zem 0 V2 3 ⟨#[]⟩ ⟨#[83,80,88]⟩ 0) (zem 0 V2 1 ⟨#[49,48,48]⟩ ⟨#[]⟩ 0))) ⟨rfl,rfl,rfl,rfl⟩)));obtain⟨c0,c1,c2,c3,c4,c5,c6,c7,c8,c9,ca,cb⟩:=zbz YF;obtain⟨o0,o1,o2,o3,o4,o5,o6,o7,o8,o9,oa,ob⟩:=zbz Uu
  have X9:=(Z8 YF);have Yv:=(Z8 Uu);have HV2:=Z9 Um;clear Zw Uu he4 he3 YF Zt YJ hs12 hsl W6 Um HCC HON HE4;go_wp2_with fail;rw[←HV2.out];refine HSA1.out.mono ?_;rintro e w4 ⟨rfl,Wh⟩;clear c0 c1 c2 c3 c4 c5 c6 c7 c8 c9 ca cb o0 o1 o2 o3 o4 o5 o6 o7 o8 o9 oa ob X9 Yv;have HC5:=Z9 (HC4.out.trans (Wh.mono HC4.out.size));have W6:=zbm HTW.out Wh;have hsl:=zbm HSL.out Wh;have Yd:=HV2b.out w4 HC5.out;have HSA2:=Z9 (Xj.out (n2+3) _ _ w4 (CtAt.up (Nat.le_add_right _ _) (HY2.out w4 HC5.out)) (CtAt.up (Nat.le_add_left _ _) (zj3 (n:=2) (k:=3) (d:=0) (f:=⟨#[]⟩) (t:=⟨#[]⟩) (s:=⟨#[]⟩) (y:=shZ) (z:=shP) hsl (zp0 1 w4 1 0 ⟨#[]⟩ ⟨#[]⟩ ⟨#[]⟩) (zlh (n:=1) (k:=2) (d:=0) (f:=⟨#[116,111]⟩) (t:=⟨#[66]⟩) (s:=⟨#[69,85,82]⟩) (e:=shE2) (zem 1 w4 1 ⟨#[49]⟩ ⟨#[]⟩ 0) ⟨rfl,rfl,rfl,rfl⟩))))
  obtain⟨c0,c1,c2,c3,c4,c5,c6,c7,c8,c9,ca,cb⟩:=zbz Yd;obtain⟨o0,o1,o2,o3,o4,o5,o6,o7,o8,o9,oa,ob⟩:=zbz W6;have X9:=(Z8 Yd);have Yv:=(Z8 W6);have HB5:=Z9 (HVW.out.trans (HC5.out.mono HVW.out.size));clear Wh W6 hsl Yd;go_wp2_with fail;refine HSA2.out.mono ?_;rintro e w5 ⟨rfl,Y9⟩;have HB6:=Z9 (HB5.out.trans (Y9.mono HB5.out.size));clear Y9 c0 c1 c2 c3 c4 c5 c6 c7 c8 c9 ca cb o0 o1 o2 o3 o4 o5 o6 o7 o8 o9 oa ob X9 Yv;go_wp2_with fail;refine(VB.out _ HB6.out).mono ?_;rintro e w6 ⟨rfl,XA⟩;have HB7:=Z9 (HB6.out.trans (XA.mono HB6.out.size));clear XA;go_wp2_with fail;refine(HW4.out _ HB7.out).mono ?_;rintro e w7 ⟨rfl,hb7⟩
  have HB8:=Z9 (HB7.out.trans (hb7.mono HB7.out.size));clear hb7;go_wp2_with fail;refine(Tf.out _ HB8.out).mono ?_;rintro e w8 ⟨rfl,VH⟩;have HF:=Z9 (HB8.out.trans (VH.mono HB8.out.size));clear VH;go_wp2_with fail;go_ret;exact⟨rfl,HF.out⟩
theorem z8p:∃d,CSm d shC1:=by
 refine⟨4,?_⟩;simp[CSm,SmX,shC1,Ct.name,Ct.frm,Ct.too,Ct.dates,Ct.expr,Ct.sub,zib];simp[shE1,Ex.name,Ex.rat,Ex.sub];decide
theorem z8o:∃d,CSm d shC2:=by
 refine⟨4,?_⟩;simp[CSm,SmX,shC2,shZ,shP,Ct.name,Ct.frm,Ct.too,Ct.dates,Ct.expr,Ct.sub,zia,zee];simp[shE2,tX0,Ex.name,Ex.rat,Ex.sub];decide
theorem zxh:shC1.size≤1000:=by unfold shC1;rw[zd4,zib];decide
theorem zxf:shC2.size≤1000:=by unfold shC2 shZ shP;simp only[zd4,List.map_cons,List.map_nil,List.sum_cons,List.sum_nil,zee,zia];decide
theorem zxv{Wg:World}(hs:zb6 Wg)(hp:zcr Wg){s:ByteArray}{X:Ct}{I:Int}(VT:s.size≤20000)(ho:zb2 s=(some X,I,0))(W:World)(hb:Below Wg.heap.size Wg W):Calls Tryz.prog 32 #[.string s] W (RdLt X I W):=by
 refine(zff s W Wg VT hp hs hb).mono fun e u h => ?_
 rw[ho]at h;obtain⟨n,ea,el,ec,da,dl,dc,a,l,k,h1,h2,h3⟩:=zft h;exact⟨n,ea,el,ec,da,dl,dc,a,l,k,h1,h2,h3⟩
theorem zsb{Wg:World}(hs:zb6 Wg)(hp:zcr Wg)(w:World)(hb:Below Wg.heap.size Wg w):Calls Tryz.prog 29 #[] w (BelB w true) :=
 z6i w
  (Z9 (fun W hW=>zxv hs hp (by decide) z9e W (hb.trans (hW.mono hb.size))))
  (Z9 (fun W hW=>zxv hs hp (by decide) z9d W (hb.trans (hW.mono hb.size))))
  (Z9 (fun n cs1 cs2 W h1 h2=>zgt n shC1 cs1 cs2 W h1 h2 zxh z8p))
  (Z9 (fun n cs1 cs2 W h1 h2=>zgt n shC2 cs1 cs2 W h1 h2 zxf z8o))
  (Z9 (fun W hW=>zqj hs hp _ 0 (by decide) z9c W (hb.trans (hW.mono hb.size))))
  (Z9 (fun W hW=>zqj hs hp _ 13 (by decide) z9b W (hb.trans (hW.mono hb.size))))
  (Z9 (fun W hW=>zqj hs hp _ 23 (by decide) z9a W (hb.trans (hW.mono hb.size))))
section
variable {a b c:List UInt8} {za zb zc:List Tk} {x y z:Ex}
end
end Go.Proofs.YtkobkpepgdddeaaGreatDoor
