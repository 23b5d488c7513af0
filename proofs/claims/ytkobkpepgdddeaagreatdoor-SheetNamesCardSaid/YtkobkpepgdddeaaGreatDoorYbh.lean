/-
  Keywords: the reference's Words and Keyword walked. No condition.
-/
import Derived.Test.YtkobkpepgdddeaaGreatDoorYaa
import Derived.Test.YtkobkpepgdddeaaGreatDoorYah
import Derived.Test.YtkobkpepgdddeaaGreatDoorYal
import Derived.Test.YtkobkpepgdddeaaGreatDoorYba
import Derived.Test.YtkobkpepgdddeaaGreatDoorYbb
import Derived.Test.YtkobkpepgdddeaaGreatDoorYat
import Derived.Test.YtkobkpepgdddeaaGreatDoorYbc
import Derived.Deep.DeepCutAuto
namespace Go.Proofs.YtkobkpepgdddeaaGreatDoor
open Go.RowKit
set_option maxHeartbeats 16000000
set_option maxRecDepth 100000
def kwS(k:Nat):ByteArray:=⟨(kwL[k]?.getD []).toArray⟩
def kwO:Array Value:=((List.range 22).map fun k=>Value.string (kwS k)).toArray
theorem ygp(w:World):Calls Tryz.prog 33 #[] w fun e w'=>e=.returned (.slice (some ⟨w.heap.size,0,none⟩) 22 22)∧w'=w.alloc (.cells kwO 9):=by
 go_enter Tryz.func33,Tryz.ntmps33;go_wp2_with fail;go_ret;exact⟨rfl,rfl⟩
theorem yg0(w:World)(k:Nat)(hk:k<22):(w.alloc (.cells kwO 9)).cell? ⟨w.heap.size,k,none⟩=some (.string (kwS k)):=by
 have h:(w.alloc (.cells kwO 9)).heap[w.heap.size]?=some (.cells kwO 9):=by show(w.heap.push _)[w.heap.size]?=_;simp
 rw[zbf h k];unfold kwO;simp[hk]
theorem yiq{s:ByteArray}{k:Nat}(hk:k<22)(h:kwS k=s):kwB s.data.toList=true:=by
 subst h
 have:kwL[k]?.getD [] ∈ kwL:=by
  rw[List.getElem?_eq_getElem (show k<kwL.length from hk)];exact List.getElem_mem _
 exact decide_eq_true this
open Go.Shelf
def P3(W:World)(n d:ByteArray)(f:Int)(e:Ending)(w':World):Prop:=e=.returned (.tuple #[.string n,.string d,.int .i64 f])∧Below W.heap.size W w'
theorem yg6{s:ByteArray}{l:List UInt8}{ts:List Tk}{x:Ct}{t:Tk}{r:List Tk}(hs:s.data.toList=l)(hl:lexL 0 l=.yes ts)(hr:rdC 20001 ts=.ok x (t :: r)):zb2 s=(none,t.place,12):=by
 unfold zb2;rw[hs,hl];dsimp only;rw[hr]
theorem yg3:zhr false [51] 0 []=[51]:=by
 unfold zhr
 show ratT (ratN (((3:Nat):Int)) ((1:Nat):Int)) (ratD (((3:Nat):Int)) ((1:Nat):Int))=_
 rw[show ratN (((3:Nat):Int)) ((1:Nat):Int)=3 from by decide,show ratD (((3:Nat):Int)) ((1:Nat):Int)=1 from by decide];unfold ratT;rw[if_pos rfl,zql (l:=[51]) (by decide)]
theorem yil:zhr false [52] 0 []=[52]:=by
 unfold zhr
 show ratT (ratN (((4:Nat):Int)) ((1:Nat):Int)) (ratD (((4:Nat):Int)) ((1:Nat):Int))=_
 rw[show ratN (((4:Nat):Int)) ((1:Nat):Int)=4 from by decide,show ratD (((4:Nat):Int)) ((1:Nat):Int)=1 from by decide];unfold ratT;rw[if_pos rfl,zql (l:=[52]) (by decide)]
theorem yg7:zhr true [49] 0 []=[45,49]:=by
 unfold zhr
 show ratT (ratN (-((((1:Nat)):Int))) ((1:Nat):Int)) (ratD (-((((1:Nat)):Int))) ((1:Nat):Int))=_
 rw[show ratN (-((((1:Nat)):Int))) ((1:Nat):Int)=(-1)from by decide,show ratD (-((((1:Nat)):Int))) ((1:Nat):Int)=1 from by decide];unfold ratT;rw[if_pos rfl,zql (l:=[45,49]) (by decide)]
theorem yik:zhr false [53] 0 []=[53]:=by
 unfold zhr
 show ratT (ratN (((5:Nat):Int)) ((1:Nat):Int)) (ratD (((5:Nat):Int)) ((1:Nat):Int))=_
 rw[show ratN (((5:Nat):Int)) ((1:Nat):Int)=5 from by decide,show ratD (((5:Nat):Int)) ((1:Nat):Int)=1 from by decide];unfold ratT;rw[if_pos rfl,zql (l:=[53]) (by decide)]
def ne1:List UInt8:=[49,32,45,32,50,32,45,32,51,32,42,32,52,32,43,32,88,64,49,57,48,48,45,48,49,45,48,50]
def ne1T:List Tk:=[numT [49] 0,mrkT [45] 2,numT [50] 4,mrkT [45] 6,numT [51] 8,mrkT [42] 10,numT [52] 12,mrkT [43] 14,wrdT [88] 16,mrkT [64] 17,dayT 1 18]
theorem yh0:lexL 0 ne1=.yes ne1T:=by
 refine zbe 0 1 (numT [49] 0) (.yes _) rfl (by decide) ?_ ?_
 ·rw[←zxy];rfl
 refine zbe 1 1 (mrkT [45] 0) (.yes _) rfl (by decide) rfl ?_;refine zbe 1 1 (numT [50] 0) (.yes _) rfl (by decide) ?_ ?_
 ·rw[←yby];rfl
 refine zbe 1 1 (mrkT [45] 0) (.yes _) rfl (by decide) rfl ?_;refine zbe 1 1 (numT [51] 0) (.yes _) rfl (by decide) ?_ ?_
 ·rw[←yg3];rfl
 refine zbe 1 1 (mrkT [42] 0) (.yes _) rfl (by decide) rfl ?_;refine zbe 1 1 (numT [52] 0) (.yes _) rfl (by decide) ?_ ?_
 ·rw[←yil];rfl
 refine zbe 1 1 (mrkT [43] 0) (.yes _) rfl (by decide) rfl ?_;refine zbe 1 1 (wrdT [88] 0) (.yes _) rfl (by decide) rfl ?_;refine zbe 0 1 (mrkT [64] 0) (.yes _) rfl (by decide) rfl ?_;refine zbe 0 10 (dayT 1 0) (.yes _) rfl (by decide) rfl ?_;exact zbc rfl
def ne2:List UInt8:=[110,111,116,40,108,101,115,115,40,49,44,32,45,49,41,41]
def ne2T:List Tk:=[wrdT [110,111,116] 0,mrkT [40] 3,wrdT [108,101,115,115] 4,mrkT [40] 8,numT [49] 9,mrkT [44] 10,numT [45,49] 12,mrkT [41] 14,mrkT [41] 15]
theorem yhz:lexL 0 ne2=.yes ne2T:=by
 refine zbe 0 3 (wrdT [110,111,116] 0) (.yes _) rfl (by decide) rfl ?_;refine zbe 0 1 (mrkT [40] 0) (.yes _) rfl (by decide) rfl ?_;refine zbe 0 4 (wrdT [108,101,115,115] 0) (.yes _) rfl (by decide) rfl ?_;refine zbe 0 1 (mrkT [40] 0) (.yes _) rfl (by decide) rfl ?_;refine zbe 0 1 (numT [49] 0) (.yes _) rfl (by decide) ?_ ?_
 ·rw[←zxy];rfl
 refine zbe 0 1 (mrkT [44] 0) (.yes _) rfl (by decide) rfl ?_;refine zbe 1 2 (numT [45,49] 0) (.yes _) rfl (by decide) ?_ ?_
 ·rw[←yg7];rfl
 refine zbe 0 1 (mrkT [41] 0) (.yes _) rfl (by decide) rfl ?_;refine zbe 0 1 (mrkT [41] 0) (.yes _) rfl (by decide) rfl ?_;exact zbc rfl
def ne3:List UInt8:=[109,97,120,40,49,44,32,50]
def ne3T:List Tk:=[wrdT [109,97,120] 0,mrkT [40] 3,numT [49] 4,mrkT [44] 5,numT [50] 7]
theorem yhy:lexL 0 ne3=.yes ne3T:=by
 refine zbe 0 3 (wrdT [109,97,120] 0) (.yes _) rfl (by decide) rfl ?_;refine zbe 0 1 (mrkT [40] 0) (.yes _) rfl (by decide) rfl ?_;refine zbe 0 1 (numT [49] 0) (.yes _) rfl (by decide) ?_ ?_
 ·rw[←zxy];rfl
 refine zbe 0 1 (mrkT [44] 0) (.yes _) rfl (by decide) rfl ?_;refine zbe 1 1 (numT [50] 0) (.yes _) rfl (by decide) ?_ ?_
 ·rw[←yby];rfl
 exact zbc rfl
def ne4:List UInt8:=[49,32,43,32,108,101,115,115,40,49,44,32,50,41]
def ne4T:List Tk:=[numT [49] 0,mrkT [43] 2,wrdT [108,101,115,115] 4,mrkT [40] 8,numT [49] 9,mrkT [44] 10,numT [50] 12,mrkT [41] 13]
theorem yhx:lexL 0 ne4=.yes ne4T:=by
 refine zbe 0 1 (numT [49] 0) (.yes _) rfl (by decide) ?_ ?_
 ·rw[←zxy];rfl
 refine zbe 1 1 (mrkT [43] 0) (.yes _) rfl (by decide) rfl ?_;refine zbe 1 4 (wrdT [108,101,115,115] 0) (.yes _) rfl (by decide) rfl ?_;refine zbe 0 1 (mrkT [40] 0) (.yes _) rfl (by decide) rfl ?_;refine zbe 0 1 (numT [49] 0) (.yes _) rfl (by decide) ?_ ?_
 ·rw[←zxy];rfl
 refine zbe 0 1 (mrkT [44] 0) (.yes _) rfl (by decide) rfl ?_;refine zbe 1 1 (numT [50] 0) (.yes _) rfl (by decide) ?_ ?_
 ·rw[←yby];rfl
 refine zbe 0 1 (mrkT [41] 0) (.yes _) rfl (by decide) rfl ?_;exact zbc rfl
def ne5:List UInt8:=[99,97,115,101,40,49,44,32,50,44,32,51,41]
def ne5T:List Tk:=[wrdT [99,97,115,101] 0,mrkT [40] 4,numT [49] 5,mrkT [44] 6,numT [50] 8,mrkT [44] 9,numT [51] 11,mrkT [41] 12]
theorem yhw:lexL 0 ne5=.yes ne5T:=by
 refine zbe 0 4 (wrdT [99,97,115,101] 0) (.yes _) rfl (by decide) rfl ?_;refine zbe 0 1 (mrkT [40] 0) (.yes _) rfl (by decide) rfl ?_;refine zbe 0 1 (numT [49] 0) (.yes _) rfl (by decide) ?_ ?_
 ·rw[←zxy];rfl
 refine zbe 0 1 (mrkT [44] 0) (.yes _) rfl (by decide) rfl ?_;refine zbe 1 1 (numT [50] 0) (.yes _) rfl (by decide) ?_ ?_
 ·rw[←yby];rfl
 refine zbe 0 1 (mrkT [44] 0) (.yes _) rfl (by decide) rfl ?_;refine zbe 1 1 (numT [51] 0) (.yes _) rfl (by decide) ?_ ?_
 ·rw[←yg3];rfl
 refine zbe 0 1 (mrkT [41] 0) (.yes _) rfl (by decide) rfl ?_;exact zbc rfl
def nc1:List UInt8:=[117,110,116,105,108,32,101,113,117,97,108,40,88,64,110,111,119,44,32,49,41,32,111,110,32,49,57,48,48,45,48,49,45,48,49,44,32,49,57,48,48,45,48,49,45,48,51,32,123,32,99,97,108,108,32,110,32,98,121,32,65,32,111,110,32,49,57,48,48,45,48,49,45,48,50,32,123,32,110,111,116,104,105,110,103,32,125,32,125]
def nc1T:List Tk:=[wrdT [117,110,116,105,108] 0,wrdT [101,113,117,97,108] 6,mrkT [40] 11,wrdT [88] 12,mrkT [64] 13,wrdT [110,111,119] 14,mrkT [44] 17,numT [49] 19,mrkT [41] 20,wrdT [111,110] 22,dayT 0 25,mrkT [44] 35,dayT 2 37,mrkT [123] 48,wrdT [99,97,108,108] 50,wrdT [110] 55,wrdT [98,121] 57,wrdT [65] 60,wrdT [111,110] 62,dayT 1 65,mrkT [123] 76,wrdT [110,111,116,104,105,110,103] 78,mrkT [125] 86,mrkT [125] 88]
theorem yh1:lexL 0 nc1=.yes nc1T:=by
 refine zbe 0 5 (wrdT [117,110,116,105,108] 0) (.yes _) rfl (by decide) rfl ?_;refine zbe 1 5 (wrdT [101,113,117,97,108] 0) (.yes _) rfl (by decide) rfl ?_;refine zbe 0 1 (mrkT [40] 0) (.yes _) rfl (by decide) rfl ?_;refine zbe 0 1 (wrdT [88] 0) (.yes _) rfl (by decide) rfl ?_;refine zbe 0 1 (mrkT [64] 0) (.yes _) rfl (by decide) rfl ?_;refine zbe 0 3 (wrdT [110,111,119] 0) (.yes _) rfl (by decide) rfl ?_;refine zbe 0 1 (mrkT [44] 0) (.yes _) rfl (by decide) rfl ?_;refine zbe 1 1 (numT [49] 0) (.yes _) rfl (by decide) ?_ ?_
 ·rw[←zxy];rfl
 refine zbe 0 1 (mrkT [41] 0) (.yes _) rfl (by decide) rfl ?_;refine zbe 1 2 (wrdT [111,110] 0) (.yes _) rfl (by decide) rfl ?_;refine zbe 1 10 (dayT 0 0) (.yes _) rfl (by decide) rfl ?_;refine zbe 0 1 (mrkT [44] 0) (.yes _) rfl (by decide) rfl ?_;refine zbe 1 10 (dayT 2 0) (.yes _) rfl (by decide) rfl ?_;refine zbe 1 1 (mrkT [123] 0) (.yes _) rfl (by decide) rfl ?_;refine zbe 1 4 (wrdT [99,97,108,108] 0) (.yes _) rfl (by decide) rfl ?_;refine zbe 1 1 (wrdT [110] 0) (.yes _) rfl (by decide) rfl ?_;refine zbe 1 2 (wrdT [98,121] 0) (.yes _) rfl (by decide) rfl ?_;refine zbe 1 1 (wrdT [65] 0) (.yes _) rfl (by decide) rfl ?_
 refine zbe 1 2 (wrdT [111,110] 0) (.yes _) rfl (by decide) rfl ?_;refine zbe 1 10 (dayT 1 0) (.yes _) rfl (by decide) rfl ?_;refine zbe 1 1 (mrkT [123] 0) (.yes _) rfl (by decide) rfl ?_;refine zbe 1 7 (wrdT [110,111,116,104,105,110,103] 0) (.yes _) rfl (by decide) rfl ?_;refine zbe 1 1 (mrkT [125] 0) (.yes _) rfl (by decide) rfl ?_;refine zbe 1 1 (mrkT [125] 0) (.yes _) rfl (by decide) rfl ?_;exact zbc rfl
def nw1:List UInt8:=[]
def nw1T:List Tk:=[]
theorem yhv:lexL 0 nw1=.yes nw1T:=by
 exact zbc rfl
def nw2:List UInt8:=[110,111,116,104,105,110,103,32,110,111,116,104,105,110,103]
def nw2T:List Tk:=[wrdT [110,111,116,104,105,110,103] 0,wrdT [110,111,116,104,105,110,103] 8]
theorem yhu:lexL 0 nw2=.yes nw2T:=by
 refine zbe 0 7 (wrdT [110,111,116,104,105,110,103] 0) (.yes _) rfl (by decide) rfl ?_;refine zbe 1 7 (wrdT [110,111,116,104,105,110,103] 0) (.yes _) rfl (by decide) rfl ?_;exact zbc rfl
def nw3:List UInt8:=[65,32,112,97,121,115,32,49,32,116,111,32,66]
def nw3T:List Tk:=[wrdT [65] 0,wrdT [112,97,121,115] 2,numT [49] 7,wrdT [116,111] 9,wrdT [66] 12]
theorem yht:lexL 0 nw3=.yes nw3T:=by
 refine zbe 0 1 (wrdT [65] 0) (.yes _) rfl (by decide) rfl ?_;refine zbe 1 4 (wrdT [112,97,121,115] 0) (.yes _) rfl (by decide) rfl ?_;refine zbe 1 1 (numT [49] 0) (.yes _) rfl (by decide) ?_ ?_
 ·rw[←zxy];rfl
 refine zbe 1 2 (wrdT [116,111] 0) (.yes _) rfl (by decide) rfl ?_;refine zbe 1 1 (wrdT [66] 0) (.yes _) rfl (by decide) rfl ?_;exact zbc rfl
def nw4:List UInt8:=[65,32,112,97,121,115,32,88,32,69,85,82,32,116,111,32,66]
def nw4T:List Tk:=[wrdT [65] 0,wrdT [112,97,121,115] 2,wrdT [88] 7,wrdT [69,85,82] 9,wrdT [116,111] 13,wrdT [66] 16]
theorem yhs:lexL 0 nw4=.yes nw4T:=by
 refine zbe 0 1 (wrdT [65] 0) (.yes _) rfl (by decide) rfl ?_;refine zbe 1 4 (wrdT [112,97,121,115] 0) (.yes _) rfl (by decide) rfl ?_;refine zbe 1 1 (wrdT [88] 0) (.yes _) rfl (by decide) rfl ?_;refine zbe 1 3 (wrdT [69,85,82] 0) (.yes _) rfl (by decide) rfl ?_;refine zbe 1 2 (wrdT [116,111] 0) (.yes _) rfl (by decide) rfl ?_;refine zbe 1 1 (wrdT [66] 0) (.yes _) rfl (by decide) rfl ?_;exact zbc rfl
def nw5:List UInt8:=[111,110,32,53,32,123,32,110,111,116,104,105,110,103,32,125]
def nw5T:List Tk:=[wrdT [111,110] 0,numT [53] 3,mrkT [123] 5,wrdT [110,111,116,104,105,110,103] 7,mrkT [125] 15]
theorem yhr:lexL 0 nw5=.yes nw5T:=by
 refine zbe 0 2 (wrdT [111,110] 0) (.yes _) rfl (by decide) rfl ?_;refine zbe 1 1 (numT [53] 0) (.yes _) rfl (by decide) ?_ ?_
 ·rw[←yik];rfl
 refine zbe 1 1 (mrkT [123] 0) (.yes _) rfl (by decide) rfl ?_;refine zbe 1 7 (wrdT [110,111,116,104,105,110,103] 0) (.yes _) rfl (by decide) rfl ?_;refine zbe 1 1 (mrkT [125] 0) (.yes _) rfl (by decide) rfl ?_;exact zbc rfl
def nw6:List UInt8:=[105,102,32,49,32,123,32,110,111,116,104,105,110,103,32,125,32,101,108,115,101,32,123,32,110,111,116,104,105,110,103,32,125]
def nw6T:List Tk:=[wrdT [105,102] 0,numT [49] 3,mrkT [123] 5,wrdT [110,111,116,104,105,110,103] 7,mrkT [125] 15,wrdT [101,108,115,101] 17,mrkT [123] 22,wrdT [110,111,116,104,105,110,103] 24,mrkT [125] 32]
theorem yhq:lexL 0 nw6=.yes nw6T:=by
 refine zbe 0 2 (wrdT [105,102] 0) (.yes _) rfl (by decide) rfl ?_;refine zbe 1 1 (numT [49] 0) (.yes _) rfl (by decide) ?_ ?_
 ·rw[←zxy];rfl
 refine zbe 1 1 (mrkT [123] 0) (.yes _) rfl (by decide) rfl ?_;refine zbe 1 7 (wrdT [110,111,116,104,105,110,103] 0) (.yes _) rfl (by decide) rfl ?_;refine zbe 1 1 (mrkT [125] 0) (.yes _) rfl (by decide) rfl ?_;refine zbe 1 4 (wrdT [101,108,115,101] 0) (.yes _) rfl (by decide) rfl ?_;refine zbe 1 1 (mrkT [123] 0) (.yes _) rfl (by decide) rfl ?_;refine zbe 1 7 (wrdT [110,111,116,104,105,110,103] 0) (.yes _) rfl (by decide) rfl ?_;refine zbe 1 1 (mrkT [125] 0) (.yes _) rfl (by decide) rfl ?_;exact zbc rfl
def nw7:List UInt8:=[98,111,116,104,32,123,32,110,111,116,104,105,110,103,32,59,32,110,111,116,104,105,110,103,32,59,32,110,111,116,104,105,110,103,32,125]
def nw7T:List Tk:=[wrdT [98,111,116,104] 0,mrkT [123] 5,wrdT [110,111,116,104,105,110,103] 7,mrkT [59] 15,wrdT [110,111,116,104,105,110,103] 17,mrkT [59] 25,wrdT [110,111,116,104,105,110,103] 27,mrkT [125] 35]
theorem yhp:lexL 0 nw7=.yes nw7T:=by
 refine zbe 0 4 (wrdT [98,111,116,104] 0) (.yes _) rfl (by decide) rfl ?_;refine zbe 1 1 (mrkT [123] 0) (.yes _) rfl (by decide) rfl ?_;refine zbe 1 7 (wrdT [110,111,116,104,105,110,103] 0) (.yes _) rfl (by decide) rfl ?_;refine zbe 1 1 (mrkT [59] 0) (.yes _) rfl (by decide) rfl ?_;refine zbe 1 7 (wrdT [110,111,116,104,105,110,103] 0) (.yes _) rfl (by decide) rfl ?_;refine zbe 1 1 (mrkT [59] 0) (.yes _) rfl (by decide) rfl ?_;refine zbe 1 7 (wrdT [110,111,116,104,105,110,103] 0) (.yes _) rfl (by decide) rfl ?_;refine zbe 1 1 (mrkT [125] 0) (.yes _) rfl (by decide) rfl ?_;exact zbc rfl
def nw8:List UInt8:=[65,32,112,97,121,115,32,40,49,32,69,85,82,32,116,111,32,66]
def nw8T:List Tk:=[wrdT [65] 0,wrdT [112,97,121,115] 2,mrkT [40] 7,numT [49] 8,wrdT [69,85,82] 10,wrdT [116,111] 14,wrdT [66] 17]
theorem yho:lexL 0 nw8=.yes nw8T:=by
 refine zbe 0 1 (wrdT [65] 0) (.yes _) rfl (by decide) rfl ?_;refine zbe 1 4 (wrdT [112,97,121,115] 0) (.yes _) rfl (by decide) rfl ?_;refine zbe 1 1 (mrkT [40] 0) (.yes _) rfl (by decide) rfl ?_;refine zbe 0 1 (numT [49] 0) (.yes _) rfl (by decide) ?_ ?_
 ·rw[←zxy];rfl
 refine zbe 1 3 (wrdT [69,85,82] 0) (.yes _) rfl (by decide) rfl ?_;refine zbe 1 2 (wrdT [116,111] 0) (.yes _) rfl (by decide) rfl ?_;refine zbe 1 1 (wrdT [66] 0) (.yes _) rfl (by decide) rfl ?_;exact zbc rfl
def nmE1:Ex:=.mk 4 tE0 tE0 0 [.mk 5 tE0 tE0 0 [.mk 5 tE0 tE0 0 [.mk 1 ⟨#[49]⟩ tE0 0 [],.mk 1 ⟨#[50]⟩ tE0 0 []],.mk 6 tE0 tE0 0 [.mk 1 ⟨#[51]⟩ tE0 0 [],.mk 1 ⟨#[52]⟩ tE0 0 []]],.mk 2 tE0 ⟨#[88]⟩ 1 []]
def nmE2:Ex:=.mk 15 tE0 tE0 0 [.mk 11 tE0 tE0 0 [.mk 1 ⟨#[49]⟩ tE0 0 [],.mk 1 ⟨#[45,49]⟩ tE0 0 []]]
def nmE3:Ex:=.mk 12 tE0 tE0 0 [.mk 3 tE0 ⟨#[88]⟩ 0 [],.mk 1 ⟨#[49]⟩ tE0 0 []]
def nmK:Ct:=.mk 8 ⟨#[65]⟩ tE0 ⟨#[110]⟩ tX0 0 [1] [shZ]
def nmC:Ct:=.mk 9 tE0 tE0 tE0 nmE3 0 [0,2] [nmK]
theorem yii:zb5 20001 ne1T=.ok nmE1 []:=by rw[show zb5 20001 ne1T=rdE 20001 true ne1T from if_neg (by decide),zku 20001 40 _ _ (by decide) (by decide)];kernel_rfl
theorem yih:zb5 20001 ne2T=.ok nmE2 []:=by rw[show zb5 20001 ne2T=rdE 20001 false ne2T from if_pos (by decide),zku 20001 40 _ _ (by decide) (by decide)];kernel_rfl
theorem yig:zb5 20001 ne3T=.no []:=by rw[show zb5 20001 ne3T=rdE 20001 true ne3T from if_neg (by decide),zku 20001 40 _ _ (by decide) (by decide)];kernel_rfl
theorem yif:zb5 20001 ne4T=.no (ne4T.drop 2):=by rw[show zb5 20001 ne4T=rdE 20001 true ne4T from if_neg (by decide),zku 20001 40 _ _ (by decide) (by decide)];kernel_rfl
theorem yie:zb5 20001 ne5T=.no (ne5T.drop 2):=by rw[show zb5 20001 ne5T=rdE 20001 true ne5T from if_neg (by decide),zku 20001 40 _ _ (by decide) (by decide)];kernel_rfl
theorem yij:rdC 20001 nc1T=.ok nmC []:=by rw[zhq 20001 40 _ (by decide) (by decide)];kernel_rfl
theorem yid:rdC 20001 nw1T=.no []:=by rw[zhq 20001 40 _ (by decide) (by decide)];kernel_rfl
theorem yic:rdC 20001 nw2T=.ok shZ (nw2T.drop 1):=by rw[zhq 20001 40 _ (by decide) (by decide)];kernel_rfl
theorem yib:rdC 20001 nw3T=.no (nw3T.drop 3):=by rw[zhq 20001 40 _ (by decide) (by decide)];kernel_rfl
theorem yia:rdC 20001 nw4T=.no (nw4T.drop 3):=by rw[zhq 20001 40 _ (by decide) (by decide)];kernel_rfl
theorem yh9:rdC 20001 nw5T=.no (nw5T.drop 1):=by rw[zhq 20001 40 _ (by decide) (by decide)];kernel_rfl
theorem yh8:rdC 20001 nw6T=.no (nw6T.drop 1):=by rw[zhq 20001 40 _ (by decide) (by decide)];kernel_rfl
theorem yh7:rdC 20001 nw7T=.no (nw7T.drop 5):=by rw[zhq 20001 40 _ (by decide) (by decide)];kernel_rfl
theorem yh6:rdC 20001 nw8T=.no (nw8T.drop 4):=by rw[zhq 20001 40 _ (by decide) (by decide)];kernel_rfl
theorem yg2{s:ByteArray}{l:List UInt8}{ts:List Tk}{x:Ex}(hs:s.data.toList=l)(hl:lexL 0 l=.yes ts)(hr:zb5 20001 ts=.ok x [])(hc:chkX x=0):zf9 s=(some x,(s.size:Int),0):=by
 unfold zf9;rw[hs,hl];dsimp only;rw[hr];dsimp only;rw[if_pos hc]
theorem yh5{s:ByteArray}{l:List UInt8}{ts:List Tk}{t:Tk}{r:List Tk}(hs:s.data.toList=l)(hl:lexL 0 l=.yes ts)(hr:zb5 20001 ts=.no (t :: r)):zf9 s=(none,t.place,12):=by
 unfold zf9;rw[hs,hl];dsimp only;rw[hr]
theorem yh4{s:ByteArray}{l:List UInt8}{ts:List Tk}(hs:s.data.toList=l)(hl:lexL 0 l=.yes ts)(hr:zb5 20001 ts=.no []):zf9 s=(none,(s.size:Int),12):=by
 unfold zf9;rw[hs,hl];dsimp only;rw[hr]
theorem ygo{l:List UInt8}(h:l=[51]∨l=[52]):chkR l=0:=by
 rcases h with rfl |rfl
 all_goals
  rw[zj4 (by decide)];unfold chkZ;rw[if_neg (by decide),zir ⟨by decide,by decide,by decide⟩];rfl
theorem yh2:chkR [45,49]=0:=by
 rw[zj4 (by decide)];unfold chkZ;rw[if_pos (by decide),if_neg (by decide)]
 show chkN [49]=0
 rw[zir ⟨by decide,by decide,by decide⟩];rfl
theorem yg5{s:ByteArray}{d:Int}(h:nmB s.data.toList=true)(h0:0≤d)(h1:d≤99999):(Ex.mk 2 tE0 s d []).srt=1:=by
 rw[Ex.srt_is]
 show zel 2 tE0 s d=1
 unfold zel;rw[if_neg (by decide),if_pos rfl,if_pos ⟨by decide,h,h0,h1⟩]
theorem ygs{k:Int}{x y:Ex}(hk:shpL k=some ([1,1],2))(hx:x.srt=1)(hy:y.srt=1):(Ex.mk k tE0 tE0 0 [x,y]).srt=2:=by
 rw[Ex.srt_is]
 show srtP k tE0 tE0 0 [x.srt,y.srt]=2
 rw[hx,hy];unfold srtP;rw[hk];exact if_pos ⟨by decide,rfl⟩
theorem yg4{x:Ex}(hx:x.srt=2):(Ex.mk 15 tE0 tE0 0 [x]).srt=2:=by
 rw[Ex.srt_is]
 show srtP 15 tE0 tE0 0 [x.srt]=2
 rw[hx];unfold srtP;rw[show shpL 15=some ([2],2)from rfl];exact if_pos ⟨by decide,rfl⟩
theorem nc_1:(Ex.mk 1 ⟨#[49]⟩ tE0 0 []).srt=1:=z8k (zn4 (.inr (.inl rfl)))
theorem ygw:nmE1.srt=1:=zxa rfl (zxa rfl (zxa rfl nc_1 (z8k (zn4 (.inl rfl)))) (zxa rfl (z8k (ygo (.inl rfl))) (z8k (ygo (.inr rfl))))) (yg5 (by decide) (by decide) (by decide))
theorem ygl:nmE1.size=9:=by simp[nmE1,Ex.size_is,Ex.sub]
theorem ygr:nmE1.depth=4:=by simp[nmE1,Ex.depth_is,Ex.sub,maxD]
theorem ygv:nmE2.srt=2:=yg4 (ygs rfl nc_1 (z8k yh2))
theorem ygk:nmE2.size=4:=by simp[nmE2,Ex.size_is,Ex.sub]
theorem ygq:nmE2.depth=3:=by simp[nmE2,Ex.depth_is,Ex.sub,maxD]
theorem ygu:nmE3.srt=2:=ygs rfl (z8j (by decide)) nc_1
theorem ygh:nmE3.size=3:=by simp[nmE3,Ex.size_is,Ex.sub]
theorem ygj:nmE3.depth=2:=by simp[nmE3,Ex.depth_is,Ex.sub,maxD]
theorem ygn{x:Ex}(h1:x.srt=1∨x.srt=2)(h2:x.size≤500)(h3:x.depth≤60):chkX x=0:=by
 unfold chkX;rw[if_neg (by omega),if_neg (by omega)]
theorem yh3{x:Ex}(h1:x.srt=2)(h2:x.size≤500)(h3:x.depth≤60):truX x=true:=by
 unfold truX;rw[ygn (.inr h1) h2 h3,h1];decide
theorem ygt:ze6 nmK=true:=by
 rw[zil]
 show(([shZ].all ze6) && zdf nmK)=true
 rw[List.all_cons,z2h];unfold zdf zjk;simp only[nmK,Ct.kind,Ct.frm,Ct.too,Ct.name,Ct.expr,Ct.date,Ct.dates,Ct.sub,zag,zso];decide
theorem ygy:ze6 nmC=true:=by
 rw[zil]
 show(([nmK].all ze6) && zdf nmC)=true
 rw[List.all_cons,ygt];unfold zdf zjk;simp only[nmC,Ct.kind,Ct.frm,Ct.too,Ct.name,Ct.expr,Ct.date,Ct.dates,Ct.sub,zag,yh3 ygu (by rw[ygh];decide) (by rw[ygj];decide)];decide
theorem yhm:nmK.csz≤4∧nmK.cdp≤3:=by
 have h1:=zts 8 ⟨#[65]⟩ tE0 ⟨#[110]⟩ tX0 0 [1] [shZ];have h2:=ztw 8 ⟨#[65]⟩ tE0 ⟨#[110]⟩ tX0 0 [1] [shZ];have h3:=shZ_few;rw[zee]at h1;rw[zoo]at h2
 have h4:maxC [shZ]≤2:=zy8 fun y hy=>by
  simp only[List.mem_cons,List.not_mem_nil,or_false]at hy;subst hy;exact h3.2
 have h5:nmK.csz≤1+1+(shZ.csz+0):=h1;have h6:nmK.cdp≤1+max 1 (maxC [shZ]):=h2;omega
theorem yhn:chkC nmC=0:=by
 have h1:=zts 9 tE0 tE0 tE0 nmE3 0 [0,2] [nmK];have h2:=ztw 9 tE0 tE0 tE0 nmE3 0 [0,2] [nmK];have h3:=yhm;rw[ygh]at h1;rw[ygj]at h2
 have h4:maxC [nmK]≤3:=zy8 fun y hy=>by
  simp only[List.mem_cons,List.not_mem_nil,or_false]at hy;subst hy;exact h3.2
 have h5:nmC.csz≤1+3+(nmK.csz+0):=h1;have h6:nmC.cdp≤1+max 2 (maxC [nmK]):=h2;exact z7k (by omega) (by omega) ygy
theorem yhk:zf9 ⟨#[49,32,45,32,50,32,45,32,51,32,42,32,52,32,43,32,88,64,49,57,48,48,45,48,49,45,48,50]⟩=(some nmE1,28,0):=yg2 (s:=⟨#[49,32,45,32,50,32,45,32,51,32,42,32,52,32,43,32,88,64,49,57,48,48,45,48,49,45,48,50]⟩) rfl yh0 yii (ygn (.inl ygw) (by rw[ygl];decide) (by rw[ygr];decide))
theorem yhj:zf9 ⟨#[110,111,116,40,108,101,115,115,40,49,44,32,45,49,41,41]⟩=(some nmE2,16,0):=yg2 (s:=⟨#[110,111,116,40,108,101,115,115,40,49,44,32,45,49,41,41]⟩) rfl yhz yih (ygn (.inr ygv) (by rw[ygk];decide) (by rw[ygq];decide))
theorem yhi:zf9 ⟨#[109,97,120,40,49,44,32,50]⟩=(none,8,12):=yh4 (s:=⟨#[109,97,120,40,49,44,32,50]⟩) rfl yhy yig
theorem yhh:zf9 ⟨#[49,32,43,32,108,101,115,115,40,49,44,32,50,41]⟩=(none,4,12):=yh5 (s:=⟨#[49,32,43,32,108,101,115,115,40,49,44,32,50,41]⟩) rfl yhx yif
theorem yhg:zf9 ⟨#[99,97,115,101,40,49,44,32,50,44,32,51,41]⟩=(none,5,12):=yh5 (s:=⟨#[99,97,115,101,40,49,44,32,50,44,32,51,41]⟩) rfl yhw yie
theorem yhl:zb2 ⟨#[117,110,116,105,108,32,101,113,117,97,108,40,88,64,110,111,119,44,32,49,41,32,111,110,32,49,57,48,48,45,48,49,45,48,49,44,32,49,57,48,48,45,48,49,45,48,51,32,123,32,99,97,108,108,32,110,32,98,121,32,65,32,111,110,32,49,57,48,48,45,48,49,45,48,50,32,123,32,110,111,116,104,105,110,103,32,125,32,125]⟩=(some nmC,89,0):=z64 (s:=⟨#[117,110,116,105,108,32,101,113,117,97,108,40,88,64,110,111,119,44,32,49,41,32,111,110,32,49,57,48,48,45,48,49,45,48,49,44,32,49,57,48,48,45,48,49,45,48,51,32,123,32,99,97,108,108,32,110,32,98,121,32,65,32,111,110,32,49,57,48,48,45,48,49,45,48,50,32,123,32,110,111,116,104,105,110,103,32,125,32,125]⟩) rfl yh1 yij yhn
theorem yhf:zb2 ⟨#[]⟩=(none,0,12):=ybw (s:=⟨#[]⟩) rfl yhv yid
theorem yhe:zb2 ⟨#[110,111,116,104,105,110,103,32,110,111,116,104,105,110,103]⟩=(none,8,12):=yg6 (s:=⟨#[110,111,116,104,105,110,103,32,110,111,116,104,105,110,103]⟩) rfl yhu yic
theorem yhd:zb2 ⟨#[65,32,112,97,121,115,32,49,32,116,111,32,66]⟩=(none,9,12):=ybx (s:=⟨#[65,32,112,97,121,115,32,49,32,116,111,32,66]⟩) rfl yht yib
theorem yhc:zb2 ⟨#[65,32,112,97,121,115,32,88,32,69,85,82,32,116,111,32,66]⟩=(none,9,12):=ybx (s:=⟨#[65,32,112,97,121,115,32,88,32,69,85,82,32,116,111,32,66]⟩) rfl yhs yia
theorem yhb:zb2 ⟨#[111,110,32,53,32,123,32,110,111,116,104,105,110,103,32,125]⟩=(none,3,12):=ybx (s:=⟨#[111,110,32,53,32,123,32,110,111,116,104,105,110,103,32,125]⟩) rfl yhr yh9
theorem yha:zb2 ⟨#[105,102,32,49,32,123,32,110,111,116,104,105,110,103,32,125,32,101,108,115,101,32,123,32,110,111,116,104,105,110,103,32,125]⟩=(none,3,12):=ybx (s:=⟨#[105,102,32,49,32,123,32,110,111,116,104,105,110,103,32,125,32,101,108,115,101,32,123,32,110,111,116,104,105,110,103,32,125]⟩) rfl yhq yh8
theorem yg9:zb2 ⟨#[98,111,116,104,32,123,32,110,111,116,104,105,110,103,32,59,32,110,111,116,104,105,110,103,32,59,32,110,111,116,104,105,110,103,32,125]⟩=(none,25,12):=ybx (s:=⟨#[98,111,116,104,32,123,32,110,111,116,104,105,110,103,32,59,32,110,111,116,104,105,110,103,32,59,32,110,111,116,104,105,110,103,32,125]⟩) rfl yhp yh7
theorem yg8:zb2 ⟨#[65,32,112,97,121,115,32,40,49,32,69,85,82,32,116,111,32,66]⟩=(none,10,12):=ybx (s:=⟨#[65,32,112,97,121,115,32,40,49,32,69,85,82,32,116,111,32,66]⟩) rfl yho yh6
def RxLt(X:Ex)(I E:Int)(W:World)(e:Ending)(w':World):Prop :=
 ∃n p q k,e=.returned (.tuple #[.agg #[.int .u8 X.kind,.string X.rat,.string X.name,.int .i64 X.date,.slice p q k],.int .i64 I,.int .i64 E])∧ExAt n w' [.int .u8 X.kind,.string X.rat,.string X.name,.int .i64 X.date,.slice p q k] X∧Below W.heap.size W w'
theorem ygi{Wg:World}(hs:zb6 Wg){s:ByteArray}{o:Option Ex × Int × Int}{X:Ex}(VT:s.size≤20000)(ho:zf9 s=o)(hX:xoX o=X)(W:World)(hb:Below Wg.heap.size Wg W):Calls Tryz.prog 25 #[.string s] W (RxLt X o.2.1 o.2.2 W):=by
 subst ho hX
 refine(zkq s W Wg VT hs hb).mono fun e u h => ?_
 obtain⟨n,p,q,k,h1,h2,h3⟩:=zjt h;exact⟨n,p,q,k,h1,h2,h3⟩
theorem yg1{n:Nat}{w:World}{g:Nat}(k:Int){a:Ex}{a0 a1 a2 a3 a4:Value}(hg:w.heap[g]?=some (.cells #[a0,a1,a2,a3,a4] 25))(ha:ExAt n w [a0,a1,a2,a3,a4] a) :
 ExAt (n+1) w [.int .u8 k,.string ⟨#[]⟩,.string ⟨#[]⟩,.int .i64 0,.slice (some ⟨g,0,none⟩) 1 1] (.mk k tE0 tE0 0 [a]):=by
 refine⟨some ⟨g,0,none⟩,1,1,rfl,rfl,.inr ⟨g,0,rfl,(Z8 hg),fun i hi => ?_⟩⟩;obtain rfl:i=0:=by have:i<1:=hi;omega
 refine⟨_,fun j hj => ?_,ha⟩;rw[Lib.cell_of_heap hg]
 rcases(by omega:j=0∨j=1∨j=2∨j=3∨j=4)with rfl |rfl |rfl |rfl |rfl<;>rfl
theorem yim{w:World}{g gd:Nat}(hd:w.heap[gd]?=some (.cells #[.int .i64 1] 3))(hg:w.heap[g]?=some (.cells #[.int .u8 1,.string ⟨#[]⟩,.string ⟨#[]⟩,.string ⟨#[]⟩,.int .u8 0,.string ⟨#[]⟩,.string ⟨#[]⟩,.int .i64 0,.slice none 0 0,.int .i64 0,.slice none 0 0,.slice none 0 0] 40)) :
 CtAt 3 w [.int .u8 8,.string ⟨#[65]⟩,.string ⟨#[]⟩,.string ⟨#[110]⟩,.int .u8 0,.string ⟨#[]⟩,.string ⟨#[]⟩,.int .i64 0,.slice none 0 0,.int .i64 0,.slice (some ⟨gd,0,none⟩) 1 1,.slice (some ⟨g,0,none⟩) 1 1] nmK:=by
 refine⟨none,0,0,some ⟨gd,0,none⟩,1,1,some ⟨g,0,none⟩,1,1,rfl,zem 2 w 0 tE0 tE0 0,⟨rfl,.inr ⟨gd,0,rfl,(Z8 hd),fun i hi => ?_⟩⟩,rfl,.inr ⟨g,0,rfl,(Z8 hg),fun i hi => ?_⟩⟩
 ·obtain rfl:i=0:=by have:i<1:=hi;omega
  rw[Lib.cell_of_heap hd];rfl
 ·obtain rfl:i=0:=by have:i<1:=hi;omega
  refine⟨_,fun j hj => ?_,zp0 1 w 1 0 ⟨#[]⟩ ⟨#[]⟩ ⟨#[]⟩⟩;rw[Lib.cell_of_heap hg,Nat.zero_mul,Nat.zero_add];simp
theorem yio{w:World}{g gd ge gk gz:Nat}(hk:w.heap[gk]?=some (.cells #[.int .i64 1] 3))(hz:w.heap[gz]?=some (.cells #[.int .u8 1,.string ⟨#[]⟩,.string ⟨#[]⟩,.string ⟨#[]⟩,.int .u8 0,.string ⟨#[]⟩,.string ⟨#[]⟩,.int .i64 0,.slice none 0 0,.int .i64 0,.slice none 0 0,.slice none 0 0] 40))
 (he:w.heap[ge]?=some (.cells #[.int .u8 3,.string ⟨#[]⟩,.string ⟨#[88]⟩,.int .i64 0,.slice none 0 0,.int .u8 1,.string ⟨#[49]⟩,.string ⟨#[]⟩,.int .i64 0,.slice none 0 0] 25)) (hd:w.heap[gd]?=some (.cells #[.int .i64 0,.int .i64 2] 3))
 (hg:w.heap[g]?=some (.cells #[.int .u8 8,.string ⟨#[65]⟩,.string ⟨#[]⟩,.string ⟨#[110]⟩,.int .u8 0,.string ⟨#[]⟩,.string ⟨#[]⟩,.int .i64 0,.slice none 0 0,.int .i64 0,.slice (some ⟨gk,0,none⟩) 1 1,.slice (some ⟨gz,0,none⟩) 1 1] 40)) :
 CtAt 4 w [.int .u8 9,.string ⟨#[]⟩,.string ⟨#[]⟩,.string ⟨#[]⟩,.int .u8 12,.string ⟨#[]⟩,.string ⟨#[]⟩,.int .i64 0,.slice (some ⟨ge,0,none⟩) 2 2,.int .i64 0,.slice (some ⟨gd,0,none⟩) 2 2,.slice (some ⟨g,0,none⟩) 1 1] nmC:=by
 refine⟨some ⟨ge,0,none⟩,2,2,some ⟨gd,0,none⟩,2,2,some ⟨g,0,none⟩,1,1,rfl,(zla 12 he (zem 2 w 3 ⟨#[]⟩ ⟨#[88]⟩ 0) (zem 2 w 1 ⟨#[49]⟩ ⟨#[]⟩ 0):ExAt 4 w _ nmE3),⟨rfl,.inr ⟨gd,0,rfl,(Z8 hd),fun i hi => ?_⟩⟩,rfl,.inr ⟨g,0,rfl,(Z8 hg),fun i hi => ?_⟩⟩
 ·have XJ:i<2:=hi
  rw[Lib.cell_of_heap hd]
  rcases(by omega:i=0∨i=1)with rfl |rfl<;>rfl
 ·obtain rfl:i=0:=by have:i<1:=hi;omega
  refine⟨_,fun j hj => ?_,yim hk hz⟩;rw[Lib.cell_of_heap hg,Nat.zero_mul,Nat.zero_add];simp
theorem yin:∃d,CSm d nmC:=by
 refine⟨4,?_⟩;simp[CSm,SmX,nmC,nmK,shZ,Ct.name,Ct.frm,Ct.too,Ct.dates,Ct.expr,Ct.sub,ygh,zee];simp[nmE3,tX0,Ex.name,Ex.rat,Ex.sub];decide
theorem ygx:nmC.size≤1000:=by unfold nmC nmK shZ;simp only[zd4,List.map_cons,List.map_nil,List.sum_cons,List.sum_nil,zee,ygh];decide
theorem yip{k:Nat}(hk:k<22):kwB (kwS k).data.toList=true:=yiq hk rfl
theorem ygz{Wg:World}(hs:zb6 Wg)(hp:zcr Wg)(Zi:Hid (∀W,Below Wg.heap.size Wg W→Calls Tryz.prog 29 #[] W (BelB W true)))(w:World)(hb:Below Wg.heap.size Wg w) :
 Calls Tryz.prog 7 #[] w (BelB w true):=by
 have HG:=Z9 (And.intro hs (And.intro hp hb));have HK:Hid (∀(s:ByteArray) W,Calls Tryz.prog 27 #[.string s] W (BelB W (kwB s.data.toList))):=Z9 zo8;have HWG:Hid (∀W,Below w.heap.size w W→Below Wg.heap.size Wg W):=Z9 (fun W hW=>hb.trans (hW.mono hb.size));have HR0:Hid (∀W,Below w.heap.size w W→Calls Tryz.prog 25 #[.string ⟨#[49,32,45,32,50,32,45,32,51,32,42,32,52,32,43,32,88,64,49,57,48,48,45,48,49,45,48,50]⟩] W (RxLt nmE1 28 0 W)):=Z9 (fun W hW=>ygi hs (by decide) yhk rfl W (hb.trans (hW.mono hb.size)));have Xy:Hid (∀W,Below w.heap.size w W→Calls Tryz.prog 25 #[.string ⟨#[110,111,116,40,108,101,115,115,40,49,44,32,45,49,41,41]⟩] W (RxLt nmE2 16 0 W)):=Z9 (fun W hW=>ygi hs (by decide) yhj rfl W (hb.trans (hW.mono hb.size)))
 have Yy:Hid (∀W,Below w.heap.size w W→Calls Tryz.prog 25 #[.string ⟨#[109,97,120,40,49,44,32,50]⟩] W (RxLt tX0 8 12 W)):=Z9 (fun W hW=>ygi hs (by decide) yhi rfl W (hb.trans (hW.mono hb.size)));have HR3:Hid (∀W,Below w.heap.size w W→Calls Tryz.prog 25 #[.string ⟨#[49,32,43,32,108,101,115,115,40,49,44,32,50,41]⟩] W (RxLt tX0 4 12 W)):=Z9 (fun W hW=>ygi hs (by decide) yhh rfl W (hb.trans (hW.mono hb.size)));have HR4:Hid (∀W,Below w.heap.size w W→Calls Tryz.prog 25 #[.string ⟨#[99,97,115,101,40,49,44,32,50,44,32,51,41]⟩] W (RxLt tX0 5 12 W)):=Z9 (fun W hW=>ygi hs (by decide) yhg rfl W (hb.trans (hW.mono hb.size)))
 have HR5:Hid (∀W,Below w.heap.size w W→Calls Tryz.prog 32 #[.string ⟨#[117,110,116,105,108,32,101,113,117,97,108,40,88,64,110,111,119,44,32,49,41,32,111,110,32,49,57,48,48,45,48,49,45,48,49,44,32,49,57,48,48,45,48,49,45,48,51,32,123,32,99,97,108,108,32,110,32,98,121,32,65,32,111,110,32,49,57,48,48,45,48,49,45,48,50,32,123,32,110,111,116,104,105,110,103,32,125,32,125]⟩] W (RdLt nmC 89 W)):=Z9 (fun W hW=>zxv hs hp (by decide) yhl W (hb.trans (hW.mono hb.size)));have HW0:Hid (∀W,Below w.heap.size w W→Calls Tryz.prog 36 #[.string ⟨#[]⟩,.int .i64 0] W (BelB W true)):=Z9 (fun W hW=>zqj hs hp _ 0 (by decide) yhf W (hb.trans (hW.mono hb.size)))
 have YW:Hid (∀W,Below w.heap.size w W→Calls Tryz.prog 36 #[.string ⟨#[110,111,116,104,105,110,103,32,110,111,116,104,105,110,103]⟩,.int .i64 8] W (BelB W true)):=Z9 (fun W hW=>zqj hs hp _ 8 (by decide) yhe W (hb.trans (hW.mono hb.size)));have HW2:Hid (∀W,Below w.heap.size w W→Calls Tryz.prog 36 #[.string ⟨#[65,32,112,97,121,115,32,49,32,116,111,32,66]⟩,.int .i64 9] W (BelB W true)):=Z9 (fun W hW=>zqj hs hp _ 9 (by decide) yhd W (hb.trans (hW.mono hb.size)));have VB:Hid (∀W,Below w.heap.size w W→Calls Tryz.prog 36 #[.string ⟨#[65,32,112,97,121,115,32,88,32,69,85,82,32,116,111,32,66]⟩,.int .i64 9] W (BelB W true)):=Z9 (fun W hW=>zqj hs hp _ 9 (by decide) yhc W (hb.trans (hW.mono hb.size)))
 have HW4:Hid (∀W,Below w.heap.size w W→Calls Tryz.prog 36 #[.string ⟨#[111,110,32,53,32,123,32,110,111,116,104,105,110,103,32,125]⟩,.int .i64 3] W (BelB W true)):=Z9 (fun W hW=>zqj hs hp _ 3 (by decide) yhb W (hb.trans (hW.mono hb.size)));have Tf:Hid (∀W,Below w.heap.size w W→Calls Tryz.prog 36 #[.string ⟨#[105,102,32,49,32,123,32,110,111,116,104,105,110,103,32,125,32,101,108,115,101,32,123,32,110,111,116,104,105,110,103,32,125]⟩,.int .i64 3] W (BelB W true)):=Z9 (fun W hW=>zqj hs hp _ 3 (by decide) yha W (hb.trans (hW.mono hb.size)));have HW6:Hid (∀W,Below w.heap.size w W→Calls Tryz.prog 36 #[.string ⟨#[98,111,116,104,32,123,32,110,111,116,104,105,110,103,32,59,32,110,111,116,104,105,110,103,32,59,32,110,111,116,104,105,110,103,32,125]⟩,.int .i64 25] W (BelB W true)):=Z9 (fun W hW=>zqj hs hp _ 25 (by decide) yg9 W (hb.trans (hW.mono hb.size)))
 have HW7:Hid (∀W,Below w.heap.size w W→Calls Tryz.prog 36 #[.string ⟨#[65,32,112,97,121,115,32,40,49,32,69,85,82,32,116,111,32,66]⟩,.int .i64 10] W (BelB W true)):=Z9 (fun W hW=>zqj hs hp _ 10 (by decide) yg8 W (hb.trans (hW.mono hb.size)));clear hs hp hb;go_enter Tryz.func7,Tryz.ntmps7;go_wp2_with fail;refine(ygp _).mono ?_;rintro e w1 ⟨rfl,U9⟩;have ZJ:Below w.heap.size w w1:=by rw[U9];exact zaa w _
 have Z5:∀k,k<22→w1.cell? ⟨w.heap.size,k,none⟩=some (.string (kwS k)):=fun k hk=>by rw[U9];exact yg0 w k hk
 have X9:w.heap.size<w1.heap.size:=by rw[U9,World.size_alloc];omega
 have ZT:=Z9 ZJ;have HCE:=Z9 Z5;clear U9 ZJ Z5;go_wp2_with fail;go_loopw [2] (fun iv wr=>∃k:Nat,k≤22∧iv=.int .i64 (k:Int)∧Hid (Below w1.heap.size w1 wr)) (fun iv _=>22-(intOf iv).toNat)
 case atStart=>exact⟨0,Nat.zero_le _,rfl,Z9 (Below.refl _ _)⟩
 case round =>
  obtain⟨V,rfl⟩:∃w':World,w'=wr:=⟨_,rfl⟩
  obtain⟨k,hk,rfl,HBV⟩:=hrel
  by_cases Z4:k<22
  ·have hc:=((zbg HBV.out).1 w.heap.size k X9).trans (HCE.out k Z4)
   have YL:(0:Int)≤(k:Int):=by omega
   have Zh:(k:Int)<22:=by omega
   have HKW:=HK.out (kwS k) V;rw[yip Z4]at HKW;have HKW:=Z9 HKW;obtain⟨s,hs⟩:∃s,s=kwS k:=⟨_,rfl⟩
   rw[←hs]at hc HKW;clear hs;go_wp2_with fail;refine HKW.out.mono ?_;rintro e w2 ⟨rfl,hb⟩;have ZY:=Z9 (HBV.out.trans (hb.mono HBV.out.size));clear hb hc;go_wp2_with fail;go_roundw
   case rel=>exact⟨k+1,by omega,by go_num,ZY⟩
   case measure=>simp[intOf]<;>omega
  ·obtain rfl:k=22:=by omega
   have HB0:=Z9 (ZT.out.trans (HBV.out.mono ZT.out.size));clear hk Z4;go_wp2_with fail;have HK0:=HK.out ⟨#[]⟩;have HK1:=HK.out ⟨#[80,97,121,115]⟩;have HK2:=HK.out ⟨#[110,111,116,104,105,110]⟩;rw[show kwB (⟨#[]⟩:ByteArray).data.toList=false from by decide]at HK0;rw[show kwB (⟨#[80,97,121,115]⟩:ByteArray).data.toList=false from by decide]at HK1;rw[show kwB (⟨#[110,111,116,104,105,110]⟩:ByteArray).data.toList=false from by decide]at HK2;have HK0:=Z9 HK0;have HK1:=Z9 HK1;have HK2:=Z9 HK2;clear HK HCE HBV X9;refine(HK0.out _).mono ?_;rintro e v0 ⟨rfl,hb⟩;have HB0:=Z9 (HB0.out.trans (hb.mono HB0.out.size))
   clear hb;go_wp2_with fail;refine(HK1.out _).mono ?_;rintro e v1 ⟨rfl,hb⟩;have HB0:=Z9 (HB0.out.trans (hb.mono HB0.out.size));clear hb;go_wp2_with fail;refine(HK2.out _).mono ?_;rintro e v2 ⟨rfl,hb⟩;have HB0:=Z9 (HB0.out.trans (hb.mono HB0.out.size));clear hb;go_wp2_with fail;refine(HR0.out _ HB0.out).mono ?_;rintro e u0 ⟨n0,p0,q0,k0,rfl,hx,hb⟩;have hB:=zaa u0 (.cells #[.int .u8 nmE1.kind,.string nmE1.rat,.string nmE1.name,.int .i64 nmE1.date,.slice p0 q0 k0] 25);have Vh:=hb.trans (hB.mono hb.size);have hg:=heap_alloc_new u0 (.cells #[.int .u8 nmE1.kind,.string nmE1.rat,.string nmE1.name,.int .i64 nmE1.date,.slice p0 q0 k0] 25)
   have hx:=ExAt.below hB hx;obtain⟨P0,hP⟩:∃P,P=u0.alloc (.cells #[.int .u8 nmE1.kind,.string nmE1.rat,.string nmE1.name,.int .i64 nmE1.date,.slice p0 q0 k0] 25):=⟨_,rfl⟩
   rw[←hP]at Vh hg hx;have HB0:=Z9 (HB0.out.trans (Vh.mono HB0.out.size));have HC:Hid (Below P0.heap.size P0 P0):=Z9 (Below.refl _ _);have HF0:Hid (∀W,Below P0.heap.size P0 W→W.heap[u0.heap.size]?=some (.cells #[.int .u8 nmE1.kind,.string nmE1.rat,.string nmE1.name,.int .i64 nmE1.date,.slice p0 q0 k0] 25)):=Z9 (fun W hW=>zbm hg hW);have HX0:Hid (∀W,Below P0.heap.size P0 W→ExAt n0 W [.int .u8 nmE1.kind,.string nmE1.rat,.string nmE1.name,.int .i64 nmE1.date,.slice p0 q0 k0] nmE1):=Z9 (fun W hW=>ExAt.below hW hx);have HP:=Z9 hP;clear hb hx hB Vh hg hP;go_wp2_with fail;rw[←HP.out];clear HP;refine(zno _ _).mono ?_
   rintro e a1 ⟨rfl,hb⟩;have HC:=Z9 (HC.out.trans (hb.mono HC.out.size));have HB0:=Z9 (HB0.out.trans (hb.mono HB0.out.size));clear hb;go_wp2_with fail;refine(zno _ _).mono ?_;rintro e a2 ⟨rfl,hb⟩;have HC:=Z9 (HC.out.trans (hb.mono HC.out.size));have HB0:=Z9 (HB0.out.trans (hb.mono HB0.out.size));clear hb;go_wp2_with fail;refine(zyh 5 _ _ _ _ _ _ _ _ _ _ _).mono ?_;rintro e a3 ⟨g1,rfl,hg,hb⟩;have HC:=Z9 (HC.out.trans (hb.mono HC.out.size));have HB0:=Z9 (HB0.out.trans (hb.mono HB0.out.size));have HG_g1:=Z9 hg;clear hg;clear hb;go_wp2_with fail;refine(zno _ _).mono ?_;rintro e a4 ⟨rfl,hb⟩;have HC:=Z9 (HC.out.trans (hb.mono HC.out.size))
   have HB0:=Z9 (HB0.out.trans (hb.mono HB0.out.size));have HG_g1:=Z9 (zbm HG_g1.out hb);clear hb;go_wp2_with fail;refine(zno _ _).mono ?_;rintro e a5 ⟨rfl,hb⟩;have HC:=Z9 (HC.out.trans (hb.mono HC.out.size));have HB0:=Z9 (HB0.out.trans (hb.mono HB0.out.size));have HG_g1:=Z9 (zbm HG_g1.out hb);clear hb;go_wp2_with fail;refine(zyh 6 _ _ _ _ _ _ _ _ _ _ _).mono ?_;rintro e a6 ⟨g2,rfl,hg,hb⟩;have HC:=Z9 (HC.out.trans (hb.mono HC.out.size));have HB0:=Z9 (HB0.out.trans (hb.mono HB0.out.size));have HG_g1:=Z9 (zbm HG_g1.out hb);have HG_g2:=Z9 hg;clear hg;clear hb;go_wp2_with fail;refine(zyh 5 _ _ _ _ _ _ _ _ _ _ _).mono ?_
   rintro e a7 ⟨g3,rfl,hg,hb⟩;have HC:=Z9 (HC.out.trans (hb.mono HC.out.size));have HB0:=Z9 (HB0.out.trans (hb.mono HB0.out.size));have HG_g1:=Z9 (zbm HG_g1.out hb);have HG_g2:=Z9 (zbm HG_g2.out hb);have HG_g3:=Z9 hg;clear hg;clear hb;go_wp2_with fail;refine(zyh 4 _ _ _ _ _ _ _ _ _ _ _).mono ?_;rintro e a8 ⟨g4,rfl,hg,hb⟩;have HC:=Z9 (HC.out.trans (hb.mono HC.out.size));have HB0:=Z9 (HB0.out.trans (hb.mono HB0.out.size));have HG_g1:=Z9 (zbm HG_g1.out hb);have HG_g2:=Z9 (zbm HG_g2.out hb);have HG_g3:=Z9 (zbm HG_g3.out hb);have HG_g4:=Z9 hg;clear hg hb;have Vh:=zaa a8 (.cells #[.int .u8 4,.string ⟨#[]⟩,.string ⟨#[]⟩,.int .i64 0,.slice (some ⟨g4,0,none⟩) 2 2] 25)
   have hg:=heap_alloc_new a8 (.cells #[.int .u8 4,.string ⟨#[]⟩,.string ⟨#[]⟩,.int .i64 0,.slice (some ⟨g4,0,none⟩) 2 2] 25);obtain⟨PW,hP⟩:∃P,P=a8.alloc (.cells #[.int .u8 4,.string ⟨#[]⟩,.string ⟨#[]⟩,.int .i64 0,.slice (some ⟨g4,0,none⟩) 2 2] 25):=⟨_,rfl⟩
   rw[←hP]at Vh hg;have hx:ExAt 4 PW [.int .u8 4,.string ⟨#[]⟩,.string ⟨#[]⟩,.int .i64 0,.slice (some ⟨g4,0,none⟩) 2 2] nmE1:=zla 4 (zbm HG_g4.out Vh) (zla 5 (zbm HG_g3.out Vh) (zla 5 (zbm HG_g1.out Vh) (zem 0 PW 1 ⟨#[49]⟩ ⟨#[]⟩ 0) (zem 0 PW 1 ⟨#[50]⟩ ⟨#[]⟩ 0)) (zla 6 (zbm HG_g2.out Vh) (zem 0 PW 1 ⟨#[51]⟩ ⟨#[]⟩ 0) (zem 0 PW 1 ⟨#[52]⟩ ⟨#[]⟩ 0))) (zem 2 PW 2 ⟨#[]⟩ ⟨#[88]⟩ 1);have HB0:=Z9 (HB0.out.trans (Vh.mono HB0.out.size));have hq:=HC.out.trans (Vh.mono HC.out.size);have HF0:=Z9 (fun W (hW:Below PW.heap.size PW W)=>HF0.out W (hq.trans (hW.mono hq.size)));have HX0:=Z9 (fun W (hW:Below PW.heap.size PW W)=>HX0.out W (hq.trans (hW.mono hq.size)))
   clear hq;have HC:Hid (Below PW.heap.size PW PW):=Z9 (Below.refl _ _);have HFW:Hid (∀W,Below PW.heap.size PW W→W.heap[a8.heap.size]?=some (.cells #[.int .u8 4,.string ⟨#[]⟩,.string ⟨#[]⟩,.int .i64 0,.slice (some ⟨g4,0,none⟩) 2 2] 25)):=Z9 (fun W hW=>zbm hg hW);have HXW:Hid (∀W,Below PW.heap.size PW W→ExAt 4 W [.int .u8 4,.string ⟨#[]⟩,.string ⟨#[]⟩,.int .i64 0,.slice (some ⟨g4,0,none⟩) 2 2] nmE1):=Z9 (fun W hW=>ExAt.below hW hx);have HP:=Z9 hP;clear Vh hg hP hx HG_g1 HG_g2 HG_g3 HG_g4;go_wp2_with fail;rw[←HP.out];clear HP;refine(Xy.out _ HB0.out).mono ?_;rintro e u1 ⟨n1,p1,q1,k1,rfl,hx,hb⟩;have hB:=zaa u1 (.cells #[.int .u8 nmE2.kind,.string nmE2.rat,.string nmE2.name,.int .i64 nmE2.date,.slice p1 q1 k1] 25)
   have Vh:=hb.trans (hB.mono hb.size);have hg:=heap_alloc_new u1 (.cells #[.int .u8 nmE2.kind,.string nmE2.rat,.string nmE2.name,.int .i64 nmE2.date,.slice p1 q1 k1] 25);have hx:=ExAt.below hB hx;obtain⟨P1,hP⟩:∃P,P=u1.alloc (.cells #[.int .u8 nmE2.kind,.string nmE2.rat,.string nmE2.name,.int .i64 nmE2.date,.slice p1 q1 k1] 25):=⟨_,rfl⟩
   rw[←hP]at Vh hg hx;have HB0:=Z9 (HB0.out.trans (Vh.mono HB0.out.size));have hq:=HC.out.trans (Vh.mono HC.out.size);have HF0:=Z9 (fun W (hW:Below P1.heap.size P1 W)=>HF0.out W (hq.trans (hW.mono hq.size)));have HX0:=Z9 (fun W (hW:Below P1.heap.size P1 W)=>HX0.out W (hq.trans (hW.mono hq.size)));have HFW:=Z9 (fun W (hW:Below P1.heap.size P1 W)=>HFW.out W (hq.trans (hW.mono hq.size)));have HXW:=Z9 (fun W (hW:Below P1.heap.size P1 W)=>HXW.out W (hq.trans (hW.mono hq.size)));clear hq;have HC:Hid (Below P1.heap.size P1 P1):=Z9 (Below.refl _ _);have HF1:Hid (∀W,Below P1.heap.size P1 W→W.heap[u1.heap.size]?=some (.cells #[.int .u8 nmE2.kind,.string nmE2.rat,.string nmE2.name,.int .i64 nmE2.date,.slice p1 q1 k1] 25)):=Z9 (fun W hW=>zbm hg hW)
   have HX1:Hid (∀W,Below P1.heap.size P1 W→ExAt n1 W [.int .u8 nmE2.kind,.string nmE2.rat,.string nmE2.name,.int .i64 nmE2.date,.slice p1 q1 k1] nmE2):=Z9 (fun W hW=>ExAt.below hW hx);have HP:=Z9 hP;clear hb hx hB Vh hg hP;go_wp2_with fail;rw[←HP.out];clear HP;refine(zno _ _).mono ?_;rintro e b1 ⟨rfl,hb⟩;have HC:=Z9 (HC.out.trans (hb.mono HC.out.size));have HB0:=Z9 (HB0.out.trans (hb.mono HB0.out.size));clear hb;go_wp2_with fail;refine(zno _ _).mono ?_;rintro e b2 ⟨rfl,hb⟩;have HC:=Z9 (HC.out.trans (hb.mono HC.out.size));have HB0:=Z9 (HB0.out.trans (hb.mono HB0.out.size));clear hb;go_wp2_with fail
   refine(zyh 11 _ _ _ _ _ _ _ _ _ _ _).mono ?_;rintro e b3 ⟨g5,rfl,hg,hb⟩;have HC:=Z9 (HC.out.trans (hb.mono HC.out.size));have HB0:=Z9 (HB0.out.trans (hb.mono HB0.out.size));have HG_g5:=Z9 hg;clear hg hb;have ZJ:=zaa b3 (.cells #[.int .u8 11,.string ⟨#[]⟩,.string ⟨#[]⟩,.int .i64 0,.slice (some ⟨g5,0,none⟩) 2 2] 25);have Z3:=zaa (b3.alloc (.cells #[.int .u8 11,.string ⟨#[]⟩,.string ⟨#[]⟩,.int .i64 0,.slice (some ⟨g5,0,none⟩) 2 2] 25)) (.cells #[.int .u8 15,.string ⟨#[]⟩,.string ⟨#[]⟩,.int .i64 0,.slice (some ⟨b3.heap.size,0,none⟩) 1 1] 25);have Vh:=ZJ.trans (Z3.mono ZJ.size);have hsl:=zbm (heap_alloc_new b3 (.cells #[.int .u8 11,.string ⟨#[]⟩,.string ⟨#[]⟩,.int .i64 0,.slice (some ⟨g5,0,none⟩) 2 2] 25)) Z3
   have hg:=heap_alloc_new (b3.alloc (.cells #[.int .u8 11,.string ⟨#[]⟩,.string ⟨#[]⟩,.int .i64 0,.slice (some ⟨g5,0,none⟩) 2 2] 25)) (.cells #[.int .u8 15,.string ⟨#[]⟩,.string ⟨#[]⟩,.int .i64 0,.slice (some ⟨b3.heap.size,0,none⟩) 1 1] 25);rw[World.size_alloc]at hg;obtain⟨PN,hP⟩:∃P,P=(b3.alloc (.cells #[.int .u8 11,.string ⟨#[]⟩,.string ⟨#[]⟩,.int .i64 0,.slice (some ⟨g5,0,none⟩) 2 2] 25)).alloc (.cells #[.int .u8 15,.string ⟨#[]⟩,.string ⟨#[]⟩,.int .i64 0,.slice (some ⟨b3.heap.size,0,none⟩) 1 1] 25):=⟨_,rfl⟩
   rw[←hP]at Vh hg hsl;have hx:ExAt 3 PN [.int .u8 15,.string ⟨#[]⟩,.string ⟨#[]⟩,.int .i64 0,.slice (some ⟨b3.heap.size,0,none⟩) 1 1] nmE2:=yg1 15 hsl (zla 11 (zbm HG_g5.out Vh) (zem 0 PN 1 ⟨#[49]⟩ ⟨#[]⟩ 0) (zem 0 PN 1 ⟨#[45,49]⟩ ⟨#[]⟩ 0));have HB0:=Z9 (HB0.out.trans (Vh.mono HB0.out.size));have hq:=HC.out.trans (Vh.mono HC.out.size);have HF0:=Z9 (fun W (hW:Below PN.heap.size PN W)=>HF0.out W (hq.trans (hW.mono hq.size)));have HX0:=Z9 (fun W (hW:Below PN.heap.size PN W)=>HX0.out W (hq.trans (hW.mono hq.size)));have HFW:=Z9 (fun W (hW:Below PN.heap.size PN W)=>HFW.out W (hq.trans (hW.mono hq.size)))
   have HXW:=Z9 (fun W (hW:Below PN.heap.size PN W)=>HXW.out W (hq.trans (hW.mono hq.size)));have HF1:=Z9 (fun W (hW:Below PN.heap.size PN W)=>HF1.out W (hq.trans (hW.mono hq.size)));have HX1:=Z9 (fun W (hW:Below PN.heap.size PN W)=>HX1.out W (hq.trans (hW.mono hq.size)));clear hq;have HC:Hid (Below PN.heap.size PN PN):=Z9 (Below.refl _ _);have HFN:Hid (∀W,Below PN.heap.size PN W→W.heap[b3.heap.size+1]?=some (.cells #[.int .u8 15,.string ⟨#[]⟩,.string ⟨#[]⟩,.int .i64 0,.slice (some ⟨b3.heap.size,0,none⟩) 1 1] 25)):=Z9 (fun W hW=>zbm hg hW);have HXN:Hid (∀W,Below PN.heap.size PN W→ExAt 3 W [.int .u8 15,.string ⟨#[]⟩,.string ⟨#[]⟩,.int .i64 0,.slice (some ⟨b3.heap.size,0,none⟩) 1 1] nmE2):=Z9 (fun W hW=>ExAt.below hW hx)
   have HP:=Z9 hP;clear ZJ Z3 Vh hg hP hx hsl HG_g5;go_wp2_with fail;rw[←HP.out];clear HP;refine(Yy.out _ HB0.out).mono ?_;rintro e u2 ⟨n2,p2,q2,k2,rfl,hx,hb⟩;have hB:=zaa u2 (.cells #[.int .u8 tX0.kind,.string tX0.rat,.string tX0.name,.int .i64 tX0.date,.slice p2 q2 k2] 25);have Vh:=hb.trans (hB.mono hb.size);have hg:=heap_alloc_new u2 (.cells #[.int .u8 tX0.kind,.string tX0.rat,.string tX0.name,.int .i64 tX0.date,.slice p2 q2 k2] 25);have hx:=ExAt.below hB hx;obtain⟨P2,hP⟩:∃P,P=u2.alloc (.cells #[.int .u8 tX0.kind,.string tX0.rat,.string tX0.name,.int .i64 tX0.date,.slice p2 q2 k2] 25):=⟨_,rfl⟩
   rw[←hP]at Vh hg hx;have HB0:=Z9 (HB0.out.trans (Vh.mono HB0.out.size));have hq:=HC.out.trans (Vh.mono HC.out.size);have HF0:=Z9 (fun W (hW:Below P2.heap.size P2 W)=>HF0.out W (hq.trans (hW.mono hq.size)));have HX0:=Z9 (fun W (hW:Below P2.heap.size P2 W)=>HX0.out W (hq.trans (hW.mono hq.size)));have HFW:=Z9 (fun W (hW:Below P2.heap.size P2 W)=>HFW.out W (hq.trans (hW.mono hq.size)));have HXW:=Z9 (fun W (hW:Below P2.heap.size P2 W)=>HXW.out W (hq.trans (hW.mono hq.size)));have HF1:=Z9 (fun W (hW:Below P2.heap.size P2 W)=>HF1.out W (hq.trans (hW.mono hq.size)));have HX1:=Z9 (fun W (hW:Below P2.heap.size P2 W)=>HX1.out W (hq.trans (hW.mono hq.size)))
   have HFN:=Z9 (fun W (hW:Below P2.heap.size P2 W)=>HFN.out W (hq.trans (hW.mono hq.size)));have HXN:=Z9 (fun W (hW:Below P2.heap.size P2 W)=>HXN.out W (hq.trans (hW.mono hq.size)));clear hq;have HC:Hid (Below P2.heap.size P2 P2):=Z9 (Below.refl _ _);have HP:=Z9 hP;clear hb hx hB Vh hg hP;go_wp2_with fail;rw[←HP.out];clear HP;refine(HR3.out _ HB0.out).mono ?_;rintro e u3 ⟨n3,p3,q3,k3,rfl,hx,hb⟩;have hB:=zaa u3 (.cells #[.int .u8 tX0.kind,.string tX0.rat,.string tX0.name,.int .i64 tX0.date,.slice p3 q3 k3] 25);have Vh:=hb.trans (hB.mono hb.size);have hg:=heap_alloc_new u3 (.cells #[.int .u8 tX0.kind,.string tX0.rat,.string tX0.name,.int .i64 tX0.date,.slice p3 q3 k3] 25)
   have hx:=ExAt.below hB hx;obtain⟨P3,hP⟩:∃P,P=u3.alloc (.cells #[.int .u8 tX0.kind,.string tX0.rat,.string tX0.name,.int .i64 tX0.date,.slice p3 q3 k3] 25):=⟨_,rfl⟩
   rw[←hP]at Vh hg hx;have HB0:=Z9 (HB0.out.trans (Vh.mono HB0.out.size));have hq:=HC.out.trans (Vh.mono HC.out.size);have HF0:=Z9 (fun W (hW:Below P3.heap.size P3 W)=>HF0.out W (hq.trans (hW.mono hq.size)));have HX0:=Z9 (fun W (hW:Below P3.heap.size P3 W)=>HX0.out W (hq.trans (hW.mono hq.size)));have HFW:=Z9 (fun W (hW:Below P3.heap.size P3 W)=>HFW.out W (hq.trans (hW.mono hq.size)));have HXW:=Z9 (fun W (hW:Below P3.heap.size P3 W)=>HXW.out W (hq.trans (hW.mono hq.size)));have HF1:=Z9 (fun W (hW:Below P3.heap.size P3 W)=>HF1.out W (hq.trans (hW.mono hq.size)));have HX1:=Z9 (fun W (hW:Below P3.heap.size P3 W)=>HX1.out W (hq.trans (hW.mono hq.size)))
   have HFN:=Z9 (fun W (hW:Below P3.heap.size P3 W)=>HFN.out W (hq.trans (hW.mono hq.size)));have HXN:=Z9 (fun W (hW:Below P3.heap.size P3 W)=>HXN.out W (hq.trans (hW.mono hq.size)));clear hq;have HC:Hid (Below P3.heap.size P3 P3):=Z9 (Below.refl _ _);have HP:=Z9 hP;clear hb hx hB Vh hg hP;go_wp2_with fail;rw[←HP.out];clear HP;refine(HR4.out _ HB0.out).mono ?_;rintro e u4 ⟨n4,p4,q4,k4,rfl,hx,hb⟩;have hB:=zaa u4 (.cells #[.int .u8 tX0.kind,.string tX0.rat,.string tX0.name,.int .i64 tX0.date,.slice p4 q4 k4] 25);have Vh:=hb.trans (hB.mono hb.size);have hg:=heap_alloc_new u4 (.cells #[.int .u8 tX0.kind,.string tX0.rat,.string tX0.name,.int .i64 tX0.date,.slice p4 q4 k4] 25)
   have hx:=ExAt.below hB hx;obtain⟨P4,hP⟩:∃P,P=u4.alloc (.cells #[.int .u8 tX0.kind,.string tX0.rat,.string tX0.name,.int .i64 tX0.date,.slice p4 q4 k4] 25):=⟨_,rfl⟩
   rw[←hP]at Vh hg hx;have HB0:=Z9 (HB0.out.trans (Vh.mono HB0.out.size));have hq:=HC.out.trans (Vh.mono HC.out.size);have HF0:=Z9 (fun W (hW:Below P4.heap.size P4 W)=>HF0.out W (hq.trans (hW.mono hq.size)));have HX0:=Z9 (fun W (hW:Below P4.heap.size P4 W)=>HX0.out W (hq.trans (hW.mono hq.size)));have HFW:=Z9 (fun W (hW:Below P4.heap.size P4 W)=>HFW.out W (hq.trans (hW.mono hq.size)));have HXW:=Z9 (fun W (hW:Below P4.heap.size P4 W)=>HXW.out W (hq.trans (hW.mono hq.size)));have HF1:=Z9 (fun W (hW:Below P4.heap.size P4 W)=>HF1.out W (hq.trans (hW.mono hq.size)));have HX1:=Z9 (fun W (hW:Below P4.heap.size P4 W)=>HX1.out W (hq.trans (hW.mono hq.size)))
   have HFN:=Z9 (fun W (hW:Below P4.heap.size P4 W)=>HFN.out W (hq.trans (hW.mono hq.size)));have HXN:=Z9 (fun W (hW:Below P4.heap.size P4 W)=>HXN.out W (hq.trans (hW.mono hq.size)));clear hq;have HC:Hid (Below P4.heap.size P4 P4):=Z9 (Below.refl _ _);have HP:=Z9 hP;clear hb hx hB Vh hg hP;go_wp2_with fail;rw[←HP.out];clear HP;refine(HR5.out _ HB0.out).mono ?_;rintro e u9 ⟨n9,ea9,el9,ec9,da9,dl9,dc9,a9,l9,k9,rfl,hx,hb⟩;have hB:=zaa u9 (.cells #[.int .u8 nmC.kind,.string nmC.frm,.string nmC.too,.string nmC.name,.int .u8 nmC.expr.kind,.string nmC.expr.rat,.string nmC.expr.name,.int .i64 nmC.expr.date,.slice ea9 el9 ec9,.int .i64 nmC.date,.slice da9 dl9 dc9,.slice a9 l9 k9] 40)
   have Vh:=hb.trans (hB.mono hb.size);have hg:=heap_alloc_new u9 (.cells #[.int .u8 nmC.kind,.string nmC.frm,.string nmC.too,.string nmC.name,.int .u8 nmC.expr.kind,.string nmC.expr.rat,.string nmC.expr.name,.int .i64 nmC.expr.date,.slice ea9 el9 ec9,.int .i64 nmC.date,.slice da9 dl9 dc9,.slice a9 l9 k9] 40);have hx:=CtAt.below hB hx;obtain⟨P9,hP⟩:∃P,P=u9.alloc (.cells #[.int .u8 nmC.kind,.string nmC.frm,.string nmC.too,.string nmC.name,.int .u8 nmC.expr.kind,.string nmC.expr.rat,.string nmC.expr.name,.int .i64 nmC.expr.date,.slice ea9 el9 ec9,.int .i64 nmC.date,.slice da9 dl9 dc9,.slice a9 l9 k9] 40):=⟨_,rfl⟩
   rw[←hP]at Vh hg hx;have HB0:=Z9 (HB0.out.trans (Vh.mono HB0.out.size));have hq:=HC.out.trans (Vh.mono HC.out.size);have HF0:=Z9 (fun W (hW:Below P9.heap.size P9 W)=>HF0.out W (hq.trans (hW.mono hq.size)));have HX0:=Z9 (fun W (hW:Below P9.heap.size P9 W)=>HX0.out W (hq.trans (hW.mono hq.size)));have HFW:=Z9 (fun W (hW:Below P9.heap.size P9 W)=>HFW.out W (hq.trans (hW.mono hq.size)));have HXW:=Z9 (fun W (hW:Below P9.heap.size P9 W)=>HXW.out W (hq.trans (hW.mono hq.size)));have HF1:=Z9 (fun W (hW:Below P9.heap.size P9 W)=>HF1.out W (hq.trans (hW.mono hq.size)));have HX1:=Z9 (fun W (hW:Below P9.heap.size P9 W)=>HX1.out W (hq.trans (hW.mono hq.size)))
   have HFN:=Z9 (fun W (hW:Below P9.heap.size P9 W)=>HFN.out W (hq.trans (hW.mono hq.size)));have HXN:=Z9 (fun W (hW:Below P9.heap.size P9 W)=>HXN.out W (hq.trans (hW.mono hq.size)));clear hq;have HC:Hid (Below P9.heap.size P9 P9):=Z9 (Below.refl _ _);have HF9:Hid (∀W,Below P9.heap.size P9 W→W.heap[u9.heap.size]?=some (.cells #[.int .u8 nmC.kind,.string nmC.frm,.string nmC.too,.string nmC.name,.int .u8 nmC.expr.kind,.string nmC.expr.rat,.string nmC.expr.name,.int .i64 nmC.expr.date,.slice ea9 el9 ec9,.int .i64 nmC.date,.slice da9 dl9 dc9,.slice a9 l9 k9] 40)):=Z9 (fun W hW=>zbm hg hW);have HX9:Hid (∀W,Below P9.heap.size P9 W→CtAt n9 W [.int .u8 nmC.kind,.string nmC.frm,.string nmC.too,.string nmC.name,.int .u8 nmC.expr.kind,.string nmC.expr.rat,.string nmC.expr.name,.int .i64 nmC.expr.date,.slice ea9 el9 ec9,.int .i64 nmC.date,.slice da9 dl9 dc9,.slice a9 l9 k9] nmC):=Z9 (fun W hW=>CtAt.below hW hx)
   have HP:=Z9 hP;clear hb hx hB Vh hg hP;go_wp2_with fail;rw[←HP.out];clear HP;refine(zno _ _).mono ?_;rintro e c1 ⟨rfl,hb⟩;have HC:=Z9 (HC.out.trans (hb.mono HC.out.size));have HB0:=Z9 (HB0.out.trans (hb.mono HB0.out.size));clear hb;go_wp2_with fail;refine(zyh 12 _ _ _ _ _ _ _ _ _ _ _).mono ?_;rintro e c2 ⟨g6,rfl,hg,hb⟩;have HC:=Z9 (HC.out.trans (hb.mono HC.out.size));have HB0:=Z9 (HB0.out.trans (hb.mono HB0.out.size));have HG_g6:=Z9 hg;clear hg hb;obtain⟨O0,hO0⟩:∃O:Obj,O=.cells #[.int .i64 0,.int .i64 2] 3:=⟨_,rfl⟩
   obtain⟨O1,hO1⟩:∃O:Obj,O=.cells #[.int .i64 1] 3:=⟨_,rfl⟩
   obtain⟨O2,hO2⟩:∃O:Obj,O=.cells #[.int .u8 1,.string ⟨#[]⟩,.string ⟨#[]⟩,.string ⟨#[]⟩,.int .u8 0,.string ⟨#[]⟩,.string ⟨#[]⟩,.int .i64 0,.slice none 0 0,.int .i64 0,.slice none 0 0,.slice none 0 0] 40:=⟨_,rfl⟩
   obtain⟨O3,hO3⟩:∃O:Obj,O=.cells #[.int .u8 8,.string ⟨#[65]⟩,.string ⟨#[]⟩,.string ⟨#[110]⟩,.int .u8 0,.string ⟨#[]⟩,.string ⟨#[]⟩,.int .i64 0,.slice none 0 0,.int .i64 0,.slice (some ⟨c2.heap.size+1,0,none⟩) 1 1,.slice (some ⟨c2.heap.size+1+1,0,none⟩) 1 1] 40:=⟨_,rfl⟩
   obtain⟨O4,hO4⟩:∃O:Obj,O=.cells #[.int .u8 9,.string ⟨#[]⟩,.string ⟨#[]⟩,.string ⟨#[]⟩,.int .u8 12,.string ⟨#[]⟩,.string ⟨#[]⟩,.int .i64 0,.slice (some ⟨g6,0,none⟩) 2 2,.int .i64 0,.slice (some ⟨c2.heap.size,0,none⟩) 2 2,.slice (some ⟨c2.heap.size+1+1+1,0,none⟩) 1 1] 40:=⟨_,rfl⟩
   have Zv:=zaa c2 O0;have Y2:=heap_alloc_new c2 O0;have ZJ:=zaa (c2.alloc O0) O1;have Yt:=heap_alloc_new (c2.alloc O0) O1;have Z3:=zaa ((c2.alloc O0).alloc O1) O2;have Yz:=heap_alloc_new ((c2.alloc O0).alloc O1) O2;have Zw:=zaa (((c2.alloc O0).alloc O1).alloc O2) O3;have Zk:=heap_alloc_new (((c2.alloc O0).alloc O1).alloc O2) O3;have Wh:=zaa ((((c2.alloc O0).alloc O1).alloc O2).alloc O3) O4;have hg4:=heap_alloc_new ((((c2.alloc O0).alloc O1).alloc O2).alloc O3) O4;simp only[World.size_alloc]at Yt Yz Zk hg4;have Vh:=Zv.trans ((ZJ.trans ((Z3.trans ((Zw.trans (Wh.mono Zw.size)).mono Z3.size)).mono ZJ.size)).mono Zv.size)
   replace Y2:=zbm (zbm (zbm (zbm Y2 ZJ) Z3) Zw) Wh
   replace Yt:=zbm (zbm (zbm Yt Z3) Zw) Wh
   replace Yz:=zbm (zbm Yz Zw) Wh
   replace Zk:=zbm Zk Wh
   obtain⟨PU,hP⟩:∃P,P=(((((c2.alloc O0).alloc O1).alloc O2).alloc O3).alloc O4):=⟨_,rfl⟩
   rw[←hP]at Vh Y2 Yt Yz Zk hg4;rw[hO0,hO1,hO2,hO3,hO4]at hP;rw[hO0]at Y2;rw[hO1]at Yt;rw[hO2]at Yz;rw[hO3]at Zk;rw[hO4]at hg4;have hx:=yio Yt Yz (zbm HG_g6.out Vh) Y2 Zk;have HB0:=Z9 (HB0.out.trans (Vh.mono HB0.out.size));have hq:=HC.out.trans (Vh.mono HC.out.size);have HF0:=Z9 (fun W (hW:Below PU.heap.size PU W)=>HF0.out W (hq.trans (hW.mono hq.size)));have HX0:=Z9 (fun W (hW:Below PU.heap.size PU W)=>HX0.out W (hq.trans (hW.mono hq.size)));have HFW:=Z9 (fun W (hW:Below PU.heap.size PU W)=>HFW.out W (hq.trans (hW.mono hq.size)));have HXW:=Z9 (fun W (hW:Below PU.heap.size PU W)=>HXW.out W (hq.trans (hW.mono hq.size)))
   have HF1:=Z9 (fun W (hW:Below PU.heap.size PU W)=>HF1.out W (hq.trans (hW.mono hq.size)));have HX1:=Z9 (fun W (hW:Below PU.heap.size PU W)=>HX1.out W (hq.trans (hW.mono hq.size)));have HFN:=Z9 (fun W (hW:Below PU.heap.size PU W)=>HFN.out W (hq.trans (hW.mono hq.size)));have HXN:=Z9 (fun W (hW:Below PU.heap.size PU W)=>HXN.out W (hq.trans (hW.mono hq.size)));have HF9:=Z9 (fun W (hW:Below PU.heap.size PU W)=>HF9.out W (hq.trans (hW.mono hq.size)));have HX9:=Z9 (fun W (hW:Below PU.heap.size PU W)=>HX9.out W (hq.trans (hW.mono hq.size)));clear hq;have HC:Hid (Below PU.heap.size PU PU):=Z9 (Below.refl _ _)
   have HFU:Hid (∀W,Below PU.heap.size PU W→W.heap[c2.heap.size+1+1+1+1]?=some (.cells #[.int .u8 9,.string ⟨#[]⟩,.string ⟨#[]⟩,.string ⟨#[]⟩,.int .u8 12,.string ⟨#[]⟩,.string ⟨#[]⟩,.int .i64 0,.slice (some ⟨g6,0,none⟩) 2 2,.int .i64 0,.slice (some ⟨c2.heap.size,0,none⟩) 2 2,.slice (some ⟨c2.heap.size+1+1+1,0,none⟩) 1 1] 40)):=Z9 (fun W hW=>zbm hg4 hW);have HXU:Hid (∀W,Below PU.heap.size PU W→CtAt 4 W [.int .u8 9,.string ⟨#[]⟩,.string ⟨#[]⟩,.string ⟨#[]⟩,.int .u8 12,.string ⟨#[]⟩,.string ⟨#[]⟩,.int .i64 0,.slice (some ⟨g6,0,none⟩) 2 2,.int .i64 0,.slice (some ⟨c2.heap.size,0,none⟩) 2 2,.slice (some ⟨c2.heap.size+1+1+1,0,none⟩) 1 1] nmC):=Z9 (fun W hW=>CtAt.below hW hx)
   have HP:=Z9 hP;have HSA:=Z9 (zo0 (n0+4) nmE1 _ _ PU (ExAt.up (Nat.le_add_right _ _) (HX0.out PU HC.out)) (ExAt.up (Nat.le_add_left _ _) (HXW.out PU HC.out)) (by rw[ygl];decide));clear Zv ZJ Z3 Zw Wh Vh Y2 Yt Yz Zk hg4 hO0 hO1 hO2 hO3 hO4 hP hx HG_g6 O0 O1 O2 O3 O4
   go_upto_region 19 with(fail)
   rw[←HP.out];clear HP;obtain⟨d0,d1,d2,d3,d4⟩:=zad (HF0.out PU HC.out);obtain⟨e0,e1,e2,e3,e4⟩:=zad (HFW.out PU HC.out);go_wp2_with fail;clear d0 d1 d2 d3 d4 e0 e1 e2 e3 e4;refine HSA.out.mono ?_;rintro e s1 ⟨rfl,hb⟩;have HC:=Z9 (HC.out.trans (hb.mono HC.out.size));have HB0:=Z9 (HB0.out.trans (hb.mono HB0.out.size));clear hb HSA;obtain⟨d0,d1,d2,d3,d4⟩:=zad (HF1.out s1 HC.out);obtain⟨e0,e1,e2,e3,e4⟩:=zad (HFN.out s1 HC.out);have HSA:=Z9 (zo0 (n1+3) nmE2 _ _ s1 (ExAt.up (Nat.le_add_right _ _) (HX1.out s1 HC.out)) (ExAt.up (Nat.le_add_left _ _) (HXN.out s1 HC.out)) (by rw[ygk];decide));go_wp2_with fail
   clear d0 d1 d2 d3 d4 e0 e1 e2 e3 e4;refine HSA.out.mono ?_;rintro e s2 ⟨rfl,hb⟩;have HC:=Z9 (HC.out.trans (hb.mono HC.out.size));have HB0:=Z9 (HB0.out.trans (hb.mono HB0.out.size));clear hb HSA;go_wp2_with fail;refine(HW0.out _ HB0.out).mono ?_;rintro e x0 ⟨rfl,hb⟩;have HC:=Z9 (HC.out.trans (hb.mono HC.out.size));have HB0:=Z9 (HB0.out.trans (hb.mono HB0.out.size));clear hb;go_wp2_with fail;refine(YW.out _ HB0.out).mono ?_;rintro e x1 ⟨rfl,hb⟩;have HC:=Z9 (HC.out.trans (hb.mono HC.out.size));have HB0:=Z9 (HB0.out.trans (hb.mono HB0.out.size));clear hb;go_wp2_with fail;refine(HW2.out _ HB0.out).mono ?_
   rintro e x2 ⟨rfl,hb⟩;have HC:=Z9 (HC.out.trans (hb.mono HC.out.size));have HB0:=Z9 (HB0.out.trans (hb.mono HB0.out.size));clear hb;go_wp2_with fail;refine(VB.out _ HB0.out).mono ?_;rintro e x3 ⟨rfl,hb⟩;have HC:=Z9 (HC.out.trans (hb.mono HC.out.size));have HB0:=Z9 (HB0.out.trans (hb.mono HB0.out.size));clear hb;go_wp2_with fail;refine(HW4.out _ HB0.out).mono ?_;rintro e x4 ⟨rfl,hb⟩;have HC:=Z9 (HC.out.trans (hb.mono HC.out.size));have HB0:=Z9 (HB0.out.trans (hb.mono HB0.out.size));clear hb;go_wp2_with fail;refine(Tf.out _ HB0.out).mono ?_;rintro e x5 ⟨rfl,hb⟩;have HC:=Z9 (HC.out.trans (hb.mono HC.out.size))
   have HB0:=Z9 (HB0.out.trans (hb.mono HB0.out.size));clear hb;go_wp2_with fail;refine(HW6.out _ HB0.out).mono ?_;rintro e x6 ⟨rfl,hb⟩;have HC:=Z9 (HC.out.trans (hb.mono HC.out.size));have HB0:=Z9 (HB0.out.trans (hb.mono HB0.out.size));clear hb;go_wp2_with fail;refine(HW7.out _ HB0.out).mono ?_;rintro e x7 ⟨rfl,hb⟩;have HC:=Z9 (HC.out.trans (hb.mono HC.out.size));have HB0:=Z9 (HB0.out.trans (hb.mono HB0.out.size));clear hb;go_wp2_with fail;refine(Zi.out _ (HWG.out _ HB0.out)).mono ?_;rintro e s3 ⟨rfl,hb⟩;have HC:=Z9 (HC.out.trans (hb.mono HC.out.size));have HB0:=Z9 (HB0.out.trans (hb.mono HB0.out.size))
   clear hb;obtain⟨c0,c1,c2,c3,c4,c5,c6,c7,c8,c9,ca,cb⟩:=zbz (HF9.out s3 HC.out);obtain⟨d0,d1,d2,d3,d4,d5,d6,d7,d8,d9,da,db⟩:=zbz (HFU.out s3 HC.out);have HSA:=Z9 (zgt (n9+4) nmC _ _ s3 (CtAt.up (Nat.le_add_right _ _) (HX9.out s3 HC.out)) (CtAt.up (Nat.le_add_left _ _) (HXU.out s3 HC.out)) ygx yin);go_wp2_with fail;refine HSA.out.mono ?_;rintro e s4 ⟨rfl,hb⟩;have HF:=Z9 (HB0.out.trans (hb.mono HB0.out.size));clear hb c0 c1 c2 c3 c4 c5 c6 c7 c8 c9 ca cb d0 d1 d2 d3 d4 d5 d6 d7 d8 d9 da db;go_wp2_with fail;go_ret;exact⟨rfl,HF.out⟩
theorem ygm(W:World)(hs:zb6 W)(hp:zcr W):Calls Tryz.prog 7 #[] W (BelB W true) :=
 ygz hs hp (Z9 fun W' hW=>zsb hs hp W' hW) W (Below.refl _ _)
end Go.Proofs.YtkobkpepgdddeaaGreatDoor
