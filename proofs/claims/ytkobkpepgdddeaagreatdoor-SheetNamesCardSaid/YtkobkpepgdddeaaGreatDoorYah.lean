/-
  Tokens: Check, Valid and Text of the program and the reference, joined. No condition.
-/
import Derived.Test.YtkobkpepgdddeaaGreatDoorYag
import Derived.Test.YtkobkpepgdddeaaGreatDoorYaa
import Derived.Test.YtkobkpepgdddeaaGreatDoorYaf
import Derived.RangeFuncBox
import Derived.Lib.BufferOwn
import Derived.Lib.HexFns2
import Derived.Shelf.Spec.SearchS
import Derived.LoopN
namespace Go.Proofs.YtkobkpepgdddeaaGreatDoor
open Go.RowKit
set_option maxHeartbeats 16000000
set_option maxRecDepth 100000
structure Tk where
 kind:Int
 text:ByteArray
 rat:ByteArray
 date:Int
 place:Int
instance:Inhabited Tk:=⟨⟨0,ByteArray.empty,ByteArray.empty,0,0⟩⟩
def kwL:List (List UInt8):=[[110,111,116,104,105,110,103],[112,97,121,115],[116,111],[98,111,116,104],[115,99,97,108,101],[105,102],[101,108,115,101],[111,110],[99,104,111,105,99,101],[98,121],[99,97,108,108],[117,110,116,105,108],[119,104,101,110],[109,97,120],[109,105,110],[110,111,119],[99,97,115,101],[108,101,115,115],[101,113,117,97,108],[97,110,100],[111,114],[110,111,116]]
def kwB(l:List UInt8):Bool:=decide (l ∈ kwL)
inductive Rd (α:Type) where
 |ok (a:α) (l:List Tk)
 |no (l:List Tk)
namespace Rd
def bind{α β:Type}(r:Rd α)(f:α→List Tk→Rd β):Rd β :=
 match r with
 | .ok a l=>f a l
 | .no l=>.no l
@[simp] theorem bind_ok {α β:Type} (a:α) (l:List Tk) (f:α→List Tk→Rd β):(Rd.ok a l).bind f=f a l:=rfl
@[simp] theorem bind_no {α β:Type} (l:List Tk) (f:α→List Tk→Rd β):(Rd.no l:Rd α).bind f=.no l:=rfl
theorem bind_assoc{α β γ:Type}(r:Rd α)(f:α→List Tk→Rd β)(g:β→List Tk→Rd γ):(r.bind f).bind g=r.bind fun a l=>(f a l).bind g:=by
 cases r<;>rfl
def Cons{α:Type}(r:Rd α)(l:List Tk):Prop :=
 match r with
 | .ok _ l'=>l' <:+ l∧l'.length<l.length
 | .no l'=>l' <:+ l
def Cons0{α:Type}(r:Rd α)(l:List Tk):Prop :=
 match r with
 | .ok _ l'=>l' <:+ l
 | .no l'=>l' <:+ l
theorem Cons.zero{α:Type}{r:Rd α}{l:List Tk}(h:r.Cons l):r.Cons0 l:=by
 cases r with
 |ok a l'=>exact h.1
 |no l'=>exact h
theorem Cons.bind{α β:Type}{r:Rd α}{l:List Tk}{f:α→List Tk→Rd β}(h:r.Cons l)(hf:∀a l',l' <:+ l→l'.length<l.length→(f a l').Cons0 l'):(r.bind f).Cons l:=by
 cases r with
 |no l'=>exact h
 |ok a l' =>
  have:=hf a l' h.1 h.2
  show(f a l').Cons l
  cases hq:f a l' with
  |no k=>rw[hq]at this;exact this.trans h.1
  |ok b k=>rw[hq]at this;exact⟨this.trans h.1,Nat.lt_of_le_of_lt this.length_le h.2⟩
theorem Cons0.bind{α β:Type}{r:Rd α}{l:List Tk}{f:α→List Tk→Rd β}(h:r.Cons0 l)(hf:∀a l',l' <:+ l→(f a l').Cons0 l'):(r.bind f).Cons0 l:=by
 cases r with
 |no l'=>exact h
 |ok a l' =>
  have:=hf a l' h
  show(f a l').Cons0 l
  cases hq:f a l' with
  |no k=>rw[hq]at this;exact this.trans h
  |ok b k=>rw[hq]at this;exact this.trans h
end Rd
def tIs(k:Int)(s:List UInt8):List Tk→Bool
 | []=>false
 |t :: _=>decide (t.kind=k) && (t.text.data.toList == s)
def zap:List Tk→List UInt8
 | []=>[]
 |t :: _=>if t.kind=1∧kwB t.text.data.toList=true then t.text.data.toList else[]
def tEat(k:Int)(s:List UInt8)(l:List Tk):Rd Unit:=if tIs k s l=true then .ok () l.tail else .no l
def tOf(k:Int):List Tk→Rd Tk
 | []=>.no []
 |t :: l=>if t.kind=k then .ok t l else .no (t :: l)
def zdc:List Tk→Rd ByteArray
 | []=>.no []
 |t :: l=>if t.kind=2∨(t.kind=1∧kwB t.text.data.toList=false)then .ok t.text l else .no (t :: l)
def tE0:ByteArray:=⟨#[]⟩
def tEx2(k:Int)(x y:Ex):Ex:=.mk k tE0 tE0 0 [x,y]
abbrev RdX:=List Tk→Rd Ex
def zcg:List RdX→Bool→List Tk→Rd (List Ex)
 | [],_,l=>.ok [] l
 |p :: ps,c,l=>(if c=true then tEat 5 [44] l else .ok () l).bind fun _ l=>(p l).bind fun x l=>(zcg ps true l).bind fun xs l=>.ok (x :: xs) l
def zby(k:Int)(ps:List RdX)(l:List Tk):Rd Ex :=
 (tEat 5 [40] l).bind fun _ l=>(zcg ps false l).bind fun xs l=>(tEat 5 [41] l).bind fun _ l=>.ok (.mk k tE0 tE0 0 xs) l
def tFix(l:List Tk):Rd Ex :=
 (zdc l).bind fun n l=>(tEat 5 [64] l).bind fun _ l =>
  if tIs 1 [110,111,119] l=true then .ok (.mk 3 tE0 n 0 []) l.tail
  else(tOf 4 l).bind fun t l=>.ok (.mk 2 tE0 n t.date []) l
def zdl(S:RdX)(l:List Tk):Rd Ex :=
 if tIs 5 [40] l=true then(S l.tail).bind fun x l=>(tEat 5 [41] l).bind fun _ l=>.ok x l
 else match l with
  | []=>tFix []
  |t :: r=>if t.kind=3 then .ok (.mk 1 t.rat tE0 0 []) r else tFix (t :: r)
def zbu(S T:RdX)(l:List Tk):Rd Ex :=
 if zap l=[109,97,120]then zby 7 [S,S] l.tail
 else if zap l=[109,105,110]then zby 8 [S,S] l.tail
 else if zap l=[99,97,115,101]then zby 9 [T,S,S] l.tail
 else if zap l=[]then zdl S l
 else .no l
def zet(F:RdX):Nat→Ex→List Tk→Rd Ex
 |0,_,l=>.no l
 |n+1,x,l=>if tIs 5 [42] l=true then(F l.tail).bind fun y l=>zet F n (tEx2 6 x y) l else .ok x l
def zda(F:RdX)(n:Nat)(l:List Tk):Rd Ex:=(F l).bind fun x l=>zet F n x l
def tAdd(F:RdX)(m:Nat):Nat→Ex→List Tk→Rd Ex
 |0,_,l=>.no l
 |n+1,x,l =>
  if tIs 5 [43] l=true then(zda F m l.tail).bind fun y l=>tAdd F m n (tEx2 4 x y) l
  else if tIs 5 [45] l=true then(zda F m l.tail).bind fun y l=>tAdd F m n (tEx2 5 x y) l
  else .ok x l
def tSum(F:RdX)(n:Nat)(l:List Tk):Rd Ex:=(zda F n l).bind fun x l=>tAdd F n n x l
def zdk(S T:RdX)(l:List Tk):Rd Ex :=
 if zap l=[108,101,115,115]then zby 11 [S,S] l.tail
 else if zap l=[101,113,117,97,108]then zby 12 [S,S] l.tail
 else if zap l=[97,110,100]then zby 13 [T,T] l.tail
 else if zap l=[111,114]then zby 14 [T,T] l.tail
 else if zap l=[110,111,116]then zby 15 [T] l.tail
 else .no l
def rdE:Nat→Bool→RdX
 |0,_=>fun l=>.no l
 |n+1,b=>if b=true then tSum (zbu (rdE n true) (rdE n false)) (n+1)else zdk (rdE n true) (rdE n false)
def zfr:Nat→List Tk→Rd (List Int)
 |0,l=>.no l
 |n+1,l=>if tIs 5 [44] l=true then(tOf 4 l.tail).bind fun t l=>(zfr n l).bind fun ds l=>.ok (t.date :: ds) l else .ok [] l
def zb9(n:Nat)(l:List Tk):Rd (List Int):=(tOf 4 l).bind fun t l=>(zfr n l).bind fun ds l=>.ok (t.date :: ds) l
abbrev RdC:=List Tk→Rd Ct
def tX0:Ex:=.mk 0 tE0 tE0 0 []
def zbh(C:RdC)(l:List Tk):Rd Ct:=(tEat 5 [123] l).bind fun _ l=>(C l).bind fun c l=>(tEat 5 [125] l).bind fun _ l=>.ok c l
def tTwo(C:RdC)(l:List Tk):Rd (List Ct):=(zbh C l).bind fun a l=>(tEat 1 [101,108,115,101] l).bind fun _ l=>(zbh C l).bind fun b l=>.ok [a,b] l
def tPay(S:RdX)(l:List Tk):Rd Ct :=
 (zdc l).bind fun f l=>(tEat 1 [112,97,121,115] l).bind fun _ l=>(S l).bind fun x l=>(zdc l).bind fun n l=>(tEat 1 [116,111] l).bind fun _ l=>(zdc l).bind fun t l =>
  .ok (.mk 2 f t n x 0 [] []) l
def zfs(C:RdC)(l:List Tk):Rd Ct :=
 (tEat 5 [123] l).bind fun _ l=>(C l).bind fun a l=>(tEat 5 [59] l).bind fun _ l=>(C l).bind fun b l=>(tEat 5 [125] l).bind fun _ l=>.ok (.mk 3 tE0 tE0 tE0 tX0 0 [] [a,b]) l
def zge(S:RdX)(C:RdC)(l:List Tk):Rd Ct:=(S l).bind fun x l=>(zbh C l).bind fun a l=>.ok (.mk 4 tE0 tE0 tE0 x 0 [] [a]) l
def tIf(T:RdX)(C:RdC)(l:List Tk):Rd Ct:=(T l).bind fun x l=>(tTwo C l).bind fun ab l=>.ok (.mk 5 tE0 tE0 tE0 x 0 [] ab) l
def tOn(C:RdC)(l:List Tk):Rd Ct:=(tOf 4 l).bind fun t l=>(zbh C l).bind fun a l=>.ok (.mk 6 tE0 tE0 tE0 tX0 t.date [] [a]) l
def tBy(l:List Tk):Rd (ByteArray × ByteArray):=(zdc l).bind fun n l=>(tEat 1 [98,121] l).bind fun _ l=>(zdc l).bind fun f l=>.ok (n,f) l
def zix(C:RdC)(l:List Tk):Rd Ct:=(tBy l).bind fun nf l=>(tTwo C l).bind fun ab l=>.ok (.mk 7 nf.2 tE0 nf.1 tX0 0 [] ab) l
def zb0(C:RdC)(n:Nat)(l:List Tk):Rd (List Int × Ct):=(tEat 1 [111,110] l).bind fun _ l=>(zb9 n l).bind fun ds l=>(zbh C l).bind fun a l=>.ok (ds,a) l
def ziy(C:RdC)(n:Nat)(l:List Tk):Rd Ct:=(tBy l).bind fun nf l=>(zb0 C n l).bind fun da l=>.ok (.mk 8 nf.2 tE0 nf.1 tX0 0 da.1 [da.2]) l
def zes(k:Int)(T:RdX)(C:RdC)(n:Nat)(l:List Tk):Rd Ct:=(T l).bind fun x l=>(zb0 C n l).bind fun da l=>.ok (.mk k tE0 tE0 tE0 x 0 da.1 [da.2]) l
def tCon(S T:RdX)(C:RdC)(n:Nat)(l:List Tk):Rd Ct :=
 if zap l=[]then tPay S l
 else if zap l=[110,111,116,104,105,110,103]then .ok (.mk 1 tE0 tE0 tE0 tX0 0 [] []) l.tail
 else if zap l=[98,111,116,104]then zfs C l.tail
 else if zap l=[115,99,97,108,101]then zge S C l.tail
 else if zap l=[105,102]then tIf T C l.tail
 else if zap l=[111,110]then tOn C l.tail
 else if zap l=[99,104,111,105,99,101]then zix C l.tail
 else if zap l=[99,97,108,108]then ziy C n l.tail
 else if zap l=[117,110,116,105,108]then zes 9 T C n l.tail
 else if zap l=[119,104,101,110]then zes 10 T C n l.tail
 else .no l
def rdC:Nat→RdC
 |0=>fun l=>.no l
 |n+1=>tCon (rdE (n+1) true) (rdE (n+1) false) (rdC n) (n+1)
theorem zav{l:List Tk}(h:zap l≠[]):∃t r,l=t :: r:=by
 cases l with
 |nil=>exact absurd rfl h
 |cons t r=>exact⟨t,r,rfl⟩
theorem zb7{k:Int}{s:List UInt8}{l:List Tk}(h:tIs k s l=true):∃t r,l=t :: r:=by
 cases l with
 |nil=>cases h
 |cons t r=>exact⟨t,r,rfl⟩
theorem zar(k:Int)(s:List UInt8)(l:List Tk):(tEat k s l).Cons l:=by
 unfold tEat
 split
 ·rename_i h
  obtain⟨t,r,rfl⟩:=zb7 h;exact⟨List.suffix_cons _ _,by simp⟩
 ·exact List.suffix_refl _
theorem zdu(k:Int)(l:List Tk):(tOf k l).Cons l:=by
 cases l with
 |nil=>exact List.suffix_refl _
 |cons t r =>
  show(if t.kind=k then Rd.ok t r else Rd.no (t :: r)).Cons (t :: r)
  split
  ·exact⟨List.suffix_cons _ _,by simp⟩
  ·exact List.suffix_refl _
theorem zbp(l:List Tk):(zdc l).Cons l:=by
 cases l with
 |nil=>exact List.suffix_refl _
 |cons t r =>
  show(if t.kind=2∨(t.kind=1∧kwB t.text.data.toList=false)then Rd.ok t.text r else Rd.no (t :: r)).Cons (t :: r)
  split
  ·exact⟨List.suffix_cons _ _,by simp⟩
  ·exact List.suffix_refl _
theorem zbb{α:Type}(a:α)(l:List Tk):(Rd.ok a l).Cons0 l:=List.suffix_refl _
theorem z1s(l:List Tk):l.tail <:+ l:=by
 cases l with
 |nil=>exact List.suffix_refl _
 |cons t r=>exact List.suffix_cons _ _
theorem za3{α:Type}{l:List Tk}(r:Rd α)(hl:∃t q,l=t :: q)(h:r.Cons0 l.tail):r.Cons l:=by
 obtain⟨t,q,rfl⟩:=hl;have hs:q <:+ t :: q:=List.suffix_cons _ _
 cases r with
 |ok a k=>exact⟨List.IsSuffix.trans h hs,Nat.lt_of_le_of_lt (List.IsSuffix.length_le h) (by simp)⟩
 |no k=>exact List.IsSuffix.trans h hs
theorem zkh:∀(ps:List RdX),(∀p ∈ ps,∀l,(p l).Cons l)→∀(c:Bool)(l:List Tk),(zcg ps c l).Cons0 l
 | [],_,_,l=>zbb _ _
 |p :: ps,hp,c,l=>by
  unfold zcg
  refine Rd.Cons0.bind ?_ fun _ l1 _=>(hp p (by simp) l1).zero.bind fun x l2 _=>(zkh ps (fun q hq=>hp q (by simp[hq])) true l2).bind fun xs l3 _=>zbb _ _
  split
  ·exact(zar _ _ _).zero
  ·exact zbb _ _
theorem zc4(k:Int)(ps:List RdX)(hp:∀p ∈ ps,∀l,(p l).Cons l)(l:List Tk):(zby k ps l).Cons l :=
 (zar _ _ _).bind fun _ _l1 _ _=>(zkh ps hp _ _).bind fun _ _l2 _=>(zar _ _ _).zero.bind fun _ _l3 _=>zbb _ _
theorem zos(l:List Tk):(tFix l).Cons l :=
 (zbp l).bind fun _ l1 _ _=>(zar _ _ _).zero.bind fun _ l2 _=>by
  split
  ·exact z1s l2
  ·exact(zdu _ _).zero.bind fun _ l3 _=>zbb _ _
theorem zqr(S:RdX)(hS:∀l,(S l).Cons l)(l:List Tk):(zdl S l).Cons l:=by
 unfold zdl
 split
 ·rename_i h
  exact za3 _ (zb7 h) ((hS _).zero.bind fun _ l1 _=>(zar _ _ _).zero.bind fun _ l2 _=>zbb _ _)
 ·cases l with
  |nil=>exact zos _
  |cons t r =>
   dsimp only
   split
   ·exact⟨List.suffix_cons _ _,by simp⟩
   ·exact zos _
theorem zew(S T:RdX)(hS:∀l,(S l).Cons l)(hT:∀l,(T l).Cons l)(l:List Tk):(zbu S T l).Cons l:=by
 have h2:∀p ∈ [S,S],∀l,(p l).Cons l:=by simp[hS]
 have h3:∀p ∈ [T,S,S],∀l,(p l).Cons l:=by simp[hS,hT]
 unfold zbu
 split
 ·rename_i h;exact za3 _ (zav (by rw[h];simp)) (zc4 _ _ h2 _).zero
 split
 ·rename_i h;exact za3 _ (zav (by rw[h];simp)) (zc4 _ _ h2 _).zero
 split
 ·rename_i h;exact za3 _ (zav (by rw[h];simp)) (zc4 _ _ h3 _).zero
 split
 ·exact zqr S hS l
 ·exact List.suffix_refl _
theorem zl3(F:RdX)(hF:∀l,(F l).Cons l):∀(n:Nat)(x:Ex)(l:List Tk),(zet F n x l).Cons0 l
 |0,_,l=>List.suffix_refl _
 |n+1,x,l=>by
  unfold zet
  split
  ·rename_i h
   exact(za3 _ (zb7 h) ((hF _).zero.bind fun y l1 _=>zl3 F hF n _ l1)).zero
  ·exact zbb _ _
theorem zc3(F:RdX)(hF:∀l,(F l).Cons l)(n:Nat)(l:List Tk):(zda F n l).Cons l :=
 (hF l).bind fun x l1 _ _=>zl3 F hF n x l1
theorem zkj(F:RdX)(hF:∀l,(F l).Cons l)(m:Nat):∀(n:Nat)(x:Ex)(l:List Tk),(tAdd F m n x l).Cons0 l
 |0,_,l=>List.suffix_refl _
 |n+1,x,l=>by
  unfold tAdd
  split
  ·rename_i h
   exact(za3 _ (zb7 h) ((zc3 F hF m _).zero.bind fun y l1 _=>zkj F hF m n _ l1)).zero
  split
  ·rename_i h
   exact(za3 _ (zb7 h) ((zc3 F hF m _).zero.bind fun y l1 _=>zkj F hF m n _ l1)).zero
  ·exact zbb _ _
theorem zwx(F:RdX)(hF:∀l,(F l).Cons l)(n:Nat)(l:List Tk):(tSum F n l).Cons l :=
 (zc3 F hF n l).bind fun x l1 _ _=>zkj F hF n n x l1
theorem zqq(S T:RdX)(hS:∀l,(S l).Cons l)(hT:∀l,(T l).Cons l)(l:List Tk):(zdk S T l).Cons l:=by
 have h2:∀p ∈ [S,S],∀l,(p l).Cons l:=by simp[hS]
 have h3:∀p ∈ [T,T],∀l,(p l).Cons l:=by simp[hT]
 have h4:∀p ∈ [T],∀l,(p l).Cons l:=by simp[hT]
 unfold zdk
 split
 ·rename_i h;exact za3 _ (zav (by rw[h];simp)) (zc4 _ _ h2 _).zero
 split
 ·rename_i h;exact za3 _ (zav (by rw[h];simp)) (zc4 _ _ h2 _).zero
 split
 ·rename_i h;exact za3 _ (zav (by rw[h];simp)) (zc4 _ _ h3 _).zero
 split
 ·rename_i h;exact za3 _ (zav (by rw[h];simp)) (zc4 _ _ h3 _).zero
 split
 ·rename_i h;exact za3 _ (zav (by rw[h];simp)) (zc4 _ _ h4 _).zero
 ·exact List.suffix_refl _
theorem zbi:∀(n:Nat)(b:Bool)(l:List Tk),(rdE n b l).Cons l
 |0,_,_l=>List.suffix_refl _
 |n+1,true,l=>zwx _ (zew _ _ (zbi n true) (zbi n false)) _ l
 |n+1,false,l=>zqq _ _ (zbi n true) (zbi n false) l
open Go.RowKit
def tkC(t:Tk):List Value:=[.int .u8 t.kind,.string t.text,.string t.rat,.int .i64 t.date,.int .i64 t.place]
def TksAt(w:World)(rb:Nat)(a:Option Addr)(l:List Tk):Prop :=
 l=[]∨∃g o,a=some ⟨g,o,none⟩∧g<rb∧g<w.heap.size∧∀i (h:i<l.length),∀j,j<5→w.cell? ⟨g,o+i*5+j,none⟩=(tkC l[i])[j]?
theorem TksAt.kept{w w':World}{rb:Nat}{a:Option Addr}{l:List Tk}{row:Option Nat}(h:TksAt w rb a l)(hg:w.grownBy w' row)(hr:∀k,row=some k→k=rb):TksAt w' rb a l :=
 h.imp id fun⟨g,o,ha,Z0,Z4,hc⟩=>⟨g,o,ha,Z0,Nat.lt_of_lt_of_le Z4 hg.size,fun i hi j hj =>
  (World.cell?_of_block (w:=w) (w':=w') (a:=⟨g,o+i*5+j,none⟩) (hg.block g Z4 (fun e=>Nat.ne_of_lt Z0 (hr g e.symm)))).trans (hc i hi j hj)⟩
def RAt(rb:Nat)(w:World)(l:List Tk):Prop :=
 ∃a cap,Boxed w rb 134 (.slice a l.length cap)∧l.length≤cap∧cap≤maxLen∧TksAt w rb a l
theorem RAt.lt{rb:Nat}{w:World}{l:List Tk}(h:RAt rb w l):rb<w.heap.size:=by
 obtain⟨a,cap,hb,_⟩:=h;exact hb.lt
theorem RAt.kept{rb:Nat}{w w':World}{l:List Tk}(h:RAt rb w l)(hg:w.grownBy w' none):RAt rb w' l:=by
 obtain⟨a,cap,hb,hc,hm,ht⟩:=h;exact⟨a,cap,hb.kept hg (by simp),hc,hm,ht.kept hg (fun k e=>by cases e)⟩
theorem zae{w w':World}(h:Below w.heap.size w w'):w.grownBy w' none:=⟨h.os,h.tape,h.output,h.size,fun k hk _=>h.block k hk⟩
theorem zaq{w w':World}{rb:Nat}(h:w.grownBy w' none):w.grownBy w' (some rb):=⟨h.os,h.tape,h.output,h.size,fun k hk _=>h.block k hk (by simp)⟩
theorem RAt.below{rb:Nat}{w w':World}{l:List Tk}(h:RAt rb w l)(hb:Below w.heap.size w w'):RAt rb w' l:=h.kept (zae hb)
theorem RAt.setNew{rb:Nat}{w:World}{l:List Tk}(h:RAt rb w l){b:Nat}(hb:rb<b)(i:Nat)(v:Value):RAt rb (w.setCell ⟨b,i,none⟩ v) l:=by
 obtain⟨a,cap,hx,hc,hm,ht⟩:=h;have hg:w.grownBy (w.setCell ⟨b,i,none⟩ v) (some b):=Lib.grownBy_setCell w b i v;refine⟨a,cap,hx.kept hg (fun e=>by injection e with e;omega),hc,hm,ht.imp id fun⟨g,o,ha,Z0,Z4,Z5⟩=>⟨g,o,ha,Z0,Nat.lt_of_lt_of_le Z4 hg.size,fun j hj k hk => ?_⟩⟩;exact(World.cell?_of_block (w:=w) (w':=w.setCell ⟨b,i,none⟩ v) (a:=⟨g,o+j*5+k,none⟩) (hg.block g Z4 (fun e=>by injection e with e;omega))).trans (Z5 j hj k hk)
theorem zam{w u:World}{row:Option Nat}(h:w.grownBy u row){b:Nat}(hb:w.heap.size≤b)(i:Nat)(v:Value):w.grownBy (u.setCell ⟨b,i,none⟩ v) row :=
 ⟨h.os,h.tape,h.output,Nat.le_trans h.size (Lib.grownBy_setCell u b i v).size,fun k hk hr=>(Below.heap_setCell _ _ _ _ (by show k≠b;omega)).trans (h.block k hk hr)⟩
theorem z4g{w u:World}{o:Obj}{rb:Nat}(hg:(w.alloc o).grownBy u (some rb))(Z4:rb<w.heap.size):u.heap[w.heap.size]?=some o :=
 (hg.block _ (by simp) (fun e=>by injection e with e;omega)).trans (heap_alloc_new w o)
theorem RAt.head{rb:Nat}{w:World}{t:Tk}{l:List Tk}(h:RAt rb w (t :: l)):∃g o cap,Boxed w rb 134 (.slice (some ⟨g,o,none⟩) (l.length+1) cap)∧l.length+1≤cap∧cap≤maxLen ∧
 (∀j,j<5→w.cell? ⟨g,o+j,none⟩=(tkC t)[j]?)∧g<w.heap.size∧g<rb ∧
 (∀(w':World)(a':Option Addr)(cap':Nat),w.grownBy w' (some rb)→Boxed w' rb 134 (.slice a' l.length cap')→l.length≤cap'→cap'≤maxLen→(l=[]∨a'=some ⟨g,o+5,none⟩)→RAt rb w' l):=by
 obtain⟨a,cap,hb,hc,hm,ht⟩:=h
 rcases ht with ht |⟨g,o,rfl,Z0,Z4,Z5⟩
 ·cases ht
 ·refine⟨g,o,cap,hb,hc,hm,fun j hj => ?_,Z4,Z0,fun w' a' cap' hg hb' hc' hm' ha'=>⟨_,_,hb',hc',hm',?_⟩⟩
  ·have:=Z5 0 (by simp) j hj
   rwa [Nat.zero_mul,Nat.add_zero]at this
  ·rcases ha' with rfl |rfl
   ·exact .inl rfl
   ·refine .inr ⟨g,o+5,rfl,Z0,Nat.lt_of_lt_of_le Z4 hg.size,fun i hi j hj => ?_⟩
    have:=Z5 (i+1) (by rw[List.length_cons];omega) j hj;rw[List.getElem_cons_succ]at this;rw[←this];refine(World.cell?_of_block (w:=w) (w':=w') (a:=⟨g,o+5+i*5+j,none⟩) (hg.block g Z4 (fun e=>Nat.ne_of_lt Z0 (by injection e)))).trans ?_
    congr 2
    omega
theorem RAt.nil{rb:Nat}{w:World}(h:RAt rb w []):∃a cap,Boxed w rb 134 (.slice a 0 cap):=by
 obtain⟨a,cap,hb,_⟩:=h;exact⟨a,cap,hb⟩
theorem zck{u:World}{b:Nat}{x0 x1 x2 x3 x4:Value}{t:TypeId}(h:u.heap[b]?=some (.cells #[x0,x1,x2,x3,x4] t))(v0 v1 v2 v3 v4:Value) :
 ((((((u.setCell ⟨b,0,none⟩ v0).setCell ⟨b,1,none⟩ v1).setCell ⟨b,2,none⟩ v2).setCell ⟨b,3,none⟩ v3).setCell ⟨b,4,none⟩ v4).heap[b]?=some (.cells #[v0,v1,v2,v3,v4] t)):=by
 simp[World.setCell,Array.getElem?_modify,h]
def zod:Ending:=.panicked [{ v:=.iface 136 (.agg #[]),recovered:=false }]
def zaf{α:Type}(V:α→World→Value→Prop)(rb:Nat)(w:World)(r:Rd α)(e:Ending)(w':World):Prop :=
 match r with
 | .ok x l=>∃v,e=.returned v∧V x w' v∧RAt rb w' l∧w.grownBy w' (some rb)
 | .no l=>e=zod∧RAt rb w' l∧w.grownBy w' (some rb)
def VEx(B:Nat)(x:Ex)(w':World)(v:Value):Prop :=
 ∃n a len cap,v=.agg #[.int .u8 x.kind,.string x.rat,.string x.name,.int .i64 x.date,.slice a len cap] ∧
  ExOn (fun g=>B≤g∧g<w'.heap.size) n w' [.int .u8 x.kind,.string x.rat,.string x.name,.int .i64 x.date,.slice a len cap] x
def VTok(t:Tk)(_:World)(v:Value):Prop:=v=.agg #[.int .u8 t.kind,.string t.text,.string t.rat,.int .i64 t.date,.int .i64 t.place]
def zhh(_:Unit)(_:World)(v:Value):Prop:=v=.tuple #[]
def VStr(s:ByteArray)(_:World)(v:Value):Prop:=v=.string s
def qn(s:ByteArray):ByteArray:=if kwB s.data.toList=true then ByteArray.mk #[34] ++ s ++ ByteArray.mk #[34]else s
def kqL:List (List UInt8):=[[97,110,100],[98,111,116,104],[98,121],[99,97,108,108],[99,97,115,101],[99,104,111,105,99,101],[101,108,115,101],[101,113,117,97,108],[105,102],[108,101,115,115],[109,97,120],[109,105,110],[110,111,116],[110,111,116,104,105,110,103],[110,111,119],[111,110],[111,114],[112,97,121,115],[115,99,97,108,101],[116,111],[117,110,116,105,108],[119,104,101,110]]
def kqS(k:Nat):ByteArray:=⟨(kqL[k]?.getD []).toArray⟩
def kqO:Array Value:=((List.range 22).map fun k=>Value.string (kqS k)).toArray
theorem zur(w:World):Calls Tryz.prog 70 #[] w fun e w'=>e=.returned (.slice (some ⟨w.heap.size,0,none⟩) 22 22)∧w'=w.alloc (.cells kqO 9):=by
 go_enter Tryz.func70,Tryz.ntmps70;go_wp2_with fail;go_ret;exact⟨rfl,rfl⟩
theorem z4e(w:World)(k:Nat)(hk:k<22):(w.alloc (.cells kqO 9)).cell? ⟨w.heap.size,k,none⟩=some (.string (kqS k)):=by
 have h:(w.alloc (.cells kqO 9)).heap[w.heap.size]?=some (.cells kqO 9):=by show(w.heap.push _)[w.heap.size]?=_;simp
 rw[zbf h k];unfold kqO;simp[hk]
theorem ydr(l:List UInt8):kwB l=decide (l ∈ kqL):=by
 have h1:∀x ∈ kwL,x ∈ kqL:=by decide
 have h2:∀x ∈ kqL,x ∈ kwL:=by decide
 unfold kwB;exact decide_eq_decide.2 ⟨h1 l,h2 l⟩
theorem z97:∀t,t<22→∀j,j<22→Op.bytesLess (kqL[t]?.getD []) (kqL[j]?.getD [])=decide (t<j):=by decide +kernel
theorem ydt{less:Nat→Bool}{n k:Nat}(h1:∀t,t<k→less t=true)(h2:∀t,k≤t→t<n→less t=false):∀f lo hi:Nat,hi-lo≤f→lo≤k→k≤hi→hi≤n→Lib.bsGo less f lo hi=k:=by
 intro f
 induction f with
 |zero=>intro lo hi a b c d;show lo=k;omega
 |succ f ih =>
  intro lo hi a b c d;rw[Lib.bsGo]
  split
  ·cases hm:less ((lo+hi) / 2)with
   |true =>
    have:(lo+hi) / 2<k:=Nat.lt_of_not_le fun h=>by
     rw[h2 _ h (by omega)]at hm;exact Bool.noConfusion hm
    rw[if_pos rfl];exact ih _ _ (by omega) (by omega) c d
   |false =>
    have:k≤(lo+hi) / 2:=Nat.le_of_not_lt fun h=>by
     rw[h1 _ h]at hm;exact Bool.noConfusion hm
    rw[if_neg Bool.false_ne_true];exact ih _ _ (by omega) b this (by omega)
  ·omega
theorem z4d(s:ByteArray):decide (Lib.bsGo (fun t=>Op.bytesLess (kqS t).toList s.toList) 22 0 22<22∧kqS (Lib.bsGo (fun t=>Op.bytesLess (kqS t).toList s.toList) 22 0 22)=s)=kwB s.data.toList:=by
 rw[ydr];refine decide_eq_decide.2 ⟨fun h => ?_,fun h => ?_⟩
 ·obtain⟨h1,h2⟩:=h
  revert h1 h2;generalize Lib.bsGo (fun t=>Op.bytesLess (kqS t).toList s.toList) 22 0 22=I;intro h1 h2;rw[←h2]
  show kqL[I]?.getD [] ∈ kqL
  rw[List.getElem?_eq_getElem (show I<kqL.length from h1)];exact List.getElem_mem _
 ·obtain⟨j,hj,e⟩:=List.getElem_of_mem h
  have hj':j<22:=hj
  have hs:kqS j=s:=by
   apply Go.WideShapes.bytes_inj
   show kqL[j]?.getD []=_
   rw[List.getElem?_eq_getElem hj];exact e
  have hl:∀t,t<22→Op.bytesLess (kqS t).toList s.toList=decide (t<j):=fun t ht=>by
   rw[←hs,ByteArray.toList_eq,ByteArray.toList_eq];exact z97 t ht j hj'
  have hk:Lib.bsGo (fun t=>Op.bytesLess (kqS t).toList s.toList) 22 0 22=j :=
   ydt (n:=22) (fun t ht=>(hl t (by omega)).trans (decide_eq_true ht)) (fun t a b=>(hl t b).trans (decide_eq_false (by omega))) 22 0 22 (by omega) (by omega) (by omega) (by omega)
  rw[hk];exact⟨hj',hs⟩
end Go.Proofs.YtkobkpepgdddeaaGreatDoor
namespace Go.Proofs
open Go.Shelf
def Tryz.laysQ26_ren:Go.Shelf.Ren:=⟨fun |26=>69 |33=>123 |34=>124 |38=>171 |n=>n,fun |0=>0 |3=>3 |4=>4 |9=>9 |24=>56 |40=>149 |n=>n,fun |n=>n⟩
theorem Tryz.laysQ26:Go.Proofs.Lays2.n26 Tryz.prog Tryz.laysQ26_ren:={
 mixed:=by kernel_rfl
 f26:=Tryz.func69.trans (congrArg some (by kernel_rfl))
 f33:=Tryz.func123.trans (congrArg some (by kernel_rfl))
 f34:=Tryz.func124.trans (congrArg some (by kernel_rfl))
 f38:=Tryz.func171.trans (congrArg some (by kernel_rfl))
 t0:=Tryz.underlying0
 a0:=Tryz.isAgg0
 z0:=Tryz.sizeOf0
 v0:=Tryz.zeroValue0
 t3:=Tryz.underlying3
 a3:=Tryz.isAgg3
 z3:=Tryz.sizeOf3
 v3:=Tryz.zeroValue3
 t4:=Tryz.underlying4
 a4:=Tryz.isAgg4
 z4:=Tryz.sizeOf4
 v4:=Tryz.zeroValue4
 t9:=Tryz.underlying9
 a9:=Tryz.isAgg9
 z9:=Tryz.sizeOf9
 v9:=Tryz.zeroValue9
 t24:=Tryz.underlying56
 a24:=Tryz.isAgg56
 z24:=Tryz.sizeOf56
 v24:=Tryz.zeroValue56
 t40:=Tryz.underlying149
 a40:=Tryz.isAgg149
 z40:=Tryz.sizeOf149
 v40:=Tryz.zeroValue149 }
end Go.Proofs
namespace Go.Proofs.YtkobkpepgdddeaaGreatDoor
open Go.RowKit
set_option maxHeartbeats 16000000
set_option maxRecDepth 100000
theorem zo8(s:ByteArray)(w:World):Calls Tryz.prog 27 #[.string s] w (BelB w (kwB s.data.toList)):=by
 have HW:=Z9 (fun W=>zur W);have HB:=Z9 (zaa w (.cells kqO 9))
 have HS:Hid (Calls Tryz.prog 69 #[.slice (some ⟨w.heap.size,0,none⟩) 22 22,.string s] (w.alloc (.cells kqO 9)) fun e w'=>∃I:Int,e=.returned (.tuple #[.int .i64 I,.bool (kwB s.data.toList)])∧∃q,w'=(w.alloc (.cells kqO 9)).drewN q):=by
  refine Z9 (Calls.mono (Any2.slices_BinarySearch_string Tryz.laysQ26 w.heap.size 0 22 22 kqS s _ (by decide) (fun j hj=>by rw[Nat.zero_add];exact z4e w j hj)) ?_);rintro e w' ⟨h1,h2⟩;exact⟨_,by rw[h1,z4d],h2⟩
 obtain⟨b,hb⟩:∃b,b=kwB s.data.toList:=⟨_,rfl⟩
 rw[←hb]at HS ⊢;clear hb;go_enter Tryz.func27,Tryz.ntmps27;go_wp2_with fail;refine(HW.out _).mono ?_;rintro e w' ⟨rfl,rfl⟩;obtain⟨W1,YK⟩:∃W1,W1=w.alloc (.cells kqO 9):=⟨_,rfl⟩
 rw[←YK]at HS HB ⊢;clear YK;go_wp2_with fail;refine HS.out.mono ?_;rintro e w' ⟨I,rfl,q,rfl⟩;have HD:=Z9 (za4 HB.out q);go_wp2_with fail;go_ret;exact⟨rfl,HD.out⟩
theorem zfp{w:World}{g o:Nat}{t:Tk}(h:∀j,j<5→w.cell? ⟨g,o+j,none⟩=(tkC t)[j]?) :
 w.cell? ⟨g,o,none⟩=some (.int .u8 t.kind)∧w.cell? ⟨g,o+1,none⟩=some (.string t.text)∧w.cell? ⟨g,o+2,none⟩=some (.string t.rat)∧w.cell? ⟨g,o+3,none⟩=some (.int .i64 t.date)∧w.cell? ⟨g,o+4,none⟩=some (.int .i64 t.place) :=
 ⟨h 0 (by omega),h 1 (by omega),h 2 (by omega),h 3 (by omega),h 4 (by omega)⟩
theorem ybg(k:Int)(s:ByteArray)(t:Tk)(l:List Tk):tIs k s.data.toList (t :: l)=((t.kind == k) && (t.text.toList == s.toList)):=by
 rw[zag,zag]
 show(decide (t.kind=k) && _)=_
 by_cases h:t.kind=k
 ·rw[decide_eq_true h];simp[h]
 ·rw[decide_eq_false h];simp[h]
theorem zjg(rb:Nat)(k:Int)(s:ByteArray)(w:World)(l:List Tk)(h:RAt rb w l) :
 Calls Tryz.prog 114 #[.pointer (some ⟨rb,0,none⟩),.int .u8 k,.string s] w (BelB w (tIs k s.data.toList l)):=by
 cases l with
 |nil =>
  obtain⟨a,cap,hb⟩:=h.nil;have h0:=hb.cell;clear hb h;go_enter Tryz.func114,Tryz.ntmps114;go_wp2_with fail;go_ret;exact⟨rfl,(Below.refl _ _)⟩
 |cons t l =>
  obtain⟨g,o,cap,hb,hc,hm,Z5,hg,Z0,_⟩:=h.head;have h0:=hb.cell;obtain⟨c0,c1,_,_,_⟩:=zfp Z5;have hl:(0:Int)<((l.length+1:Nat):Int):=by omega
  have hl0:0<l.length+1:=by omega
  rw[ybg];obtain⟨n,hn⟩:∃n,n=l.length+1:=⟨_,rfl⟩
  rw[←hn]at h0 hl hl0 hc;clear hb h Z5 hn;obtain⟨b1,ZJ⟩:∃b,(t.kind == k)=b:=⟨_,rfl⟩
  obtain⟨b2,Z3⟩:∃b,(t.text.toList == s.toList)=b:=⟨_,rfl⟩
  rw[ZJ,Z3]
  cases b1<;>cases b2
  all_goals
   go_enter Tryz.func114,Tryz.ntmps114;go_wp2_with fail;go_ret;exact⟨rfl,(Below.refl _ _)⟩
theorem zg2(rb:Nat)(w:World):Calls Tryz.prog 110 #[.pointer (some ⟨rb,0,none⟩)] w (fun e w'=>e=zod∧w'=w):=by
 go_enter Tryz.func110,Tryz.ntmps110;go_wp2_with fail;exact⟨rfl,rfl,rfl⟩
theorem zaz(rb:Nat)(w:World)(t:Tk)(l:List Tk)(h:RAt rb w (t :: l)) :
 Calls Tryz.prog 111 #[.pointer (some ⟨rb,0,none⟩)] w (zaf VTok rb w (.ok t l)):=by
 obtain⟨g,o,cap,hb,hc,hm,Z5,hg,Z0,Yo⟩:=h.head;have h0:=hb.cell;have hf:=hb.frozen;obtain⟨c0,c1,c2,c3,c4⟩:=zfp Z5;have X9:1≤l.length+1:=by omega
 have hl0:0<l.length+1:=by omega
 have HS:=Z9 Yo;have HB:=Z9 hb;have Z4:=h.lt;clear hb h Z5 Yo
 by_cases Se:cap=1
 ·have hl:l.length=0:=by omega
  have HL:=Z9 (List.length_eq_zero_iff.1 hl);have HLE:=Z9 hl;subst Se;clear hl;go_enter Tryz.func111,Tryz.ntmps111;go_wp2_with fail;have hb':=(HB.out.set (.slice (some ⟨g,o,none⟩) 0 0));have hg':=Lib.grownBy_allocR (Lib.grownBy_allocR (grownBy_setCell' w rb (.slice (some ⟨g,o,none⟩) 0 0)) (.cells #[.int .u8 t.kind,.string t.text,.string t.rat,.int .i64 t.date,.int .i64 t.place] 100)) (.cells #[.int .u8 t.kind,.string t.text,.string t.rat,.int .i64 t.date,.int .i64 t.place] 100);have HS':=HS.out;rw[HLE.out]at HS';exact bodyPost_ret (v:=.agg #[.int .u8 t.kind,.string t.text,.string t.rat,.int .i64 t.date,.int .i64 t.place]) (by simp[results,Tryz.results111,go_sem]) rfl ⟨_,rfl,rfl,HS' _ _ _ hg' ((hb'.alloc _).alloc _) (Nat.le_refl _) (by omega) (.inl HL.out),hg'⟩
 ·go_enter Tryz.func111,Tryz.ntmps111
  go_wp2_with fail;have hb':=(HB.out.set (.slice (some ⟨g,o+5,none⟩) l.length (cap-1)));have hg':=Lib.grownBy_allocR (Lib.grownBy_allocR (grownBy_setCell' w rb (.slice (some ⟨g,o+5,none⟩) l.length (cap-1))) (.cells #[.int .u8 t.kind,.string t.text,.string t.rat,.int .i64 t.date,.int .i64 t.place] 100)) (.cells #[.int .u8 t.kind,.string t.text,.string t.rat,.int .i64 t.date,.int .i64 t.place] 100);exact bodyPost_ret (v:=.agg #[.int .u8 t.kind,.string t.text,.string t.rat,.int .i64 t.date,.int .i64 t.place]) (by simp[results,Tryz.results111,go_sem]) rfl ⟨_,rfl,rfl,HS.out _ _ _ hg' ((hb'.alloc _).alloc _) (by omega) (by omega) (.inr rfl),hg'⟩
theorem zf6(rb:Nat)(k:Int)(w:World)(l:List Tk)(h:RAt rb w l) :
 Calls Tryz.prog 133 #[.pointer (some ⟨rb,0,none⟩),.int .u8 k] w (zaf VTok rb w (tOf k l)):=by
 have HSTOP:=Z9 (fun W=>zg2 rb W)
 cases l with
 |nil =>
  obtain⟨a,cap,hb⟩:=h.nil;have h0:=hb.cell;have HR:=Z9 h;have Z4:=h.lt;clear hb h;go_enter Tryz.func133,Tryz.ntmps133;go_wp2_with fail;refine(HSTOP.out _).mono ?_;rintro e u ⟨rfl,rfl⟩;exact⟨rfl,rfl,HR.out.below (zaa _ _),World.grownBy_alloc _ _ _⟩
 |cons t l =>
  obtain⟨g,o,cap,hb,hc,hm,Z5,hg,Z0,_⟩:=h.head;have h0:=hb.cell;obtain⟨c0,_,_,_,_⟩:=zfp Z5;have hl:(0:Int)<((l.length+1:Nat):Int):=by omega
  have hl0:0<l.length+1:=by omega
  have HTK:=Z9 (fun W (hW:RAt rb W (t :: l))=>zaz rb W t l hW);have HR:=Z9 h;have Z4:=h.lt
  have hR:tOf k (t :: l)=if (t.kind == k)=true then .ok t l else .no (t :: l):=by
   show(if t.kind=k then _ else _)=_
   by_cases e:t.kind=k
   ·rw[if_pos e,if_pos (by simp[e])]
   ·rw[if_neg e,if_neg (by simp[e])]
  rw[hR];obtain⟨n,hn⟩:∃n,n=l.length+1:=⟨_,rfl⟩
  rw[←hn]at h0 hl hl0 hc;clear hb h Z5 hn hR;obtain⟨b1,ZJ⟩:∃b,(t.kind == k)=b:=⟨_,rfl⟩
  have Z3:(t.kind != k) = !b1:=by rw[←ZJ];rfl
  rw[ZJ]
  cases b1
  ·go_enter Tryz.func133,Tryz.ntmps133
   go_wp2_with fail;refine(HSTOP.out _).mono ?_;rintro e u ⟨rfl,rfl⟩;exact⟨rfl,rfl,HR.out.below (zaa _ _),World.grownBy_alloc _ _ _⟩
  ·go_enter Tryz.func133,Tryz.ntmps133
   go_wp2_with fail;refine(HTK.out _ (HR.out.below (zaa _ _))).mono ?_;rintro e u ⟨v,rfl,rfl,hr,Yz⟩;have hz:=z4g Yz Z4;have Te:w.heap.size<u.heap.size:=(Z8 hz);obtain⟨z0,z1,z2,z3,z4⟩:=zad hz;have V0:∀i,u.frozen? ⟨w.heap.size,i,none⟩=false:=Lib.frozen_of_heap hz
   have hfin:=zad (zck hz (.int .u8 t.kind) (.string t.text) (.string t.rat) (.int .i64 t.date) (.int .i64 t.place));have HF:=Z9 hfin;have HG:=Z9 (And.intro hr Yz);have HL:=Z9 Z4;clear hr Yz hz c0 h0 Z4 hfin;go_wp2_with fail;obtain⟨y0,y1,y2,y3,y4⟩:=HF.out;refine bodyPost_ret (v:=.agg #[.int .u8 t.kind,.string t.text,.string t.rat,.int .i64 t.date,.int .i64 t.place]) (by simp only[results,Tryz.results133];simp[go_sem,y0,y1,y2,y3,y4]) rfl ⟨_,rfl,rfl,?_,?_⟩
   ·exact((((HG.out.1.setNew HL.out _ _).setNew HL.out _ _).setNew HL.out _ _).setNew HL.out _ _).setNew HL.out _ _
   ·exact zam (zam (zam (zam (zam (Lib.grownBy_trans (World.grownBy_alloc _ _ _) HG.out.2) (Nat.le_refl _) _ _) (Nat.le_refl _) _ _) (Nat.le_refl _) _ _) (Nat.le_refl _) _ _) (Nat.le_refl _) _ _
theorem z4o(a b c d e:Value)(w:World):(Instr.field 100 (.agg #[a,b,c,d,e]) 1).run Tryz.prog w=.ok b w:=by kernel_rfl
theorem yaf(a b c d e:Value)(w:World):(Instr.field 100 (.agg #[a,b,c,d,e]) 2).run Tryz.prog w=.ok c w:=by kernel_rfl
theorem zco(a b c d e:Value)(w:World):(Instr.field 100 (.agg #[a,b,c,d,e]) 3).run Tryz.prog w=.ok d w:=by kernel_rfl
def zfb:List Tk→ByteArray
 | []=>tE0
 |t :: _=>if t.kind=1∧kwB t.text.data.toList=true then t.text else tE0
theorem zfq(l:List Tk):(zfb l).data.toList=zap l:=by
 cases l with
 |nil=>rfl
 |cons t r =>
  show(if _ then _ else _:ByteArray).data.toList=if _ then _ else _
  by_cases h:t.kind=1∧kwB t.text.data.toList=true
  ·rw[if_pos h,if_pos h]
  ·rw[if_neg h,if_neg h];rfl
def StrP(w:World)(s:ByteArray)(e:Ending)(w':World):Prop:=e=.returned (.string s)∧Below w.heap.size w w'
theorem za1(rb:Nat)(w:World)(l:List Tk)(h:RAt rb w l) :
 Calls Tryz.prog 62 #[.pointer (some ⟨rb,0,none⟩)] w (StrP w (zfb l)):=by
 cases l with
 |nil =>
  obtain⟨a,cap,hb⟩:=h.nil;have h0:=hb.cell;have Z4:=h.lt;clear hb h;go_enter Tryz.func62,Tryz.ntmps62;go_wp2_with fail;go_ret;exact⟨rfl,Below.refl _ _⟩
 |cons t l =>
  obtain⟨g,o,cap,hb,hc,hm,Z5,hg,Z0,_⟩:=h.head;have h0:=hb.cell;obtain⟨c0,c1,_,_,_⟩:=zfp Z5;have hl:(0:Int)<((l.length+1:Nat):Int):=by omega
  have hl0:0<l.length+1:=by omega
  have HK:=Z9 (fun W=>zo8 t.text W);have HR:=Z9 h;have Z4:=h.lt
  have hR:zfb (t :: l)=if ((t.kind == 1) && kwB t.text.data.toList)=true then t.text else tE0:=by
   show(if t.kind=1∧kwB t.text.data.toList=true then _ else _)=_
   by_cases e:t.kind=1
   ·cases hk:kwB t.text.data.toList<;>simp[e]
   ·simp[e]
  rw[hR];obtain⟨n,hn⟩:∃n,n=l.length+1:=⟨_,rfl⟩
  rw[←hn]at h0 hl hl0 hc;clear hb h Z5 hn hR;obtain⟨b1,ZJ⟩:∃b,(t.kind == 1)=b:=⟨_,rfl⟩
  obtain⟨b2,Z3⟩:∃b,kwB t.text.data.toList=b:=⟨_,rfl⟩
  rw[ZJ,Z3];rw[Z3]at HK;clear Z3
  cases b1
  ·go_enter Tryz.func62,Tryz.ntmps62
   go_wp2_with fail;go_ret;exact⟨rfl,Below.refl _ _⟩
  ·cases b2
   ·go_enter Tryz.func62,Tryz.ntmps62
    go_wp2_with fail;refine(HK.out _).mono ?_;rintro e u ⟨rfl,hb⟩;have HB:=Z9 hb;clear hb;go_wp2_with fail;go_ret;exact⟨rfl,HB.out⟩
   ·go_enter Tryz.func62,Tryz.ntmps62
    go_wp2_with fail;refine(HK.out _).mono ?_;rintro e u ⟨rfl,hb⟩;have h0u:=((zbg hb).1 rb 0 Z4).trans h0;have c1u:=((zbg hb).1 g (o+1) hg).trans c1;have HB:=Z9 hb;clear hb h0 c0 c1;go_wp2_with fail;go_ret;exact⟨rfl,HB.out⟩
theorem za8(rb g2:Nat)(k:Int)(s:ByteArray)(w:World)(l:List Tk)(h:RAt rb w l)(hs:w.cell? ⟨g2,0,none⟩=some (.string s)) :
 Calls Tryz.prog 132 #[.pointer (some ⟨rb,0,none⟩),.int .u8 k,.slice (some ⟨g2,0,none⟩) 1 1] w (zaf zhh rb w (tEat k s.data.toList l)):=by
 have HIS:=Z9 (fun W (hW:RAt rb W l)=>zjg rb k s W l hW);have HSTOP:=Z9 (fun W=>zg2 rb W);have HR:=Z9 h;clear h;unfold tEat
 cases ht:tIs k s.data.toList l
 ·rw[ht]at HIS
  clear ht;go_enter Tryz.func132,Tryz.ntmps132;go_wp2_with fail;refine wp_loop_rounds 2 ?_;rw[rounds_succ];go_wp2_with fail;refine(HIS.out _ HR.out).mono ?_;rintro e u ⟨rfl,hb⟩;have HB:=Z9 hb;clear hb;go_wp2_with fail;refine(HSTOP.out _).mono ?_;rintro e u2 ⟨rfl,rfl⟩;exact⟨rfl,rfl,HR.out.below HB.out,zaq (zae HB.out)⟩
 ·obtain⟨t,r,rfl⟩:=zb7 ht
  rw[ht]at HIS;have HTK:=Z9 (fun W (hW:RAt rb W (t :: r))=>zaz rb W t r hW);clear ht;go_enter Tryz.func132,Tryz.ntmps132;go_wp2_with fail;refine wp_loop_rounds 2 ?_;rw[rounds_succ];go_wp2_with fail;refine(HIS.out _ HR.out).mono ?_;rintro e u ⟨rfl,hb⟩;have HB:=Z9 hb;clear hb;go_wp2_with fail;refine(HTK.out _ (HR.out.below HB.out)).mono ?_;rintro e u2 ⟨v,rfl,rfl,hr,hg⟩;have HG:=Z9 (And.intro hr (Lib.grownBy_trans (zaq (zae HB.out)) hg));clear hr hg;go_wp2_with fail;rw[rounds_succ];go_wp2_with fail;go_end0;exact⟨_,rfl,rfl,HG.out.1,HG.out.2⟩
theorem zd3(rb:Nat)(w:World)(l:List Tk)(h:RAt rb w l) :
 Calls Tryz.prog 131 #[.pointer (some ⟨rb,0,none⟩)] w (zaf VStr rb w (zdc l)):=by
 have HSTOP:=Z9 (fun W=>zg2 rb W);have hfld:=z4o;have HHD:=Z9 (fun W (hW:RAt rb W l)=>za1 rb W l hW);have HR:=Z9 h;have Z4:=h.lt
 cases l with
 |nil =>
  obtain⟨a,cap,hb⟩:=h.nil;have h0:=hb.cell;clear hb h;go_enter Tryz.func131,Tryz.ntmps131;go_wp2_with fail;refine(HSTOP.out _).mono ?_;rintro e u ⟨rfl,rfl⟩;exact⟨rfl,rfl,HR.out,World.grownBy.refl _ _⟩
 |cons t l =>
  obtain⟨g,o,cap,hb,hc,hm,Z5,hg,Z0,_⟩:=h.head;have h0:=hb.cell;obtain⟨c0,_,_,_,_⟩:=zfp Z5;have hl:(0:Int)<((l.length+1:Nat):Int):=by omega
  have hl0:0<l.length+1:=by omega
  have HTK:=Z9 (fun W (hW:RAt rb W (t :: l))=>zaz rb W t l hW);obtain⟨S,hS⟩:∃S,S=zfb (t :: l):=⟨_,rfl⟩
  rw[←hS]at HHD;obtain⟨n,hn⟩:∃n,n=l.length+1:=⟨_,rfl⟩
  rw[←hn]at h0 hl hl0 hc;have hn0:((n:Int) == 0)=false:=by simp;omega
  by_cases k2:t.kind=2
  ·have hR:zdc (t :: l)=.ok t.text l:=if_pos (.inl k2)
   have e:S=⟨#[]⟩:=by
    rw[hS];exact if_neg (by rw[k2];rintro⟨a,_⟩;cases a)
   rw[hR];rw[e]at HHD;have d2:(t.kind == 2)=true:=by simp[k2]
   have d2':(t.kind != 2)=false:=by simp[k2]
   clear hb h Z5 hn hR hS e k2;go_enter Tryz.func131,Tryz.ntmps131;go_wp2_with fail;refine(HHD.out _ HR.out).mono ?_;rintro e u ⟨rfl,hb⟩;have HB:=Z9 hb;clear hb h0 c0;go_wp2_with fail;refine(HTK.out _ (HR.out.below HB.out)).mono ?_;rintro e u2 ⟨v,rfl,rfl,hr,hg⟩;have HG:=Z9 (And.intro hr (Lib.grownBy_trans (zaq (zae HB.out)) hg));clear hr hg;go_wp2_with fail;go_ret;exact⟨_,rfl,rfl,HG.out.1,HG.out.2⟩
  ·by_cases k1:t.kind=1
   ·have d2:(t.kind == 2)=false:=by simp[k2]
    have d2':(t.kind != 2)=true:=by simp[k2]
    have d1:(t.kind == 1)=true:=by simp[k1]
    have d1':(t.kind != 1)=false:=by simp[k1]
    cases hk:kwB t.text.data.toList
    ·have hR:zdc (t :: l)=.ok t.text l:=if_pos (.inr ⟨k1,hk⟩)
     have e:S=⟨#[]⟩:=by
      rw[hS];exact if_neg (by rw[hk];rintro⟨_,a⟩;cases a)
     rw[hR];rw[e]at HHD;clear hb h Z5 hn hR hS e k2 k1 hk;go_enter Tryz.func131,Tryz.ntmps131;go_wp2_with fail;refine(HHD.out _ HR.out).mono ?_;rintro e u ⟨rfl,hb⟩;have HB:=Z9 hb;clear hb h0 c0;go_wp2_with fail;refine(HTK.out _ (HR.out.below HB.out)).mono ?_;rintro e u2 ⟨v,rfl,rfl,hr,hg⟩;have HG:=Z9 (And.intro hr (Lib.grownBy_trans (zaq (zae HB.out)) hg));clear hr hg;go_wp2_with fail;go_ret;exact⟨_,rfl,rfl,HG.out.1,HG.out.2⟩
    ·have hR:zdc (t :: l)=.no (t :: l):=if_neg (by
      rintro(a |⟨_,a⟩)
      ·exact k2 a
      ·rw[hk]at a;cases a)
     have e:S=t.text:=by
      rw[hS];exact if_pos ⟨k1,hk⟩
     have Z0:t.text.data.toList≠[]:=fun a=>by rw[a]at hk;exact absurd hk (by decide)
     rw[hR];rw[e]at HHD;obtain⟨S2,SP⟩:∃S2,S2=t.text:=⟨_,rfl⟩
     rw[←SP]at HHD Z0
     have hne1:(S2.toList == [])=false:=by
      rw[zag]
      cases hq:S2.data.toList with
      |nil=>exact absurd hq Z0
      |cons a b=>rfl
     clear hb h Z5 hn hR hS e k2 k1 hk SP Z0;go_enter Tryz.func131,Tryz.ntmps131;go_wp2_with fail;refine(HHD.out _ HR.out).mono ?_;rintro e u ⟨rfl,hb⟩;have HB:=Z9 hb;clear hb h0 c0;go_wp2_with fail;refine(HSTOP.out _).mono ?_;rintro e u2 ⟨rfl,rfl⟩;exact⟨rfl,rfl,HR.out.below HB.out,zaq (zae HB.out)⟩
   ·have hR:zdc (t :: l)=.no (t :: l):=if_neg (by
     rintro(a |⟨a,_⟩)
     ·exact k2 a
     ·exact k1 a)
    have d2:(t.kind == 2)=false:=by simp[k2]
    have d2':(t.kind != 2)=true:=by simp[k2]
    have d1:(t.kind == 1)=false:=by simp[k1]
    have d1':(t.kind != 1)=true:=by simp[k1]
    rw[hR];clear hb h Z5 hn hR hS HHD;go_enter Tryz.func131,Tryz.ntmps131;go_wp2_with fail;refine(HSTOP.out _).mono ?_;rintro e u2 ⟨rfl,rfl⟩;exact⟨rfl,rfl,HR.out,World.grownBy.refl _ _⟩
def zpT(t:Tk):Tk:={ t with place:=0 }
def Rd.map0{α:Type}:Rd α→Rd α
 | .ok a l=>.ok a (l.map zpT)
 | .no l=>.no (l.map zpT)
def Nat0{α:Type}(f:List Tk→Rd α):Prop:=∀l,f (l.map zpT)=(f l).map0
theorem zai{α β:Type}{r r':Rd α}{g g':α→List Tk→Rd β}(hr:r'=r.map0)(hg:∀a l,g' a (l.map zpT)=(g a l).map0):r'.bind g'=(r.bind g).map0:=by
 subst hr
 cases r with
 |ok a l=>exact hg a l
 |no l=>rfl
theorem tIs0(k:Int)(s:List UInt8)(l:List Tk):tIs k s (l.map zpT)=tIs k s l:=by cases l<;>rfl
theorem zsr(l:List Tk):zap (l.map zpT)=zap l:=by cases l<;>rfl
theorem zm7(l:List Tk):(l.map zpT).tail=l.tail.map zpT:=by cases l<;>rfl
theorem zhl(k:Int)(s:List UInt8):Nat0 (tEat k s):=fun l=>by
 unfold tEat;rw[tIs0,zm7]
 split<;>rfl
theorem zl7:Nat0 zdc:=fun l=>by
 cases l with
 |nil=>rfl
 |cons t r =>
  show(if t.kind=2∨(t.kind=1∧kwB t.text.data.toList=false)then _ else _)=Rd.map0 (if t.kind=2∨(t.kind=1∧kwB t.text.data.toList=false)then _ else _)
  split<;>rfl
theorem tOf0{β:Type}(k:Int)(g:Tk→List Tk→Rd β)(hg:∀t l,g (zpT t) (l.map zpT)=(g t l).map0):Nat0 fun l=>(tOf k l).bind g:=fun l=>by
 cases l with
 |nil=>rfl
 |cons t r =>
  show(if t.kind=k then Rd.ok (zpT t) (r.map zpT)else Rd.no ((t :: r).map zpT)).bind g=Rd.map0 ((if t.kind=k then Rd.ok t r else Rd.no (t :: r)).bind g)
  split
  ·exact hg t r
  ·rfl
theorem zwz:∀(ps:List RdX),(∀p ∈ ps,Nat0 p)→∀c,Nat0 (zcg ps c)
 | [],_,_=>fun l=>rfl
 |p :: ps,hp,c=>fun l=>by
  unfold zcg
  refine zai ?_ fun _ l1=>zai (hp p (by simp) l1) fun x l2=>zai (zwz ps (fun q hq=>hp q (by simp[hq])) true l2) fun xs l3=>rfl
  split
  ·exact zhl _ _ l
  ·rfl
theorem zjb(k:Int)(ps:List RdX)(hp:∀p ∈ ps,Nat0 p):Nat0 (zby k ps):=fun l =>
 zai (zhl _ _ l) fun _ l1=>zai (zwz ps hp _ l1) fun _xs l2=>zai (zhl _ _ l2) fun _ _l3=>rfl
theorem yde:Nat0 tFix:=fun l =>
 zai (zl7 l) fun n l1=>zai (zhl _ _ l1) fun _ l2=>by
  rw[tIs0,zm7]
  split
  ·rfl
  ·exact tOf0 4 _ (fun t l=>rfl) l2
theorem z79(S:RdX)(hS:Nat0 S):Nat0 (zdl S):=fun l=>by
 unfold zdl;rw[tIs0,zm7]
 split
 ·exact zai (hS _) fun x l1=>zai (zhl _ _ l1) fun _ l2=>rfl
 ·cases l with
  |nil=>rfl
  |cons t r =>
   show(if t.kind=3 then _ else tFix (List.map zpT (t :: r)))=Rd.map0 (if t.kind=3 then _ else tFix (t :: r))
   split
   ·rfl
   ·exact yde _
theorem z10(S T:RdX)(hS:Nat0 S)(hT:Nat0 T):Nat0 (zbu S T):=fun l=>by
 have h2:∀p ∈ [S,S],Nat0 p:=by simp[hS]
 have h3:∀p ∈ [T,S,S],Nat0 p:=by simp[hS,hT]
 unfold zbu;rw[zsr,zm7]
 split
 ·exact zjb _ _ h2 _
 split
 ·exact zjb _ _ h2 _
 split
 ·exact zjb _ _ h3 _
 split
 ·exact z79 S hS l
 ·rfl
theorem z6v(F:RdX)(hF:Nat0 F):∀(n:Nat)(x:Ex),Nat0 (zet F n x)
 |0,_=>fun l=>rfl
 |n+1,x=>fun l=>by
  unfold zet;rw[tIs0,zm7]
  split
  ·exact zai (hF _) fun y l1=>z6v F hF n _ l1
  ·rfl
theorem zww(F:RdX)(hF:Nat0 F)(n:Nat):Nat0 (zda F n):=fun l=>zai (hF l) fun x l1=>z6v F hF n x l1
theorem z8c(F:RdX)(hF:Nat0 F)(m:Nat):∀(n:Nat)(x:Ex),Nat0 (tAdd F m n x)
 |0,_=>fun l=>rfl
 |n+1,x=>fun l=>by
  unfold tAdd;rw[tIs0,tIs0,zm7]
  split
  ·exact zai (zww F hF m _) fun y l1=>z8c F hF m n _ l1
  split
  ·exact zai (zww F hF m _) fun y l1=>z8c F hF m n _ l1
  ·rfl
theorem ydc(F:RdX)(hF:Nat0 F)(n:Nat):Nat0 (tSum F n):=fun l=>zai (zww F hF n l) fun x l1=>z8c F hF n n x l1
theorem z78(S T:RdX)(hS:Nat0 S)(hT:Nat0 T):Nat0 (zdk S T):=fun l=>by
 have h2:∀p ∈ [S,S],Nat0 p:=by simp[hS]
 have h3:∀p ∈ [T,T],Nat0 p:=by simp[hT]
 have h4:∀p ∈ [T],Nat0 p:=by simp[hT]
 unfold zdk;rw[zsr,zm7]
 split
 ·exact zjb _ _ h2 _
 split
 ·exact zjb _ _ h2 _
 split
 ·exact zjb _ _ h3 _
 split
 ·exact zjb _ _ h3 _
 split
 ·exact zjb _ _ h4 _
 ·rfl
theorem rdE0:∀(n:Nat)(b:Bool),Nat0 (rdE n b)
 |0,_=>fun _l=>rfl
 |n+1,true=>ydc _ (z10 _ _ (rdE0 n true) (rdE0 n false)) _
 |n+1,false=>z78 _ _ (rdE0 n true) (rdE0 n false)
theorem z6w:∀n,Nat0 (zfr n)
 |0=>fun l=>rfl
 |n+1=>fun l=>by
  unfold zfr;rw[tIs0,zm7]
  split
  ·exact tOf0 4 _ (fun t l=>zai (z6w n l) fun ds l1=>rfl) _
  ·rfl
theorem z8b(n:Nat):Nat0 (zb9 n):=tOf0 4 _ (fun _t l=>zai (z6w n l) fun _ds _l1=>rfl)
theorem zki(C:RdC)(hC:Nat0 C):Nat0 (zbh C):=fun l =>
 zai (zhl _ _ l) fun _ l1=>zai (hC l1) fun _c l2=>zai (zhl _ _ l2) fun _ _l3=>rfl
theorem ybf(C:RdC)(hC:Nat0 C):Nat0 (tTwo C):=fun l =>
 zai (zki C hC l) fun _a l1=>zai (zhl _ _ l1) fun _ l2=>zai (zki C hC l2) fun _c _l3=>rfl
theorem ydd(S:RdX)(hS:Nat0 S):Nat0 (tPay S):=fun l =>
 zai (zl7 l) fun _ l1=>zai (zhl _ _ l1) fun _ l2=>zai (hS l2) fun _x l3=>zai (zl7 l3) fun _ l4=>zai (zhl _ _ l4) fun _ l5=>zai (zl7 l5) fun _ _l6=>rfl
theorem ybh(C:RdC)(hC:Nat0 C):Nat0 (zfs C):=fun l =>
 zai (zhl _ _ l) fun _ l1=>zai (hC l1) fun _c l2=>zai (zhl _ _ l2) fun _ l3=>zai (hC l3) fun _c l4=>zai (zhl _ _ l4) fun _ _l5=>rfl
theorem tBy0:Nat0 tBy:=fun l=>zai (zl7 l) fun _ l1=>zai (zhl _ _ l1) fun _ l2=>zai (zl7 l2) fun _ _l3=>rfl
theorem zm9(C:RdC)(hC:Nat0 C)(n:Nat):Nat0 (zb0 C n):=fun l =>
 zai (zhl _ _ l) fun _ l1=>zai (z8b n l1) fun _ l2=>zai (zki C hC l2) fun _ _l3=>rfl
theorem ydf(S T:RdX)(C:RdC)(hS:Nat0 S)(hT:Nat0 T)(hC:Nat0 C)(n:Nat):Nat0 (tCon S T C n):=fun l=>by
 unfold tCon;rw[zsr,zm7]
 by_cases h0:zap l=[]
 ·rw[if_pos h0,if_pos h0];exact ydd S hS l
 rw[if_neg h0,if_neg h0]
 by_cases h1:zap l=[110,111,116,104,105,110,103]
 ·rw[if_pos h1,if_pos h1];exact rfl
 rw[if_neg h1,if_neg h1]
 by_cases h2:zap l=[98,111,116,104]
 ·rw[if_pos h2,if_pos h2];exact ybh C hC _
 rw[if_neg h2,if_neg h2]
 by_cases h3:zap l=[115,99,97,108,101]
 ·rw[if_pos h3,if_pos h3];exact zai (hS _) fun _ l1=>zai (zki C hC l1) fun _ _=>rfl
 rw[if_neg h3,if_neg h3]
 by_cases h4:zap l=[105,102]
 ·rw[if_pos h4,if_pos h4];exact zai (hT _) fun _ l1=>zai (ybf C hC l1) fun _ _=>rfl
 rw[if_neg h4,if_neg h4]
 by_cases h5:zap l=[111,110]
 ·rw[if_pos h5,if_pos h5];exact tOf0 4 _ (fun _ l=>zai (zki C hC l) fun _ _=>rfl) _
 rw[if_neg h5,if_neg h5]
 by_cases h6:zap l=[99,104,111,105,99,101]
 ·rw[if_pos h6,if_pos h6];exact zai (tBy0 _) fun _ l1=>zai (ybf C hC l1) fun _ _=>rfl
 rw[if_neg h6,if_neg h6]
 by_cases h7:zap l=[99,97,108,108]
 ·rw[if_pos h7,if_pos h7];exact zai (tBy0 _) fun _ l1=>zai (zm9 C hC n l1) fun _ _=>rfl
 rw[if_neg h7,if_neg h7]
 by_cases h8:zap l=[117,110,116,105,108]
 ·rw[if_pos h8,if_pos h8];exact zai (hT _) fun _ l1=>zai (zm9 C hC n l1) fun _ _=>rfl
 rw[if_neg h8,if_neg h8]
 by_cases h9:zap l=[119,104,101,110]
 ·rw[if_pos h9,if_pos h9];exact zai (hT _) fun _ l1=>zai (zm9 C hC n l1) fun _ _=>rfl
 rw[if_neg h9,if_neg h9];rfl
theorem rdC0:∀(n:Nat),Nat0 (rdC n)
 |0=>fun _l=>rfl
 |n+1=>ydf _ _ _ (rdE0 _ true) (rdE0 _ false) (rdC0 n) _
theorem Rd.Cons.lt{α:Type}{r:Rd α}{l l':List Tk}{a:α}(h:r.Cons l)(e:r=.ok a l'):l'.length<l.length:=by subst e;exact h.2
theorem zao{α β:Type}{r r':Rd α}{f g:α→List Tk→Rd β}(hr:r=r')(h:∀a l,r=.ok a l→f a l=g a l):r.bind f=r'.bind g:=by
 subst hr
 cases r with
 |ok a l=>exact h a l rfl
 |no l=>rfl
def Agr{α:Type}(k:Nat)(f g:List Tk→Rd α):Prop:=∀l,l.length<k→f l=g l
def zbj(S T:RdX)(b:Bool):RdX:=if b=true then S else T
theorem zl6{k:Nat}{S T S' T':RdX}(hS:Agr k S S')(hT:Agr k T T')(cS:∀l,(S l).Cons l)(cT:∀l,(T l).Cons l):∀(bs:List Bool)(c:Bool),Agr k (zcg (bs.map (zbj S T)) c) (zcg (bs.map (zbj S' T')) c)
 | [],_=>fun l _=>rfl
 |b :: bs,c=>fun l hl=>by
  rw[List.map_cons,List.map_cons];unfold zcg
  refine zao rfl fun _ l1 e1 => ?_
  have h1:l1.length≤l.length:=by
   split at e1
   ·exact Nat.le_of_lt ((zar _ _ _).lt e1)
   ·injection e1 with _ e1;rw[e1];exact Nat.le_refl _
  have cp:(zbj S T b l1).Cons l1:=by
   unfold zbj
   split
   ·exact cS _
   ·exact cT _
  refine zao (by
   unfold zbj
   split
   ·exact hS _ (by omega)
   ·exact hT _ (by omega)) fun x l2 e2 => ?_
  have h2:=cp.lt e2
  exact zao (zl6 hS hT cS cT bs true l2 (by omega)) fun _ _ _=>rfl
theorem zdy{k:Nat}{S T S' T':RdX}(hS:Agr k S S')(hT:Agr k T T')(cS:∀l,(S l).Cons l)(cT:∀l,(T l).Cons l)(kd:Int)(bs:List Bool):Agr (k+1) (zby kd (bs.map (zbj S T))) (zby kd (bs.map (zbj S' T'))):=fun l hl =>
 zao rfl fun _ l1 e1=>by
  have h1:=(zar _ _ _).lt e1
  exact zao (zl6 hS hT cS cT bs false l1 (by omega)) fun _ _ _=>rfl
theorem zgy{l:List Tk}{t:Tk}{r:List Tk}(h:l=t :: r):l.tail.length<l.length:=by subst h;simp
theorem zug{k:Nat}{S S':RdX}(hS:Agr k S S'):Agr (k+1) (zdl S) (zdl S'):=fun l hl=>by
 unfold zdl
 split
 ·rename_i h
  obtain⟨t,r,e⟩:=zb7 h;have:=zgy e
  exact zao (hS _ (by omega)) fun _ _ _=>rfl
 ·rfl
theorem zqv{k:Nat}{S T S' T':RdX}(hS:Agr k S S')(hT:Agr k T T')(cS:∀l,(S l).Cons l)(cT:∀l,(T l).Cons l):Agr (k+1) (zbu S T) (zbu S' T'):=fun l hl=>by
 unfold zbu
 have Yv:l.tail.length<k+1:=by cases l<;>simp at hl ⊢;omega
 split
 ·exact zdy hS hT cS cT 7 [true,true] _ Yv
 split
 ·exact zdy hS hT cS cT 8 [true,true] _ Yv
 split
 ·exact zdy hS hT cS cT 9 [false,true,true] _ Yv
 split
 ·exact zug hS l hl
 ·rfl
theorem zud{k:Nat}{S T S' T':RdX}(hS:Agr k S S')(hT:Agr k T T')(cS:∀l,(S l).Cons l)(cT:∀l,(T l).Cons l):Agr (k+1) (zdk S T) (zdk S' T'):=fun l hl=>by
 unfold zdk
 have Yv:l.tail.length<k+1:=by cases l<;>simp at hl ⊢;omega
 split
 ·exact zdy hS hT cS cT 11 [true,true] _ Yv
 split
 ·exact zdy hS hT cS cT 12 [true,true] _ Yv
 split
 ·exact zdy hS hT cS cT 13 [false,false] _ Yv
 split
 ·exact zdy hS hT cS cT 14 [false,false] _ Yv
 split
 ·exact zdy hS hT cS cT 15 [false] _ Yv
 ·rfl
theorem zor{k:Nat}{F F':RdX}(hF:Agr k F F')(cF:∀l,(F l).Cons l):∀(n m:Nat)(x:Ex)(l:List Tk),l.length<n→l.length<m→l.length≤k→zet F n x l=zet F' m x l
 |0,_,_,l,h,_,_=>absurd h (Nat.not_lt_zero _)
 |_+1,0,_,l,_,h,_=>absurd h (Nat.not_lt_zero _)
 |n+1,m+1,x,l,hn,hm,hk=>by
  unfold zet
  split
  ·rename_i h
   obtain⟨t,r,e⟩:=zb7 h;have ht:=zgy e
   refine zao (hF _ (by omega)) fun y l1 e1 => ?_
   have h1:=(cF _).lt e1;exact zor hF cF n m _ l1 (by omega) (by omega) (by omega)
  ·rfl
theorem zkg{k:Nat}{F F':RdX}(hF:Agr k F F')(cF:∀l,(F l).Cons l)(n m:Nat)(l:List Tk)(hn:l.length≤n)(hm:l.length≤m)(hk:l.length<k):zda F n l=zda F' m l :=
 zao (hF l hk) fun x l1 e1=>by
  have h1:=(cF l).lt e1;exact zor hF cF n m x l1 (by omega) (by omega) (by omega)
theorem znc{k:Nat}{F F':RdX}(hF:Agr k F F')(cF:∀l,(F l).Cons l)(a b:Nat):∀(n m:Nat)(x:Ex)(l:List Tk),l.length<n→l.length<m→l.length≤k→l.length≤a→l.length≤b→tAdd F a n x l=tAdd F' b m x l
 |0,_,_,l,h,_,_,_,_=>absurd h (Nat.not_lt_zero _)
 |_+1,0,_,l,_,h,_,_,_=>absurd h (Nat.not_lt_zero _)
 |n+1,m+1,x,l,hn,hm,hk,ha,hb=>by
  unfold tAdd
  split
  ·rename_i h
   obtain⟨t,r,e⟩:=zb7 h;have ht:=zgy e
   refine zao (zkg hF cF a b _ (by omega) (by omega) (by omega)) fun y l1 e1 => ?_
   have h1:=(zc3 F cF a _).lt e1;exact znc hF cF a b n m _ l1 (by omega) (by omega) (by omega) (by omega) (by omega)
  split
  ·rename_i h
   obtain⟨t,r,e⟩:=zb7 h;have ht:=zgy e
   refine zao (zkg hF cF a b _ (by omega) (by omega) (by omega)) fun y l1 e1 => ?_
   have h1:=(zc3 F cF a _).lt e1;exact znc hF cF a b n m _ l1 (by omega) (by omega) (by omega) (by omega) (by omega)
  ·rfl
theorem z1v{k:Nat}{F F':RdX}(hF:Agr k F F')(cF:∀l,(F l).Cons l)(n m:Nat)(l:List Tk)(hn:l.length≤n)(hm:l.length≤m)(hk:l.length<k):tSum F n l=tSum F' m l :=
 zao (zkg hF cF n m l hn hm hk) fun x l1 e1=>by
  have h1:=(zc3 F cF n l).lt e1;exact znc hF cF n m n m x l1 (by omega) (by omega) (by omega) (by omega) (by omega)
theorem zku:∀(n m:Nat)(b:Bool)(l:List Tk),l.length<n→l.length<m→rdE n b l=rdE m b l
 |0,_,_,l,h,_=>absurd h (Nat.not_lt_zero _)
 |_+1,0,_,l,_,h=>absurd h (Nat.not_lt_zero _)
 |n+1,m+1,b,l,hn,hm=>by
  have hS:Agr (min n m) (rdE n true) (rdE m true):=fun q hq=>zku n m true q (by omega) (by omega)
  have hT:Agr (min n m) (rdE n false) (rdE m false):=fun q hq=>zku n m false q (by omega) (by omega)
  have cS:=zbi n true;have cT:=zbi n false
  cases b with
  |true=>exact z1v (k:=min n m+1) (zqv hS hT cS cT) (zew _ _ cS cT) _ _ l (by omega) (by omega) (by omega)
  |false=>exact zud (k:=min n m) hS hT cS cT l (by omega)
theorem zak{α β:Type}{r:Rd α}{g:α→List Tk→Rd β}{b:β}{l':List Tk}(h:r.bind g=.ok b l'):∃a l1,r=.ok a l1∧g a l1=.ok b l':=by
 cases r with
 |ok a l=>exact⟨a,l,rfl,h⟩
 |no l=>cases h
theorem ExOn.up{S:Nat→Prop}{w:World}:∀{n m:Nat}{cs:List Value}{x:Ex},n≤m→ExOn S n w cs x→ExOn S m w cs x
 |0,_,_,_,_,h=>h.elim
 |_+1,0,_,_,hm,_=>absurd hm (by omega)
 |n+1,m+1,_,_,hm,⟨a,len,cap,h1,h2,h3⟩=>⟨a,len,cap,h1,h2,h3.imp id fun⟨g,ha,hg,hi⟩=>⟨g,ha,hg,fun i h=>by
  obtain⟨cs',hc,hx⟩:=hi i h
  exact⟨cs',hc,ExOn.up (by omega) hx⟩⟩⟩
theorem TwR.up{n m B:Nat}{l:List Ex}{k:Nat}{v:Value}{xs:List Value}{w:World}(h:TwR n B l k v xs w)(hm:n≤m):TwR m B l k v xs w:=by
 obtain⟨css,h0,h1,h2,h3,h4⟩:=h;exact⟨css,h0,h1,h2,h3,fun i hi XJ=>(h4 i hi XJ).up hm⟩
theorem TwR.more{n B:Nat}{l m:List Ex}{k:Nat}{v:Value}{xs:List Value}{w:World}(h:TwR n B l k v xs w)(hl:l.length=k):TwR n B (l ++ m) k v xs w:=by
 obtain⟨css,h0,h1,h2,h3,h4⟩:=h;refine⟨css,h0,h1,h2,h3,fun i hi XJ => ?_⟩;have h5:i<l.length:=by omega
 rw[List.getElem_append_left h5];exact h4 i hi h5
theorem RAt.grown{rb:Nat}{w w':World}{l:List Tk}{row:Option Nat}(h:RAt rb w l)(hg:w.grownBy w' row)(hr:∀k,row=some k→rb<k):RAt rb w' l:=by
 obtain⟨a,cap,hx,hc,hm,ht⟩:=h;refine⟨a,cap,hx.kept hg (fun e=>by have:=hr _ e.symm;omega),hc,hm,ht.imp id fun⟨g,o,ha,Z0,Z4,Z5⟩=>⟨g,o,ha,Z0,Nat.lt_of_lt_of_le Z4 hg.size,fun j hj k hk => ?_⟩⟩;exact(World.cell?_of_block (w:=w) (w':=w') (a:=⟨g,o+j*5+k,none⟩) (hg.block g Z4 (fun e=>by have:=hr _ e.symm;omega))).trans (Z5 j hj k hk)
theorem z2w{rb:Nat}{w w':World}{l l':List Tk}(h:RAt rb w l)(h':RAt rb w' l')(hg:w.grownBy w' (some rb)):∃v,Below w.heap.size (w.setCell ⟨rb,0,none⟩ v) w':=by
 obtain⟨a,cap,hx,_⟩:=h;obtain⟨a',cap',hx',_⟩:=h';refine⟨.slice a' l'.length cap',hg.os,hg.tape,hg.output,by simpa[World.setCell]using hg.size,fun k hk => ?_⟩
 by_cases Vp:k=rb
 ·subst Vp
  exact Eq.trans hx' (Boxed.set (.slice a' l'.length cap') hx).symm
 ·rw[Below.heap_setCell _ _ _ _ (by show k≠rb;exact Vp)]
  exact hg.block k hk (fun e=>Vp (by injection e))
def remR(ps:List RdX)(ys:List Ex)(c:Bool)(l:List Tk):Rd (List Ex):=(zcg ps c l).bind fun zs l=>.ok (ys ++ zs) l
theorem z2s(ys:List Ex)(c:Bool)(l:List Tk):remR [] ys c l=.ok ys l:=by
 show Rd.ok (ys ++ []) l=_
 rw[List.append_nil]
theorem zmc(p:RdX)(ps:List RdX)(ys:List Ex)(l:List Tk):remR (p :: ps) ys false l=(p l).bind fun x l2=>remR ps (ys ++ [x]) true l2:=by
 unfold remR
 show(((p l).bind fun x l=>(zcg ps true l).bind fun xs l=>.ok (x :: xs) l).bind _)=_
 rw[Rd.bind_assoc]
 congr 1
 funext x l2
 rw[Rd.bind_assoc]
 congr 1
 funext xs l3
 show Rd.ok (ys ++ (x :: xs)) l3=Rd.ok (ys ++ [x] ++ xs) l3
 rw[List.append_assoc];rfl
theorem zxq(p:RdX)(ps:List RdX)(ys:List Ex)(l:List Tk):remR (p :: ps) ys true l=(tEat 5 [44] l).bind fun _ l1=>(p l1).bind fun x l2=>remR ps (ys ++ [x]) true l2:=by
 have h:∀l1,((p l1).bind fun x l=>(zcg ps true l).bind fun xs l=>.ok (x :: xs) l).bind (fun zs l=>.ok (ys ++ zs) l)=(p l1).bind fun x l2=>remR ps (ys ++ [x]) true l2:=fun l1=>zmc p ps ys l1
 unfold remR
 show(((tEat 5 [44] l).bind fun _ l=>(p l).bind fun x l=>(zcg ps true l).bind fun xs l=>.ok (x :: xs) l).bind _)=_
 rw[Rd.bind_assoc]
 congr 1
 funext _ l1
 exact h l1
def LsB(kd:Int)(B:Nat)(v:Value)(w:World):Prop :=
 w.heap[B]?=some (.cells #[.int .u8 0,.string ⟨#[]⟩,.string ⟨#[]⟩,.int .i64 0,.slice none 0 0] 25) ∧
  w.heap[B+1]?=some (.cells #[.int .u8 kd,.string ⟨#[]⟩,.string ⟨#[]⟩,.int .i64 0,v] 25)∧B+2≤w.heap.size
structure LsAt(rb:Nat)(kd:Int)(B:Nat)(w:World)(ys:List Ex)(k:Nat)(v:Value)(xs:List Value)(l:List Tk)(wr:World):Prop where
 blocks:LsB kd B v wr
 len:ys.length=k
 parts:∃m,TwR m (B+2) ys k v xs wr
 rd:RAt rb wr l
 grown:w.grownBy wr (some rb)
theorem LsAt.step{rb B k ga ca la ca2:Nat}{kd:Int}{w w1 u w3:World}{ys:List Ex}{v:Value}{xs:List Value}{l1 l2:List Tk}{y:Ex}{pa:Option Addr}(h:LsAt rb kd B w ys k v xs l1 w1)(hB:B=w.heap.size)(YO:rb<B)
 (hu:w1.drew.grownBy u (some rb)) (hx:∃m,ExOn (fun g=>w1.drew.heap.size≤g∧g<u.heap.size) m u [.int .u8 y.kind,.string y.rat,.string y.name,.int .i64 y.date,.slice pa la ca2] y) (ru:RAt rb u l2)
 (hg:(u.alloc (.cells #[.int .u8 y.kind,.string y.rat,.string y.name,.int .i64 y.date,.slice pa la ca2] 25)).grownBy w3 v.ownBlock)
 (ZL:w3.ownsRow (B+2) 25 5 (.slice (some ⟨ga,0,none⟩) (k+1) ca) (k+1) (xs ++ [.int .u8 y.kind,.string y.rat,.string y.name,.int .i64 y.date,.slice pa la ca2]))
 (ZZ:v.ownBlock=some ga∨ga=(u.alloc (.cells #[.int .u8 y.kind,.string y.rat,.string y.name,.int .i64 y.date,.slice pa la ca2] 25)).heap.size) :
 LsAt rb kd B w (ys ++ [y]) (k+1) (.slice (some ⟨ga,0,none⟩) (k+1) ca) (xs ++ [.int .u8 y.kind,.string y.rat,.string y.name,.int .i64 y.date,.slice pa la ca2]) l2 (w3.setCell ⟨B+1,4,none⟩ (.slice (some ⟨ga,0,none⟩) (k+1) ca)):=by
 obtain⟨u2,WE⟩:∃u2,u2=u.alloc (.cells #[.int .u8 y.kind,.string y.rat,.string y.name,.int .i64 y.date,.slice pa la ca2] 25):=⟨_,rfl⟩
 rw[←WE]at hg ZZ;obtain⟨m,W6⟩:=h.parts;obtain⟨m2,hx⟩:=hx;obtain⟨h0,h1,hz⟩:=h.blocks;have hu':w1.grownBy u (some rb):=⟨hu.os,hu.tape,hu.output,hu.size,hu.block⟩;obtain⟨q,X7⟩:=z2w h.rd ru hu';have ZS:(w1.setCell ⟨rb,0,none⟩ q).heap.size=w1.heap.size:=by simp[World.setCell]
 have Z3:Below (w1.setCell ⟨rb,0,none⟩ q).heap.size (w1.setCell ⟨rb,0,none⟩ q) u2:=by
  rw[ZS,WE];exact X7.alloc hu'.size _
 have hzu:u.heap.size≤u2.heap.size:=by rw[WE];simp
 have hvb:∀g,v.ownBlock=some g→B+2≤g:=fun g e=>(W6.owns.lt g e).1
 have huu:w1.grownBy u2 (some rb):=by rw[WE];exact Lib.grownBy_allocR hu' _
 have keep:∀q,q<B+2→q≠rb→w3.heap[q]?=w1.heap[q]?:=fun q hq Z0=>by
  rw[hg.block q (Nat.lt_of_lt_of_le (by omega) huu.size) (fun e=>by have:=hvb q e.symm;omega),huu.block q (by omega) (fun e=>Z0 (by injection e))]
 have Zu:ExOn (fun g=>(w1.setCell ⟨rb,0,none⟩ q).heap.size≤g∧g<u2.heap.size) (max m m2) u2 [.int .u8 y.kind,.string y.rat,.string y.name,.int .i64 y.date,.slice pa la ca2] y :=
  ((hx.keep (w':=u2) fun g ⟨_,g2⟩=>by rw[WE];exact Below.heap_alloc u _ g g2).mono fun g ⟨g1,g2⟩=>⟨by rw[ZS];exact g1,by omega⟩).up (by omega)
 have hs:=(((W6.up (m:=max m m2) (by omega)).more (m:=[y]) h.len).set (p:=⟨rb,0,none⟩) (by show rb<B+2;omega) q).snoc (by simp[h.len]) (y:=y) (by
  have:=h.len
  simp[List.getElem_append_right,h.len]) (by rw[ZS];exact hz) Z3 Zu hg (v':=.slice (some ⟨ga,0,none⟩) (k+1) ca) (by
  rcases ZZ with e |e
  ·exact .inl e.symm
  ·right;rw[e];rfl) ZL
 have WN:∀row:Nat,row=B+1→rb<row:=fun row e=>by omega
 refine⟨⟨?_,?_,?_⟩,by simp[h.len],⟨_,hs.set (p:=⟨B+1,4,none⟩) (by show B+1<B+2;omega) _⟩,?_,?_⟩
 ·rw[Below.heap_setCell _ _ _ _ (by show B≠B+1;omega),keep _ (by omega) (by omega)];exact h0
 ·have:=(keep (B+1) (by omega) (by omega)).trans h1
  simp[World.setCell,Array.getElem?_modify,this]
 ·have:=hg.size;have:=huu.size
  simp[World.setCell];omega
 ·refine RAt.setNew (RAt.grown ?_ hg (fun g e=>by have:=hvb g e;omega)) (by omega) _ _
  rw[WE];exact ru.below (zaa u _)
 ·refine zam ?_ (by omega) _ _
  have hwu:w.grownBy u2 (some rb):=Lib.grownBy_trans h.grown huu
  exact⟨hg.os.trans hwu.os,hg.tape.trans hwu.tape,hg.output.trans hwu.output,Nat.le_trans hwu.size hg.size,fun j hj Z0=>by
   rw[hg.block j (Nat.lt_of_lt_of_le hj hwu.size) (fun e=>by have:=hvb j e.symm;omega)]
   exact hwu.block j hj Z0⟩
theorem LsAt.same{rb B k:Nat}{kd:Int}{w w1 u:World}{ys:List Ex}{v:Value}{xs:List Value}{l1 l2:List Tk}(h:LsAt rb kd B w ys k v xs l1 w1)(hg:w1.grownBy u (some rb))(hr:RAt rb u l2)(YO:rb<B):LsAt rb kd B w ys k v xs l2 u:=by
 obtain⟨m,W6⟩:=h.parts;obtain⟨h0,h1,hz⟩:=h.blocks;obtain⟨css,a0,a1,a2,a3,a4⟩:=W6;refine⟨⟨?_,?_,Nat.le_trans hz hg.size⟩,h.len,⟨m,css,a0,a1,a2,?_,fun i hi XJ => ?_⟩,hr,Lib.grownBy_trans h.grown hg⟩
 ·exact(hg.block _ (Z8 h0) (fun e=>by injection e with e;omega)).trans h0
 ·exact(hg.block _ (Z8 h1) (fun e=>by injection e with e;omega)).trans h1
 ·exact a3.kept hg (by
   cases hv:v.ownBlock with
   |none=>exact .inl rfl
   |some q=>exact .inr (fun e=>by injection e with e;have:=(a3.lt q hv).1;omega))
 ·exact((a4 i hi XJ).keep (w':=u) fun g ⟨g1,g2,_⟩=>hg.block g g2 (fun e=>by injection e with e;omega)).mono fun g ⟨g1,g2,g3⟩=>⟨g1,Nat.lt_of_lt_of_le g2 hg.size,g3⟩
theorem zg9{w w':World}{row:Option Nat}(h:w.grownBy w' row):w.grownBy w'.drew row:=⟨h.os,h.tape,h.output,h.size,h.block⟩
theorem z68{w1 u:World}{base rb:Nat}{v:Value}{k:Nat}{xs:List Value}(h:w1.ownsRow (base+2) 25 5 v k xs)(hb:w1.drew.grownBy u (some rb))(YO:rb<base)(o:Obj):(u.alloc o).ownsRow (base+2) 25 5 v k xs :=
 World.ownsRow.alloc (World.ownsRow.kept (w:=w1) h ⟨hb.os,hb.tape,hb.output,hb.size,hb.block⟩ (row:=some rb) (by
  cases hv:v.ownBlock with
  |none=>exact .inl rfl
  |some q=>exact .inr (fun e=>by injection e with e;have:=(h.lt q hv).1;omega))) o
theorem ycb{n rb B lv cv:Nat}{kd:Int}{ys:List Ex}{k:Nat}{xs:List Value}{l:List Tk}{av:Option Addr}{w u:World}(hB:B=w.heap.size)(YO:rb<B)(h:LsAt rb kd B w ys k (.slice av lv cv) xs l u)
 (hx:ExOn (fun g=>B+2≤g∧g<u.heap.size) (n+1) u [.int .u8 kd,.string tE0,.string tE0,.int .i64 0,.slice av lv cv] (.mk kd tE0 tE0 0 ys)) :
 ∃W',W'=((((u.setCell ⟨B,0,none⟩ (.int .u8 kd)).setCell ⟨B,1,none⟩ (.string ⟨#[]⟩)).setCell ⟨B,2,none⟩ (.string ⟨#[]⟩)).setCell ⟨B,3,none⟩ (.int .i64 0)).setCell ⟨B,4,none⟩ (.slice av lv cv) ∧
  ExOn (fun g=>w.heap.size≤g∧g<W'.heap.size) (n+1) W' [.int .u8 kd,.string tE0,.string tE0,.int .i64 0,.slice av lv cv] (.mk kd tE0 tE0 0 ys) ∧
  W'.heap[B]?=some (.cells #[.int .u8 kd,.string ⟨#[]⟩,.string ⟨#[]⟩,.int .i64 0,.slice av lv cv] 25)∧RAt rb W' l∧w.grownBy W' (some rb):=by
 refine⟨_,rfl,?_,?_,?_,?_⟩
 ·refine(hx.keep fun g ⟨g1,_⟩ => ?_).mono fun g ⟨g1,g2⟩=>⟨by omega,by simpa[World.setCell]using g2⟩
  rw[Below.heap_setCell _ _ _ _ (by show g≠B;omega),Below.heap_setCell _ _ _ _ (by show g≠B;omega),Below.heap_setCell _ _ _ _ (by show g≠B;omega),Below.heap_setCell _ _ _ _ (by show g≠B;omega),Below.heap_setCell _ _ _ _ (by show g≠B;omega)]
 ·exact zck h.blocks.1 _ _ _ _ _
 ·exact((((h.rd.setNew YO _ _).setNew YO _ _).setNew YO _ _).setNew YO _ _).setNew YO _ _
 ·exact zam (zam (zam (zam (zam h.grown (by omega) _ _) (by omega) _ _) (by omega) _ _) (by omega) _ _) (by omega) _ _
def fnF(b:Bool):Nat:=if b=true then 64 else 63
def fnV(rb F:Nat):Value:=.func (.func F) #[.pointer (some ⟨rb,0,none⟩)] #[]
theorem ydx(b:Bool)(args:Array Value)(W:World):(callFunc (fnF b) args).run Tryz.prog W=.ok (.enter (fnF b) args) W:=by
 cases b<;>kernel_rfl
theorem zxp(ps:List RdX)(c:Bool)(l:List Tk):remR ps [] c l=zcg ps c l:=by
 unfold remR
 cases zcg ps c l<;>rfl
theorem zw0(kd:Int)(ps:List RdX)(l:List Tk):zby kd ps l=(tEat 5 [40] l).bind fun _ l1=>(remR ps [] false l1).bind fun xs l2=>(tEat 5 [41] l2).bind fun _ l3=>.ok (.mk kd tE0 tE0 0 xs) l3:=by
 show(tEat 5 [40] l).bind _=_
 congr 1
 funext _ l1
 rw[zxp]
theorem zal{α:Type}{V:α→World→Value→Prop}{rb:Nat}{w w':World}{r:Rd α}{l:List Tk}{e:Ending}(E:r=.no l)(h:e=zod∧RAt rb w' l∧w.grownBy w' (some rb)):zaf V rb w r e w':=by rw[E];exact h
theorem zbl{α:Type}{V:α→World→Value→Prop}{rb:Nat}{w w':World}{r:Rd α}{x:α}{l:List Tk}{e:Ending}(E:r=.ok x l)(h:∃v,e=.returned v∧V x w' v∧RAt rb w' l∧w.grownBy w' (some rb)):zaf V rb w r e w':=by rw[E];exact h
theorem ze0{rb n0:Nat}(S T:RdX)(Vt:∀(b:Bool) (W:World) (l:List Tk),RAt rb W l→l.length<n0→Calls Tryz.prog (fnF b) #[.pointer (some ⟨rb,0,none⟩)] W (zaf (VEx W.heap.size) rb W (zbj S T b l)))
 (cS:∀l,(S l).Cons l) (cT:∀l,(T l).Cons l) (kd:Int) (bs:List Bool) (nb gp:Nat) (Zo:bs.length=nb) (hnb3:nb≤3) (w:World) (l:List Tk) (h:RAt rb w l) (hl:l.length≤n0) (Vl:gp<w.heap.size) (Za:gp≠rb)
 (hc:∀i (hi:i<bs.length),w.cell? ⟨gp,i,none⟩=some (fnV rb (fnF bs[i]))) :
 Calls Tryz.prog 112 #[.pointer (some ⟨rb,0,none⟩),.int .u8 kd,.slice (some ⟨gp,0,none⟩) nb nb] w (zaf (VEx w.heap.size) rb w (zby kd (bs.map (zbj S T)) l)):=by
 obtain⟨i0,hi,ZE,ZO,ZA⟩:=info_parts ycn;have HI0:=Z9 hi;have HI1:=Z9 ZE;have HI2:=Z9 ZO;have HI3:=Z9 ZA;have HMU:=Z9 (fun g2 s W l (hW:RAt rb W l) (hs:W.cell? ⟨g2,0,none⟩=some (.string s))=>za8 rb g2 5 s W l hW hs);have HP:=Z9 Vt;have HC:=Z9 hc;have HR:=Z9 h;have HNB:=Z9 Zo;have HGP:=Z9 (And.intro Vl Za);have Z1:=h.lt;obtain⟨GR,ZX⟩:∃GR,GR=zby kd (bs.map (zbj S T)) l:=⟨_,rfl⟩
 rw[←ZX];rw[zw0]at ZX;have HGR:=Z9 ZX;have HL:=Z9 hl
 have HCN:Hid (∀b l,(zbj S T b l).Cons l):=fun b l=>by
  unfold zbj
  split
  ·exact cS l
  ·exact cT l
 clear h Vt hc Zo Vl Za ZX hl cS cT hi ZE ZO ZA;go_enter Tryz.func112,Tryz.ntmps112;go_wp2_with fail;obtain⟨B,WG⟩:∃B,B=w.heap.size:=⟨_,rfl⟩
 obtain⟨W0,Z7⟩:∃W0,W0=((w.alloc (.cells #[.int .u8 0,.string ⟨#[]⟩,.string ⟨#[]⟩,.int .i64 0,.slice none 0 0] 25)).alloc (.cells #[.int .u8 kd,.string ⟨#[]⟩,.string ⟨#[]⟩,.int .i64 0,.slice none 0 0] 25)).alloc (.cells #[.string ⟨#[40]⟩] 9):=⟨_,rfl⟩
 have hT:LsB kd B (.slice none 0 0) W0∧W0.cell? ⟨B+1+1,0,none⟩=some (.string ⟨#[40]⟩):=by
  rw[Z7,WG];refine⟨⟨?_,?_,?_⟩,?_⟩
  ·show(((w.heap.push _).push _).push _)[w.heap.size]?=_
   rw[Array.getElem?_push,if_neg (by simp;omega),Array.getElem?_push,if_neg (by simp),Array.getElem?_push,if_pos rfl]
  ·show(((w.heap.push _).push _).push _)[w.heap.size+1]?=_
   rw[Array.getElem?_push,if_neg (by simp),Array.getElem?_push,if_pos (by simp)]
  ·simp
  ·have:(((w.heap.push (.cells #[.int .u8 0,.string ⟨#[]⟩,.string ⟨#[]⟩,.int .i64 0,.slice none 0 0] 25)).push (.cells #[.int .u8 kd,.string ⟨#[]⟩,.string ⟨#[]⟩,.int .i64 0,.slice none 0 0] 25)).push (.cells #[.string ⟨#[40]⟩] 9))[w.heap.size+1+1]?=some (.cells #[.string ⟨#[40]⟩] 9):=by
    rw[Array.getElem?_push,if_pos (by simp)]
   exact Boxed.cell (W:=((w.alloc _).alloc _).alloc _) (t:=9) this
 have hB0:Below B w W0:=by rw[Z7,WG];exact((zaa w _).alloc (by simp) _).alloc (by simp;omega) _
 rw[←Z7];rw[←WG]at Z1 ⊢;have HT:=Z9 hT;have HB0:=Z9 hB0;have HBB:=Z9 WG;have hB0':Below w.heap.size w W0:=by rw[←WG];exact hB0
 have HR0:=Z9 (HR.out.below hB0');have HG0:=Z9 (zaq (rb:=rb) (zae hB0'));clear hT hB0 Z7 WG hB0'
 cases hq:tEat 5 [40] l with
 |no lq =>
  have E:GR=.no lq:=by rw[HGR.out,hq];rfl
  have HE:=Z9 E;have HM:=Z9 (HMU.out (B+1+1) ⟨#[40]⟩ W0 l HR0.out HT.out.2);rw[show tEat 5 (ByteArray.mk #[40]).data.toList l=.no lq from hq]at HM;clear E hq;refine HM.out.mono ?_;rintro e u ⟨rfl,hr,hg⟩;exact⟨rfl,zal HE.out ⟨rfl,hr,Lib.grownBy_trans HG0.out hg⟩⟩
 |ok un l1 =>
  obtain⟨R,hR⟩:∃R,R=remR (bs.map (zbj S T)) [] false l1:=⟨_,rfl⟩
  have E:GR=R.bind fun xs l2=>(tEat 5 [41] l2).bind fun _ l3=>.ok (.mk kd tE0 tE0 0 xs) l3:=by rw[HGR.out,hq,hR];rfl
  have HE:=Z9 E;have HRR:=Z9 hR;have HL1:=Z9 (Nat.lt_of_lt_of_le ((zar 5 [40] l).lt hq) HL.out);have HM:=Z9 (HMU.out (B+1+1) ⟨#[40]⟩ W0 l HR0.out HT.out.2);rw[show tEat 5 (ByteArray.mk #[40]).data.toList l=.ok un l1 from hq]at HM;clear E hq hR;refine HM.out.mono ?_;rintro e u ⟨v,rfl,rfl,hr,hg⟩
  have HLS:Hid (LsAt rb kd B w [] 0 (.slice none 0 0) [] l1 u):=by
   refine Z9 ⟨⟨?_,?_,?_⟩,rfl,⟨0,TwR.nil _ _ _ _⟩,hr,Lib.grownBy_trans HG0.out hg⟩
   ·exact(hg.block _ (Z8 HT.out.1.1) (fun e=>by injection e with e;omega)).trans HT.out.1.1
   ·exact(hg.block _ (Z8 HT.out.1.2.1) (fun e=>by injection e with e;omega)).trans HT.out.1.2.1
   ·exact Nat.le_trans HT.out.1.2.2 hg.size
  clear hr hg;go_wp2_with fail;go_loopw [17] (fun iv wr=>∃(k:Nat)(ys:List Ex)(l':List Tk)(v:Value)(xs:List Value),k≤nb∧iv=.int .i64 (k:Int)∧LsAt rb kd B w ys k v xs l' wr∧l'.length<n0∧Hid (remR ((bs.map (zbj S T)).drop k) ys (decide (0<k)) l'=R)) (fun iv _=>nb-(intOf iv).toNat)
  case atStart=>exact⟨0,[],l1,.slice none 0 0,[],Nat.zero_le _,rfl,HLS.out,HL1.out,HRR.out.symm⟩
  case round =>
   obtain⟨w1,rfl⟩:∃w1:World,w1=wr:=⟨_,rfl⟩
   obtain⟨k,ys,l',v,xs,hk,rfl,hls,Z6,WP⟩:=hrel;have HLSW:=Z9 hls;have HLEN:=Z9 Z6;clear hls Z6 HLS
   by_cases Z4:k<nb
   ·have hrB:rb<B:=Z1
    have ZR:k<bs.length:=by rw[HNB.out];exact Z4
    obtain⟨b,hb⟩:∃b,b=bs[k]:=⟨_,rfl⟩
    have hdrop:(bs.map (zbj S T)).drop k=zbj S T b :: (bs.map (zbj S T)).drop (k+1):=by
     rw[List.drop_eq_getElem_cons (by simp;omega),List.getElem_map,hb]
    obtain⟨F,hF⟩:∃F,F=fnF b:=⟨_,rfl⟩
    have Z5:w1.cell? ⟨gp,k,none⟩=some (.func (.func F) #[.pointer (some ⟨rb,0,none⟩)] #[]):=by
     rw[hF,hb];exact(World.cell?_of_block (w:=w) (w':=w1) (a:=⟨gp,k,none⟩) (HLSW.out.grown.block gp HGP.out.1 (fun e=>HGP.out.2 (by injection e)))).trans (HC.out k ZR)
    have Uq:gp<w1.heap.size:=Nat.lt_of_lt_of_le HGP.out.1 HLSW.out.grown.size;have HF:=Z9 hF;have Sf:∀(args:Array Value)(W:World),(callFunc F args).run Tryz.prog W=.ok (.enter F args) W:=by rw[hF];exact ydx b
    have YL:(0:Int)≤(k:Int):=by omega
    have Zh:(k:Int)<(nb:Int):=by omega
    have hrw1:rb<w1.heap.size:=HLSW.out.rd.lt;clear hF hb ZR
    by_cases TP:k=0
    ·have hs0:remR ((bs.map (zbj S T)).drop k) ys (decide (0<k)) l'=(zbj S T b l').bind fun x l2=>remR ((bs.map (zbj S T)).drop (k+1)) (ys ++ [x]) true l2:=by
      rw[hdrop,show decide (0<k)=false by simp[TP]];exact zmc _ _ _ _
     have HSTEP:=Z9 hs0;have Yf:decide ((0:Int)<(k:Int))=false:=by simp;omega
     have hnk:¬0<k:=by omega
     clear hs0 hdrop TP;have hd:=HLSW.out.blocks;have hdr:=(HLSW.out.rd).below (Below.refl _ w1).drew;have Yc:=Z9 hdr;have WO:=Z9 hd.2.1;obtain⟨o0,o1,o2,o3,o4⟩:=zad hd.2.1;have f4:=Lib.frozen_of_heap hd.2.1 4;have zz:B+1<w1.heap.size:=by have:=hd.2.2;omega
     have HHZ:=Z9 hd.2.2;have WF:=Z9 HLSW.out.grown;obtain⟨m0,Yl⟩:=HLSW.out.parts;have HOWN0:=Z9 Yl.owns;have HCB:=Z9 (HP.out b w1.drew l' Yc.out HLEN.out);rw[←HF.out]at HCB;clear hd hdr Yl
     cases Zp:zbj S T b l' with
     |no lq =>
      have E:GR=.no lq:=by rw[HE.out,←WP.out,HSTEP.out,Zp];rfl
      have HE2:=Z9 E;rw[Zp]at HCB;clear E Zp;go_wp2_with fail;refine wp_region_any (by kernel_rfl) ?_;change wpAny _ _ _ _ _ _ _ (World.drew _);refine wpAny_take (i:=0) (v := ?_) rfl (by kernel_rfl) (by kernel_rfl) (by kernel_rfl) (fun _ _ _ h=>h) (Or.inl ⟨by rfl,?hyAw1⟩) ?restAw1
      case hyAw1=>(intro w;go_simp<;>with_reducible rfl)
      refine wpAny_take (i:=2) (v := ?_) rfl (by kernel_rfl) (by kernel_rfl) (by kernel_rfl) (fun _ _ _ h=>h) (Or.inl ⟨by rfl,?hyBw1⟩) ?restBw1
      case hyBw1=>(intro w;go_simp<;>with_reducible rfl)
      refine wpAny_ready (rs:=[1,3]) (by kernel_rfl) (by simp) ?_;refine AllReady.cons rfl (fun K hK => ?_) ?_
      ·go_simp
       refine hK _ _ ?_;clear hK K;refine wpAny_ready (rs:=[3]) (by kernel_rfl) (by simp) ?_;refine AllReady.cons rfl (fun K hK => ?_) AllReady.nil;go_simp;refine HCB.out.mono ?_;rintro e u ⟨rfl,hr,hg⟩;exact⟨rfl,zal HE2.out ⟨rfl,hr,Lib.grownBy_trans (zg9 WF.out) hg⟩⟩
      ·refine AllReady.cons rfl (fun K hK => ?_) AllReady.nil
       go_simp;refine HCB.out.mono ?_;rintro e u ⟨rfl,hr,hg⟩;exact⟨rfl,zal HE2.out ⟨rfl,hr,Lib.grownBy_trans (zg9 WF.out) hg⟩⟩
     |ok y l2 =>
      have E:remR ((bs.map (zbj S T)).drop (k+1)) (ys ++ [y]) true l2=R:=by rw[←WP.out,HSTEP.out,Zp];rfl
      have HE2:=Z9 E;have HL2:=Z9 (Nat.lt_of_lt_of_le ((HCN.out b l').lt Zp) (Nat.le_of_lt HLEN.out));rw[Zp]at HCB;clear E Zp;go_wp2_with fail
      go_region_law (first
       |(refine step_append_lies _ (by rfl) (.tmp 28) (.tmp 31) 23 (by rfl) (B+2) 25 i0 zv7 5 72 Tryz.underlying23 HI0.out HI1.out HI2.out HI3.out rfl (by decide) v k xs (by rfl) HOW.out ⟨u.heap.size,0,none⟩ 1 1 [.int .u8 y.kind,.string y.rat,.string y.name,.int .i64 y.date,.slice pa pl pc] (by rfl) rfl HNW.out HON.out (by decide) (by unfold maxLen;omega) (by omega) HBS.out _ rfl ?_;intro ga ca w3 ZL Za ZZ St;have Wc:=Z9 Za;have YP:=Z9 ZL;have ZQ:=Z9 ZZ;have hd2w:=(Za.block _ (show B+1<_ by rw[World.size_alloc];omega) (ybc HOWN0.out (by omega))).trans ((Below.heap_alloc u _ _ zu).trans HD2u.out);have HD2w:=Z9 hd2w;have o4w:=(zad hd2w).2.2.2.2;have f4w:=Lib.frozen_of_heap hd2w 4;clear ZL Za ZZ hd2w)
       |(go_simp;refine HCB.out.mono ?_;rintro e u ⟨vv,rfl,⟨mm,pa,pl,pc,rfl,hx⟩,hr,hb⟩;have HX:=Z9 hx;have HBU:=Z9 hb;have HRU:=Z9 hr;have hd2u:=(hb.block _ (show B+1<w1.heap.size by omega) (fun e=>by injection e with e;omega)).trans WO.out;have HD2u:=Z9 hd2u;have o4u:=(zad hd2u).2.2.2.2;have zu:B+1<u.heap.size:=Nat.lt_of_lt_of_le (show B+1<w1.heap.size by omega) hb.size;have HOW:=Z9 (z68 HOWN0.out hb hrB (.cells #[.int .u8 y.kind,.string y.rat,.string y.name,.int .i64 y.date,.slice pa pl pc] 25));have HNW:=Z9 (World.news_of_block (heap_alloc_new u (.cells #[.int .u8 y.kind,.string y.rat,.string y.name,.int .i64 y.date,.slice pa pl pc] 25)));have HON:=Z9 (ztb y.kind y.date y.rat y.name pa pl pc);have HBS:=Z9 (show B+2≤(u.alloc (.cells #[.int .u8 y.kind,.string y.rat,.string y.name,.int .i64 y.date,.slice pa pl pc] 25)).heap.size by rw[World.size_alloc];omega);clear hx hb hd2u hr))
      all_goals
       have HNEW:=Z9 (HLSW.out.step HBB.out hrB HBU.out ⟨mm,HX.out⟩ HRU.out Wc.out YP.out ZQ.out);clear HX Wc YP ZQ HOW HNW HON HBS HBU HD2u HD2w HRU;go_wp2_with fail;go_roundw
       case rel=>exact⟨k+1,ys ++ [y],l2,_,_,by omega,by go_num,HNEW.out,HL2.out,by rw[show decide (0<k+1)=true by simp];exact HE2.out⟩
       case measure=>simp[intOf]<;>omega
    ·have hs0:remR ((bs.map (zbj S T)).drop k) ys (decide (0<k)) l'=(tEat 5 [44] l').bind fun _ l1=>(zbj S T b l1).bind fun x l2=>remR ((bs.map (zbj S T)).drop (k+1)) (ys ++ [x]) true l2:=by
      rw[hdrop,show decide (0<k)=true by simp;omega];exact zxq _ _ _ _
     have HSTEP0:=Z9 hs0;have Yf:decide ((0:Int)<(k:Int))=true:=by simp;omega
     have hsz1:=HLSW.out.blocks.2.2;have HRC:=Z9 (HLSW.out.rd.below (zaa w1 (.cells #[.string ⟨#[44]⟩] 9)));have HM:=Z9 (HMU.out w1.heap.size ⟨#[44]⟩ (w1.alloc (.cells #[.string ⟨#[44]⟩] 9)) l' HRC.out (Boxed.new w1 9 (.string ⟨#[44]⟩)).cell);clear hs0 hdrop
     cases ZP:tEat 5 [44] l' with
     |no lq =>
      have E:GR=.no lq:=by rw[HE.out,←WP.out,HSTEP0.out,ZP];rfl
      have HE2:=Z9 E;rw[show tEat 5 (ByteArray.mk #[44]).data.toList l'=.no lq from ZP]at HM;clear E ZP;go_wp2_with fail;refine HM.out.mono ?_;rintro e u ⟨rfl,hr,hg⟩;exact⟨rfl,zal HE2.out ⟨rfl,hr,Lib.grownBy_trans (Lib.grownBy_allocR HLSW.out.grown _) hg⟩⟩
     |ok un3 l3 =>
      have Zt:remR ((bs.map (zbj S T)).drop k) ys (decide (0<k)) l'=(zbj S T b l3).bind fun x l2=>remR ((bs.map (zbj S T)).drop (k+1)) (ys ++ [x]) true l2:=by rw[HSTEP0.out,ZP];rfl
      have HSTEP:=Z9 Zt;have HL3:=Z9 (Nat.lt_of_lt_of_le ((zar 5 [44] l').lt ZP) (Nat.le_of_lt HLEN.out));rw[show tEat 5 (ByteArray.mk #[44]).data.toList l'=.ok un3 l3 from ZP]at HM;clear Zt ZP HSTEP0;go_wp2_with fail;refine HM.out.mono ?_;rintro e u1 ⟨v1,rfl,rfl,hr,hg⟩;have HLS1:=Z9 (HLSW.out.same (Lib.grownBy_trans (World.grownBy_alloc w1 _ _) hg) hr hrB);clear hr hg Z5 hrw1;have hrw1:rb<u1.heap.size:=HLS1.out.rd.lt;have hd:=HLS1.out.blocks;have hdr:=(HLS1.out.rd).below (Below.refl _ u1).drew;have Yc:=Z9 hdr;have WO:=Z9 hd.2.1;obtain⟨o0,o1,o2,o3,o4⟩:=zad hd.2.1;have f4:=Lib.frozen_of_heap hd.2.1 4
      have zz:B+1<u1.heap.size:=by have:=hd.2.2;omega
      have HHZ:=Z9 hd.2.2;have WF:=Z9 HLS1.out.grown;obtain⟨m0,Yl⟩:=HLS1.out.parts;have HOWN0:=Z9 Yl.owns;have HCB:=Z9 (HP.out b u1.drew l3 Yc.out HL3.out);rw[←HF.out]at HCB;clear hd hdr Yl
      cases Zp:zbj S T b l3 with
      |no lq =>
       have E:GR=.no lq:=by rw[HE.out,←WP.out,HSTEP.out,Zp];rfl
       have HE2:=Z9 E;rw[Zp]at HCB;clear E Zp;go_wp2_with fail;refine wp_region_any (by kernel_rfl) ?_;change wpAny _ _ _ _ _ _ _ (World.drew _);refine wpAny_take (i:=0) (v := ?_) rfl (by kernel_rfl) (by kernel_rfl) (by kernel_rfl) (fun _ _ _ h=>h) (Or.inl ⟨by rfl,?hyAu1⟩) ?restAu1
       case hyAu1=>(intro w;go_simp<;>with_reducible rfl)
       refine wpAny_take (i:=2) (v := ?_) rfl (by kernel_rfl) (by kernel_rfl) (by kernel_rfl) (fun _ _ _ h=>h) (Or.inl ⟨by rfl,?hyBu1⟩) ?restBu1
       case hyBu1=>(intro w;go_simp<;>with_reducible rfl)
       refine wpAny_ready (rs:=[1,3]) (by kernel_rfl) (by simp) ?_;refine AllReady.cons rfl (fun K hK => ?_) ?_
       ·go_simp
        refine hK _ _ ?_;clear hK K;refine wpAny_ready (rs:=[3]) (by kernel_rfl) (by simp) ?_;refine AllReady.cons rfl (fun K hK => ?_) AllReady.nil;go_simp;refine HCB.out.mono ?_;rintro e u ⟨rfl,hr,hg⟩;exact⟨rfl,zal HE2.out ⟨rfl,hr,Lib.grownBy_trans (zg9 WF.out) hg⟩⟩
       ·refine AllReady.cons rfl (fun K hK => ?_) AllReady.nil
        go_simp;refine HCB.out.mono ?_;rintro e u ⟨rfl,hr,hg⟩;exact⟨rfl,zal HE2.out ⟨rfl,hr,Lib.grownBy_trans (zg9 WF.out) hg⟩⟩
      |ok y l2 =>
       have E:remR ((bs.map (zbj S T)).drop (k+1)) (ys ++ [y]) true l2=R:=by rw[←WP.out,HSTEP.out,Zp];rfl
       have HE2:=Z9 E;have HL2:=Z9 (Nat.lt_of_lt_of_le ((HCN.out b l3).lt Zp) (Nat.le_of_lt HL3.out));rw[Zp]at HCB;clear E Zp;go_wp2_with fail
       go_region_law (first
        |(refine step_append_lies _ (by rfl) (.tmp 28) (.tmp 31) 23 (by rfl) (B+2) 25 i0 zv7 5 72 Tryz.underlying23 HI0.out HI1.out HI2.out HI3.out rfl (by decide) v k xs (by rfl) HOW.out ⟨u.heap.size,0,none⟩ 1 1 [.int .u8 y.kind,.string y.rat,.string y.name,.int .i64 y.date,.slice pa pl pc] (by rfl) rfl HNW.out HON.out (by decide) (by unfold maxLen;omega) (by omega) HBS.out _ rfl ?_;intro ga ca w3 ZL Za ZZ St;have Wc:=Z9 Za;have YP:=Z9 ZL;have ZQ:=Z9 ZZ;have hd2w:=(Za.block _ (show B+1<_ by rw[World.size_alloc];omega) (ybc HOWN0.out (by omega))).trans ((Below.heap_alloc u _ _ zu).trans HD2u.out);have HD2w:=Z9 hd2w;have o4w:=(zad hd2w).2.2.2.2;have f4w:=Lib.frozen_of_heap hd2w 4;clear ZL Za ZZ hd2w)
        |(go_simp;refine HCB.out.mono ?_;rintro e u ⟨vv,rfl,⟨mm,pa,pl,pc,rfl,hx⟩,hr,hb⟩;have HX:=Z9 hx;have HBU:=Z9 hb;have HRU:=Z9 hr;have hd2u:=(hb.block _ (show B+1<u1.heap.size by omega) (fun e=>by injection e with e;omega)).trans WO.out;have HD2u:=Z9 hd2u;have o4u:=(zad hd2u).2.2.2.2;have zu:B+1<u.heap.size:=Nat.lt_of_lt_of_le (show B+1<u1.heap.size by omega) hb.size;have HOW:=Z9 (z68 HOWN0.out hb hrB (.cells #[.int .u8 y.kind,.string y.rat,.string y.name,.int .i64 y.date,.slice pa pl pc] 25));have HNW:=Z9 (World.news_of_block (heap_alloc_new u (.cells #[.int .u8 y.kind,.string y.rat,.string y.name,.int .i64 y.date,.slice pa pl pc] 25)));have HON:=Z9 (ztb y.kind y.date y.rat y.name pa pl pc);have HBS:=Z9 (show B+2≤(u.alloc (.cells #[.int .u8 y.kind,.string y.rat,.string y.name,.int .i64 y.date,.slice pa pl pc] 25)).heap.size by rw[World.size_alloc];omega);clear hx hb hd2u hr))
       all_goals
        have HNEW:=Z9 (HLS1.out.step HBB.out hrB HBU.out ⟨mm,HX.out⟩ HRU.out Wc.out YP.out ZQ.out);clear HX Wc YP ZQ HOW HNW HON HBS HBU HD2u HD2w HRU;go_wp2_with fail;go_roundw
        case rel=>exact⟨k+1,ys ++ [y],l2,_,_,by omega,by go_num,HNEW.out,HL2.out,by rw[show decide (0<k+1)=true by simp];exact HE2.out⟩
        case measure=>simp[intOf]<;>omega
   ·have hke:ys.length=k:=HLSW.out.len
    have TR:k=nb:=by omega
    have SS:(bs.map (zbj S T)).drop k=[]:=List.drop_eq_nil_of_le (by rw[List.length_map,HNB.out];omega)
    have hRE:R=.ok ys l':=by
     rw[←WP.out,SS];exact z2s _ _ _
    have HRE:=Z9 hRE;have HRC:=Z9 (HLSW.out.rd.below (zaa w1 (.cells #[.string ⟨#[41]⟩] 9)));have HM:=Z9 (HMU.out w1.heap.size ⟨#[41]⟩ (w1.alloc (.cells #[.string ⟨#[41]⟩] 9)) l' HRC.out (Boxed.new w1 9 (.string ⟨#[41]⟩)).cell);clear SS hRE hke
    cases ZP:tEat 5 [41] l' with
    |no lq =>
     have E:GR=.no lq:=by rw[HE.out,HRE.out];show(tEat 5 [41] l').bind _=_;rw[ZP];rfl
     have HE2:=Z9 E;rw[show tEat 5 (ByteArray.mk #[41]).data.toList l'=.no lq from ZP]at HM;clear E ZP;go_wp2_with fail;refine HM.out.mono ?_;rintro e u ⟨rfl,hr,hg⟩;exact⟨rfl,zal HE2.out ⟨rfl,hr,Lib.grownBy_trans (Lib.grownBy_allocR HLSW.out.grown _) hg⟩⟩
    |ok un3 l3 =>
     have E:GR=.ok (.mk kd tE0 tE0 0 ys) l3:=by rw[HE.out,HRE.out];show(tEat 5 [41] l').bind _=_;rw[ZP];rfl
     have HE2:=Z9 E;rw[show tEat 5 (ByteArray.mk #[41]).data.toList l'=.ok un3 l3 from ZP]at HM;clear E ZP;go_wp2_with fail;refine HM.out.mono ?_;rintro e u1 ⟨v1,rfl,rfl,hr,hg⟩;have hrB:rb<B:=Z1;have HLS1:=Z9 (HLSW.out.same (Lib.grownBy_trans (World.grownBy_alloc w1 _ _) hg) hr hrB);clear hr hg;obtain⟨m0,Yl⟩:=HLS1.out.parts;obtain⟨av,lv,cv,rfl,Uu⟩:=TwR.done (x:=.mk kd tE0 tE0 0 ys) Yl HLS1.out.len;have hfin:=ycb HBB.out hrB HLS1.out Uu;have hd:=HLS1.out.blocks;have h1b:=hd.2.1;have h0b:=hd.1;obtain⟨o0,o1,o2,o3,o4⟩:=zad hd.2.1;obtain⟨z0,z1,z2,z3,z4⟩:=zad hd.1;have fz:∀i,u1.frozen? ⟨B,i,none⟩=false:=Lib.frozen_of_heap hd.1
     have Uh:=hd.2.2;have zb:B<u1.heap.size:=by omega
     have HFIN:=Z9 hfin;clear hfin Yl Uu hd h1b h0b Uh;go_wp2_with fail;obtain⟨W',hW',hx,YY,hr,hg⟩:=HFIN.out;rw[←hW'];obtain⟨c0,c1,c2,c3,c4⟩:=zad YY;exact bodyPost_ret (v:=.agg #[.int .u8 kd,.string ⟨#[]⟩,.string ⟨#[]⟩,.int .i64 0,.slice av lv cv]) (by simp[results,Tryz.results112,go_sem,c0,c1,c2,c3,c4]) rfl (zbl HE2.out ⟨_,rfl,⟨_,av,lv,cv,rfl,hx⟩,hr,hg⟩)
end Go.Proofs.YtkobkpepgdddeaaGreatDoor
