/-
  Keywords: the reference's Words and Keyword walked. No condition.
-/
import Derived.Test.YtkobkpepgdddeaaGreatDoorZaa
import Derived.Test.YtkobkpepgdddeaaGreatDoorZah
import Derived.Test.YtkobkpepgdddeaaGreatDoorZai
import Derived.Test.YtkobkpepgdddeaaGreatDoorZag
import Derived.RangeFuncBox
import Derived.Lib.BufferOwn
import Derived.Lib.HexFns2
import Derived.Shelf.Spec.SearchS
import Derived.LoopN
namespace Go.Proofs.YtkobkpepgdddeaaGreatDoor
open Go.RowKit
set_option maxHeartbeats 16000000
set_option maxRecDepth 100000
def kwL:List (List UInt8):=[[110,111,116,104,105,110,103],[112,97,121,115],[116,111],[98,111,116,104],[115,99,97,108,101],[105,102],[101,108,115,101],[111,110],[99,104,111,105,99,101],[98,121],[99,97,108,108],[117,110,116,105,108],[119,104,101,110],[109,97,120],[109,105,110],[110,111,119],[99,97,115,101],[108,101,115,115],[101,113,117,97,108],[97,110,100],[111,114],[110,111,116]]
def kwB(l:List UInt8):Bool:=decide (l ∈ kwL)
def kwS(k:Nat):ByteArray:=⟨(kwL[k]?.getD []).toArray⟩
def kwO:Array Value:=((List.range 22).map fun k=>Value.string (kwS k)).toArray
theorem zr7(w:World):Calls Tryz.prog 33 #[] w fun e w'=>e=.returned (.slice (some ⟨w.heap.size,0,none⟩) 22 22)∧w'=w.alloc (.cells kwO 9):=by
 go_enter Tryz.func33,Tryz.ntmps33;go_wp2_with fail;go_ret;exact⟨rfl,rfl⟩
theorem zzt(w:World)(k:Nat)(hk:k<22):(w.alloc (.cells kwO 9)).cell? ⟨w.heap.size,k,none⟩=some (.string (kwS k)):=by
 have h:(w.alloc (.cells kwO 9)).heap[w.heap.size]?=some (.cells kwO 9):=by show(w.heap.push _)[w.heap.size]?=_;simp
 rw[zg2 h k];unfold kwO;simp[hk]
theorem z7d{s:ByteArray}{k:Nat}(hk:k<22)(h:kwS k=s):kwB s.data.toList=true:=by
 subst h
 have:kwL[k]?.getD [] ∈ kwL:=by
  rw[List.getElem?_eq_getElem (show k<kwL.length from hk)];exact List.getElem_mem _
 exact decide_eq_true this
theorem z7c{s:ByteArray}(h:∀k,k<22→kwS k≠s):kwB s.data.toList=false:=by
 refine decide_eq_false fun hm => ?_
 obtain⟨k,hk,e⟩:=List.getElem_of_mem hm;refine h k hk (Go.WideShapes.bytes_inj ?_)
 show kwL[k]?.getD []=_
 rw[List.getElem?_eq_getElem hk];exact e
theorem zht(s:ByteArray)(w:World):Calls Tryz.prog 28 #[.string s] w (BelB w (kwB s.data.toList)):=by
 obtain⟨b,hb⟩:∃b,b=kwB s.data.toList:=⟨_,rfl⟩
 rw[←hb];have HBB:=Z9 hb;have HW:=Z9 (fun W=>zr7 W);have HCELL:=Z9 (fun k hk=>zzt w k hk);have HB:=Z9 (zaf w (.cells kwO 9));clear hb;go_enter Tryz.func28,Tryz.ntmps28;go_wp2_with fail;refine(HW.out _).mono ?_;rintro e w' ⟨rfl,rfl⟩;obtain⟨W1,X8⟩:∃W1,W1=w.alloc (.cells kwO 9):=⟨_,rfl⟩
 rw[←X8]at HCELL HB ⊢;clear X8;go_wp2_with fail;go_loop [4] (fun v=>∃k:Nat,k≤22∧v=.int .i64 (k:Int)∧Hid (∀j,j<k→kwS j≠s)) (fun v=>22-(intOf v).toNat)
 case atStart=>exact⟨0,Nat.zero_le _,rfl,Z9 (fun j h=>absurd h (Nat.not_lt_zero _))⟩
 case round =>
  obtain⟨k,hk,rfl,HK⟩:=hrel
  by_cases Z7:k<22
  ·have hc:=HCELL.out k Z7
   obtain⟨K,TE⟩:∃K,K=kwS k:=⟨_,rfl⟩
   rw[←TE]at hc
   by_cases he:K=s
   ·have e1:(K.toList == s.toList)=true:=by rw[he];exact beq_self_eq_true _
    have HT:Hid (b=true):=HBB.out.trans (z7d Z7 (by rw[←TE];exact he));have HEq:=Z9 he;clear he TE;go_wp2_with fail;go_ret;exact⟨zay HT.out.symm,HB.out⟩
   ·have e1:(K.toList == s.toList)=false:=by
     rw[beq_eq_false_iff_ne,ByteArray.toList_eq,ByteArray.toList_eq]
     exact fun e=>he (Go.WideShapes.bytes_inj e)
    have HX:Hid (∀j,j<k+1→kwS j≠s):=fun j hj=>by
     by_cases e:j=k
     ·subst e;rw[←TE];exact he
     ·exact HK.out j (by omega)
    clear he TE;go_wp2_with fail;go_round
    case rel=>exact⟨k+1,Z7,by go_num,HX⟩
    case measure=>simp[intOf]<;>omega
  ·obtain rfl:k=22:=by omega
   have HF:Hid (b=false):=HBB.out.trans (z7c HK.out);go_wp2_with fail;go_ret;exact⟨zay HF.out.symm,HB.out⟩
inductive Rd (α:Type) where
 |ok (a:α) (l:List Tk)
 |no (l:List Tk)
namespace Rd
def bind{α β:Type}(r:Rd α)(f:α→List Tk→Rd β):Rd β :=
 match r with
 | .ok a l=>f a l
 | .no l=>.no l
@[simp] theorem bind_ok {α β:Type} (a:α) (l:List Tk) (f:α→List Tk→Rd β):(Rd.ok a l).bind f=f a l:=rfl
@[simp] theorem z7o {α β:Type} (l:List Tk) (f:α→List Tk→Rd β):(Rd.no l:Rd α).bind f=.no l:=rfl
theorem bind_assoc{α β γ:Type}(r:Rd α)(f:α→List Tk→Rd β)(g:β→List Tk→Rd γ):(r.bind f).bind g=r.bind fun a l=>(f a l).bind g:=by
 cases r<;>rfl
def Cons{α:Type}(r:Rd α)(l:List Tk):Prop :=
 match r with
 | .ok _ l'=>l' <:+ l∧l'.length<l.length
 | .no l'=>l' <:+ l
def Cons0{α:Type}(r:Rd α)(l:List Tk):Prop :=
 match r with
 | .ok _ l'=>l' <:+ l
 | .no l'=>l' <:+ l
theorem Cons.zero{α:Type}{r:Rd α}{l:List Tk}(h:r.Cons l):r.Cons0 l:=by
 cases r with
 |ok a l'=>exact h.1
 |no l'=>exact h
theorem Cons.bind{α β:Type}{r:Rd α}{l:List Tk}{f:α→List Tk→Rd β}(h:r.Cons l)(hf:∀a l',l' <:+ l→l'.length<l.length→(f a l').Cons0 l'):(r.bind f).Cons l:=by
 cases r with
 |no l'=>exact h
 |ok a l' =>
  have:=hf a l' h.1 h.2
  show(f a l').Cons l
  cases hq:f a l' with
  |no k=>rw[hq]at this;exact this.trans h.1
  |ok b k=>rw[hq]at this;exact⟨this.trans h.1,Nat.lt_of_le_of_lt this.length_le h.2⟩
theorem Cons0.bind{α β:Type}{r:Rd α}{l:List Tk}{f:α→List Tk→Rd β}(h:r.Cons0 l)(hf:∀a l',l' <:+ l→(f a l').Cons0 l'):(r.bind f).Cons0 l:=by
 cases r with
 |no l'=>exact h
 |ok a l' =>
  have:=hf a l' h
  show(f a l').Cons0 l
  cases hq:f a l' with
  |no k=>rw[hq]at this;exact this.trans h
  |ok b k=>rw[hq]at this;exact this.trans h
end Rd
def tIs(k:Int)(s:List UInt8):List Tk→Bool
 | []=>false
 |t :: _=>decide (t.kind=k) && (t.text.data.toList == s)
def zar:List Tk→List UInt8
 | []=>[]
 |t :: _=>if t.kind=1∧kwB t.text.data.toList=true then t.text.data.toList else[]
def tEat(k:Int)(s:List UInt8)(l:List Tk):Rd Unit:=if tIs k s l=true then .ok () l.tail else .no l
def tOf(k:Int):List Tk→Rd Tk
 | []=>.no []
 |t :: l=>if t.kind=k then .ok t l else .no (t :: l)
def zgf:List Tk→Rd ByteArray
 | []=>.no []
 |t :: l=>if t.kind=2∨(t.kind=1∧kwB t.text.data.toList=false)then .ok t.text l else .no (t :: l)
def tE0:ByteArray:=⟨#[]⟩
def tEx2(k:Int)(x y:Ex):Ex:=.mk k tE0 tE0 0 [x,y]
abbrev RdX:=List Tk→Rd Ex
def zfc:List RdX→Bool→List Tk→Rd (List Ex)
 | [],_,l=>.ok [] l
 |p :: ps,c,l=>(if c=true then tEat 5 [44] l else .ok () l).bind fun _ l=>(p l).bind fun x l=>(zfc ps true l).bind fun xs l=>.ok (x :: xs) l
def zbf(k:Int)(ps:List RdX)(l:List Tk):Rd Ex :=
 (tEat 5 [40] l).bind fun _ l=>(zfc ps false l).bind fun xs l=>(tEat 5 [41] l).bind fun _ l=>.ok (.mk k tE0 tE0 0 xs) l
def tFix(l:List Tk):Rd Ex :=
 (zgf l).bind fun n l=>(tEat 5 [64] l).bind fun _ l =>
  if tIs 1 [110,111,119] l=true then .ok (.mk 3 tE0 n 0 []) l.tail
  else(tOf 4 l).bind fun t l=>.ok (.mk 2 tE0 n t.date []) l
def ziv(S:RdX)(l:List Tk):Rd Ex :=
 if tIs 5 [40] l=true then(S l.tail).bind fun x l=>(tEat 5 [41] l).bind fun _ l=>.ok x l
 else match l with
  | []=>tFix []
  |t :: r=>if t.kind=3 then .ok (.mk 1 t.rat tE0 0 []) r else tFix (t :: r)
def zbv(S T:RdX)(l:List Tk):Rd Ex :=
 if zar l=[109,97,120]then zbf 7 [S,S] l.tail
 else if zar l=[109,105,110]then zbf 8 [S,S] l.tail
 else if zar l=[99,97,115,101]then zbf 9 [T,S,S] l.tail
 else if zar l=[]then ziv S l
 else .no l
def zgr(F:RdX):Nat→Ex→List Tk→Rd Ex
 |0,_,l=>.no l
 |n+1,x,l=>if tIs 5 [42] l=true then(F l.tail).bind fun y l=>zgr F n (tEx2 6 x y) l else .ok x l
def zbj(F:RdX)(n:Nat)(l:List Tk):Rd Ex:=(F l).bind fun x l=>zgr F n x l
def tAdd(F:RdX)(m:Nat):Nat→Ex→List Tk→Rd Ex
 |0,_,l=>.no l
 |n+1,x,l =>
  if tIs 5 [43] l=true then(zbj F m l.tail).bind fun y l=>tAdd F m n (tEx2 4 x y) l
  else if tIs 5 [45] l=true then(zbj F m l.tail).bind fun y l=>tAdd F m n (tEx2 5 x y) l
  else .ok x l
def tSum(F:RdX)(n:Nat)(l:List Tk):Rd Ex:=(zbj F n l).bind fun x l=>tAdd F n n x l
def zd2(S T:RdX)(l:List Tk):Rd Ex :=
 if zar l=[108,101,115,115]then zbf 11 [S,S] l.tail
 else if zar l=[101,113,117,97,108]then zbf 12 [S,S] l.tail
 else if zar l=[97,110,100]then zbf 13 [T,T] l.tail
 else if zar l=[111,114]then zbf 14 [T,T] l.tail
 else if zar l=[110,111,116]then zbf 15 [T] l.tail
 else .no l
def rdE:Nat→Bool→RdX
 |0,_=>fun l=>.no l
 |n+1,b=>if b=true then tSum (zbv (rdE n true) (rdE n false)) (n+1)else zd2 (rdE n true) (rdE n false)
def zde(n:Nat)(l:List Tk):Rd Ex :=
 if zar l=[108,101,115,115]∨zar l=[101,113,117,97,108]∨zar l=[97,110,100]∨zar l=[111,114]∨zar l=[110,111,116]then rdE n false l else rdE n true l
def tX0:Ex:=.mk 0 tE0 tE0 0 []
theorem zbp{l:List Tk}(h:zar l≠[]):∃t r,l=t :: r:=by
 cases l with
 |nil=>exact absurd rfl h
 |cons t r=>exact⟨t,r,rfl⟩
theorem zb2{k:Int}{s:List UInt8}{l:List Tk}(h:tIs k s l=true):∃t r,l=t :: r:=by
 cases l with
 |nil=>cases h
 |cons t r=>exact⟨t,r,rfl⟩
theorem zcx(k:Int)(s:List UInt8)(l:List Tk):(tEat k s l).Cons l:=by
 unfold tEat
 split
 ·rename_i h
  obtain⟨t,r,rfl⟩:=zb2 h;exact⟨List.suffix_cons _ _,by simp⟩
 ·exact List.suffix_refl _
theorem zyb(k:Int)(l:List Tk):(tOf k l).Cons l:=by
 cases l with
 |nil=>exact List.suffix_refl _
 |cons t r =>
  show(if t.kind=k then Rd.ok t r else Rd.no (t :: r)).Cons (t :: r)
  split
  ·exact⟨List.suffix_cons _ _,by simp⟩
  ·exact List.suffix_refl _
theorem zr2(l:List Tk):(zgf l).Cons l:=by
 cases l with
 |nil=>exact List.suffix_refl _
 |cons t r =>
  show(if t.kind=2∨(t.kind=1∧kwB t.text.data.toList=false)then Rd.ok t.text r else Rd.no (t :: r)).Cons (t :: r)
  split
  ·exact⟨List.suffix_cons _ _,by simp⟩
  ·exact List.suffix_refl _
theorem zd7{α:Type}(a:α)(l:List Tk):(Rd.ok a l).Cons0 l:=List.suffix_refl _
theorem zya(l:List Tk):l.tail <:+ l:=by
 cases l with
 |nil=>exact List.suffix_refl _
 |cons t r=>exact List.suffix_cons _ _
theorem zb8{α:Type}{l:List Tk}(r:Rd α)(hl:∃t q,l=t :: q)(h:r.Cons0 l.tail):r.Cons l:=by
 obtain⟨t,q,rfl⟩:=hl;have hs:q <:+ t :: q:=List.suffix_cons _ _
 cases r with
 |ok a k=>exact⟨List.IsSuffix.trans h hs,Nat.lt_of_le_of_lt (List.IsSuffix.length_le h) (by simp)⟩
 |no k=>exact List.IsSuffix.trans h hs
theorem ziw:∀(ps:List RdX),(∀p ∈ ps,∀l,(p l).Cons l)→∀(c:Bool)(l:List Tk),(zfc ps c l).Cons0 l
 | [],_,_,l=>zd7 _ _
 |p :: ps,hp,c,l=>by
  unfold zfc
  refine Rd.Cons0.bind ?_ fun _ l1 _=>(hp p (by simp) l1).zero.bind fun x l2 _=>(ziw ps (fun q hq=>hp q (by simp[hq])) true l2).bind fun xs l3 _=>zd7 _ _
  split
  ·exact(zcx _ _ _).zero
  ·exact zd7 _ _
theorem zcq(k:Int)(ps:List RdX)(hp:∀p ∈ ps,∀l,(p l).Cons l)(l:List Tk):(zbf k ps l).Cons l :=
 (zcx _ _ _).bind fun _ _l1 _ _=>(ziw ps hp _ _).bind fun _ _l2 _=>(zcx _ _ _).zero.bind fun _ _l3 _=>zd7 _ _
theorem zmh(l:List Tk):(tFix l).Cons l :=
 (zr2 l).bind fun _ l1 _ _=>(zcx _ _ _).zero.bind fun _ l2 _=>by
  split
  ·exact zya l2
  ·exact(zyb _ _).zero.bind fun _ l3 _=>zd7 _ _
theorem zoq(S:RdX)(hS:∀l,(S l).Cons l)(l:List Tk):(ziv S l).Cons l:=by
 unfold ziv
 split
 ·rename_i h
  exact zb8 _ (zb2 h) ((hS _).zero.bind fun _ l1 _=>(zcx _ _ _).zero.bind fun _ l2 _=>zd7 _ _)
 ·cases l with
  |nil=>exact zmh _
  |cons t r =>
   dsimp only
   split
   ·exact⟨List.suffix_cons _ _,by simp⟩
   ·exact zmh _
theorem zd3(S T:RdX)(hS:∀l,(S l).Cons l)(hT:∀l,(T l).Cons l)(l:List Tk):(zbv S T l).Cons l:=by
 have h2:∀p ∈ [S,S],∀l,(p l).Cons l:=by simp[hS]
 have h3:∀p ∈ [T,S,S],∀l,(p l).Cons l:=by simp[hS,hT]
 unfold zbv
 split
 ·rename_i h;exact zb8 _ (zbp (by rw[h];simp)) (zcq _ _ h2 _).zero
 split
 ·rename_i h;exact zb8 _ (zbp (by rw[h];simp)) (zcq _ _ h2 _).zero
 split
 ·rename_i h;exact zb8 _ (zbp (by rw[h];simp)) (zcq _ _ h3 _).zero
 split
 ·exact zoq S hS l
 ·exact List.suffix_refl _
theorem zkb(F:RdX)(hF:∀l,(F l).Cons l):∀(n:Nat)(x:Ex)(l:List Tk),(zgr F n x l).Cons0 l
 |0,_,l=>List.suffix_refl _
 |n+1,x,l=>by
  unfold zgr
  split
  ·rename_i h
   exact(zb8 _ (zb2 h) ((hF _).zero.bind fun y l1 _=>zkb F hF n _ l1)).zero
  ·exact zd7 _ _
theorem zdi(F:RdX)(hF:∀l,(F l).Cons l)(n:Nat)(l:List Tk):(zbj F n l).Cons l :=
 (hF l).bind fun x l1 _ _=>zkb F hF n x l1
theorem zix(F:RdX)(hF:∀l,(F l).Cons l)(m:Nat):∀(n:Nat)(x:Ex)(l:List Tk),(tAdd F m n x l).Cons0 l
 |0,_,l=>List.suffix_refl _
 |n+1,x,l=>by
  unfold tAdd
  split
  ·rename_i h
   exact(zb8 _ (zb2 h) ((zdi F hF m _).zero.bind fun y l1 _=>zix F hF m n _ l1)).zero
  split
  ·rename_i h
   exact(zb8 _ (zb2 h) ((zdi F hF m _).zero.bind fun y l1 _=>zix F hF m n _ l1)).zero
  ·exact zd7 _ _
theorem zuj(F:RdX)(hF:∀l,(F l).Cons l)(n:Nat)(l:List Tk):(tSum F n l).Cons l :=
 (zdi F hF n l).bind fun x l1 _ _=>zix F hF n n x l1
theorem zop(S T:RdX)(hS:∀l,(S l).Cons l)(hT:∀l,(T l).Cons l)(l:List Tk):(zd2 S T l).Cons l:=by
 have h2:∀p ∈ [S,S],∀l,(p l).Cons l:=by simp[hS]
 have h3:∀p ∈ [T,T],∀l,(p l).Cons l:=by simp[hT]
 have h4:∀p ∈ [T],∀l,(p l).Cons l:=by simp[hT]
 unfold zd2
 split
 ·rename_i h;exact zb8 _ (zbp (by rw[h];simp)) (zcq _ _ h2 _).zero
 split
 ·rename_i h;exact zb8 _ (zbp (by rw[h];simp)) (zcq _ _ h2 _).zero
 split
 ·rename_i h;exact zb8 _ (zbp (by rw[h];simp)) (zcq _ _ h3 _).zero
 split
 ·rename_i h;exact zb8 _ (zbp (by rw[h];simp)) (zcq _ _ h3 _).zero
 split
 ·rename_i h;exact zb8 _ (zbp (by rw[h];simp)) (zcq _ _ h4 _).zero
 ·exact List.suffix_refl _
theorem zbh:∀(n:Nat)(b:Bool)(l:List Tk),(rdE n b l).Cons l
 |0,_,_l=>List.suffix_refl _
 |n+1,true,l=>zuj _ (zd3 _ _ (zbh n true) (zbh n false)) _ l
 |n+1,false,l=>zop _ _ (zbh n true) (zbh n false) l
def tkC(t:Tk):List Value:=[.int .u8 t.kind,.string t.text,.string t.rat,.int .i64 t.date,.int .i64 t.place]
def TksAt(w:World)(rb:Nat)(a:Option Addr)(l:List Tk):Prop :=
 l=[]∨∃g o,a=some ⟨g,o,none⟩∧g<rb∧g<w.heap.size∧∀i (h:i<l.length),∀j,j<5→w.cell? ⟨g,o+i*5+j,none⟩=(tkC l[i])[j]?
theorem TksAt.kept{w w':World}{rb:Nat}{a:Option Addr}{l:List Tk}{row:Option Nat}(h:TksAt w rb a l)(hg:w.grownBy w' row)(hr:∀k,row=some k→k=rb):TksAt w' rb a l :=
 h.imp id fun⟨g,o,ha,ZT,Z7,hc⟩=>⟨g,o,ha,ZT,Nat.lt_of_lt_of_le Z7 hg.size,fun i hi j hj =>
  (World.cell?_of_block (w:=w) (w':=w') (a:=⟨g,o+i*5+j,none⟩) (hg.block g Z7 (fun e=>Nat.ne_of_lt ZT (hr g e.symm)))).trans (hc i hi j hj)⟩
def RAt(rb:Nat)(w:World)(l:List Tk):Prop :=
 ∃a cap,Boxed w rb 134 (.slice a l.length cap)∧l.length≤cap∧cap≤maxLen∧TksAt w rb a l
theorem RAt.lt{rb:Nat}{w:World}{l:List Tk}(h:RAt rb w l):rb<w.heap.size:=by
 obtain⟨a,cap,hb,_⟩:=h;exact hb.lt
theorem RAt.kept{rb:Nat}{w w':World}{l:List Tk}(h:RAt rb w l)(hg:w.grownBy w' none):RAt rb w' l:=by
 obtain⟨a,cap,hb,hc,hm,ht⟩:=h;exact⟨a,cap,hb.kept hg (by simp),hc,hm,ht.kept hg (fun k e=>by cases e)⟩
theorem zah{w w':World}(h:Below w.heap.size w w'):w.grownBy w' none:=⟨h.os,h.tape,h.output,h.size,fun k hk _=>h.block k hk⟩
theorem zan{w w':World}{rb:Nat}(h:w.grownBy w' none):w.grownBy w' (some rb):=⟨h.os,h.tape,h.output,h.size,fun k hk _=>h.block k hk (by simp)⟩
theorem RAt.below{rb:Nat}{w w':World}{l:List Tk}(h:RAt rb w l)(hb:Below w.heap.size w w'):RAt rb w' l:=h.kept (zah hb)
theorem RAt.setNew{rb:Nat}{w:World}{l:List Tk}(h:RAt rb w l){b:Nat}(hb:rb<b)(i:Nat)(v:Value):RAt rb (w.setCell ⟨b,i,none⟩ v) l:=by
 obtain⟨a,cap,hx,hc,hm,ht⟩:=h;have hg:w.grownBy (w.setCell ⟨b,i,none⟩ v) (some b):=Lib.grownBy_setCell w b i v;refine⟨a,cap,hx.kept hg (fun e=>by injection e with e;omega),hc,hm,ht.imp id fun⟨g,o,ha,ZT,Z7,Z1⟩=>⟨g,o,ha,ZT,Nat.lt_of_lt_of_le Z7 hg.size,fun j hj k hk => ?_⟩⟩;exact(World.cell?_of_block (w:=w) (w':=w.setCell ⟨b,i,none⟩ v) (a:=⟨g,o+j*5+k,none⟩) (hg.block g Z7 (fun e=>by injection e with e;omega))).trans (Z1 j hj k hk)
theorem zaq{w u:World}{row:Option Nat}(h:w.grownBy u row){b:Nat}(hb:w.heap.size≤b)(i:Nat)(v:Value):w.grownBy (u.setCell ⟨b,i,none⟩ v) row :=
 ⟨h.os,h.tape,h.output,Nat.le_trans h.size (Lib.grownBy_setCell u b i v).size,fun k hk hr=>(Below.heap_setCell _ _ _ _ (by show k≠b;omega)).trans (h.block k hk hr)⟩
theorem zre{w u:World}{o:Obj}{rb:Nat}(hg:(w.alloc o).grownBy u (some rb))(Z7:rb<w.heap.size):u.heap[w.heap.size]?=some o :=
 (hg.block _ (by simp) (fun e=>by injection e with e;omega)).trans (heap_alloc_new w o)
theorem RAt.head{rb:Nat}{w:World}{t:Tk}{l:List Tk}(h:RAt rb w (t :: l)):∃g o cap,Boxed w rb 134 (.slice (some ⟨g,o,none⟩) (l.length+1) cap)∧l.length+1≤cap∧cap≤maxLen ∧
 (∀j,j<5→w.cell? ⟨g,o+j,none⟩=(tkC t)[j]?)∧g<w.heap.size∧g<rb ∧
 (∀(w':World)(a':Option Addr)(cap':Nat),w.grownBy w' (some rb)→Boxed w' rb 134 (.slice a' l.length cap')→l.length≤cap'→cap'≤maxLen→(l=[]∨a'=some ⟨g,o+5,none⟩)→RAt rb w' l):=by
 obtain⟨a,cap,hb,hc,hm,ht⟩:=h
 rcases ht with ht |⟨g,o,rfl,ZT,Z7,Z1⟩
 ·cases ht
 ·refine⟨g,o,cap,hb,hc,hm,fun j hj => ?_,Z7,ZT,fun w' a' cap' hg hb' hc' hm' ha'=>⟨_,_,hb',hc',hm',?_⟩⟩
  ·have:=Z1 0 (by simp) j hj
   rwa [Nat.zero_mul,Nat.add_zero]at this
  ·rcases ha' with rfl |rfl
   ·exact .inl rfl
   ·refine .inr ⟨g,o+5,rfl,ZT,Nat.lt_of_lt_of_le Z7 hg.size,fun i hi j hj => ?_⟩
    have:=Z1 (i+1) (by rw[List.length_cons];omega) j hj;rw[List.getElem_cons_succ]at this;rw[←this];refine(World.cell?_of_block (w:=w) (w':=w') (a:=⟨g,o+5+i*5+j,none⟩) (hg.block g Z7 (fun e=>Nat.ne_of_lt ZT (by injection e)))).trans ?_
    congr 2
    omega
theorem RAt.nil{rb:Nat}{w:World}(h:RAt rb w []):∃a cap,Boxed w rb 134 (.slice a 0 cap):=by
 obtain⟨a,cap,hb,_⟩:=h;exact⟨a,cap,hb⟩
theorem za2{u:World}{b:Nat}{x0 x1 x2 x3 x4:Value}{t:TypeId}(h:u.heap[b]?=some (.cells #[x0,x1,x2,x3,x4] t))(v0 v1 v2 v3 v4:Value) :
 ((((((u.setCell ⟨b,0,none⟩ v0).setCell ⟨b,1,none⟩ v1).setCell ⟨b,2,none⟩ v2).setCell ⟨b,3,none⟩ v3).setCell ⟨b,4,none⟩ v4).heap[b]?=some (.cells #[v0,v1,v2,v3,v4] t)):=by
 simp[World.setCell,Array.getElem?_modify,h]
def zl9:Ending:=.panicked [{ v:=.iface 136 (.agg #[]),recovered:=false }]
def zbk{α:Type}(V:α→World→Value→Prop)(rb:Nat)(w:World)(r:Rd α)(e:Ending)(w':World):Prop :=
 match r with
 | .ok x l=>∃v,e=.returned v∧V x w' v∧RAt rb w' l∧w.grownBy w' (some rb)
 | .no l=>e=zl9∧RAt rb w' l∧w.grownBy w' (some rb)
def VEx(B:Nat)(x:Ex)(w':World)(v:Value):Prop :=
 ∃n a len cap,v=.agg #[.int .u8 x.kind,.string x.rat,.string x.name,.int .i64 x.date,.slice a len cap] ∧
  ExOn (fun g=>B≤g∧g<w'.heap.size) n w' [.int .u8 x.kind,.string x.rat,.string x.name,.int .i64 x.date,.slice a len cap] x
def VTok(t:Tk)(_:World)(v:Value):Prop:=v=.agg #[.int .u8 t.kind,.string t.text,.string t.rat,.int .i64 t.date,.int .i64 t.place]
def z43(_:Unit)(_:World)(v:Value):Prop:=v=.tuple #[]
def VStr(s:ByteArray)(_:World)(v:Value):Prop:=v=.string s
def qn(s:ByteArray):ByteArray:=if kwB s.data.toList=true then ByteArray.mk #[34] ++ s ++ ByteArray.mk #[34]else s
def kqL:List (List UInt8):=[[97,110,100],[98,111,116,104],[98,121],[99,97,108,108],[99,97,115,101],[99,104,111,105,99,101],[101,108,115,101],[101,113,117,97,108],[105,102],[108,101,115,115],[109,97,120],[109,105,110],[110,111,116],[110,111,116,104,105,110,103],[110,111,119],[111,110],[111,114],[112,97,121,115],[115,99,97,108,101],[116,111],[117,110,116,105,108],[119,104,101,110]]
def kqS(k:Nat):ByteArray:=⟨(kqL[k]?.getD []).toArray⟩
def kqO:Array Value:=((List.range 22).map fun k=>Value.string (kqS k)).toArray
theorem zsn(w:World):Calls Tryz.prog 70 #[] w fun e w'=>e=.returned (.slice (some ⟨w.heap.size,0,none⟩) 22 22)∧w'=w.alloc (.cells kqO 9):=by
 go_enter Tryz.func70,Tryz.ntmps70;go_wp2_with fail;go_ret;exact⟨rfl,rfl⟩
theorem zzv(w:World)(k:Nat)(hk:k<22):(w.alloc (.cells kqO 9)).cell? ⟨w.heap.size,k,none⟩=some (.string (kqS k)):=by
 have h:(w.alloc (.cells kqO 9)).heap[w.heap.size]?=some (.cells kqO 9):=by show(w.heap.push _)[w.heap.size]?=_;simp
 rw[zg2 h k];unfold kqO;simp[hk]
theorem z7e(l:List UInt8):kwB l=decide (l ∈ kqL):=by
 have h1:∀x ∈ kwL,x ∈ kqL:=by decide
 have h2:∀x ∈ kqL,x ∈ kwL:=by decide
 unfold kwB;exact decide_eq_decide.2 ⟨h1 l,h2 l⟩
theorem z4d:∀t,t<22→∀j,j<22→Op.bytesLess (kqL[t]?.getD []) (kqL[j]?.getD [])=decide (t<j):=by decide +kernel
theorem z7h{less:Nat→Bool}{n k:Nat}(h1:∀t,t<k→less t=true)(h2:∀t,k≤t→t<n→less t=false):∀f lo hi:Nat,hi-lo≤f→lo≤k→k≤hi→hi≤n→Lib.bsGo less f lo hi=k:=by
 intro f
 induction f with
 |zero=>intro lo hi a b c d;show lo=k;omega
 |succ f ih =>
  intro lo hi a b c d;rw[Lib.bsGo]
  split
  ·cases hm:less ((lo+hi) / 2)with
   |true =>
    have:(lo+hi) / 2<k:=Nat.lt_of_not_le fun h=>by
     rw[h2 _ h (by omega)]at hm;exact Bool.noConfusion hm
    rw[if_pos rfl];exact ih _ _ (by omega) (by omega) c d
   |false =>
    have:k≤(lo+hi) / 2:=Nat.le_of_not_lt fun h=>by
     rw[h1 _ h]at hm;exact Bool.noConfusion hm
    rw[if_neg Bool.false_ne_true];exact ih _ _ (by omega) b this (by omega)
  ·omega
theorem zzu(s:ByteArray):decide (Lib.bsGo (fun t=>Op.bytesLess (kqS t).toList s.toList) 22 0 22<22∧kqS (Lib.bsGo (fun t=>Op.bytesLess (kqS t).toList s.toList) 22 0 22)=s)=kwB s.data.toList:=by
 rw[z7e];refine decide_eq_decide.2 ⟨fun h => ?_,fun h => ?_⟩
 ·obtain⟨h1,h2⟩:=h
  revert h1 h2;generalize Lib.bsGo (fun t=>Op.bytesLess (kqS t).toList s.toList) 22 0 22=I;intro h1 h2;rw[←h2]
  show kqL[I]?.getD [] ∈ kqL
  rw[List.getElem?_eq_getElem (show I<kqL.length from h1)];exact List.getElem_mem _
 ·obtain⟨j,hj,e⟩:=List.getElem_of_mem h
  have hj':j<22:=hj
  have hs:kqS j=s:=by
   apply Go.WideShapes.bytes_inj
   show kqL[j]?.getD []=_
   rw[List.getElem?_eq_getElem hj];exact e
  have hl:∀t,t<22→Op.bytesLess (kqS t).toList s.toList=decide (t<j):=fun t ht=>by
   rw[←hs,ByteArray.toList_eq,ByteArray.toList_eq];exact z4d t ht j hj'
  have hk:Lib.bsGo (fun t=>Op.bytesLess (kqS t).toList s.toList) 22 0 22=j :=
   z7h (n:=22) (fun t ht=>(hl t (by omega)).trans (decide_eq_true ht)) (fun t a b=>(hl t b).trans (decide_eq_false (by omega))) 22 0 22 (by omega) (by omega) (by omega) (by omega)
  rw[hk];exact⟨hj',hs⟩
end Go.Proofs.YtkobkpepgdddeaaGreatDoor
namespace Go.Proofs
open Go.Shelf
def Tryz.laysQ26_ren:Go.Shelf.Ren:=⟨fun |26=>69 |33=>123 |34=>124 |38=>171 |n=>n,fun |0=>0 |3=>3 |4=>4 |9=>9 |24=>56 |40=>149 |n=>n,fun |n=>n⟩
theorem Tryz.laysQ26:Go.Proofs.Lays2.n26 Tryz.prog Tryz.laysQ26_ren:={
 mixed:=by kernel_rfl
 f26:=Tryz.func69.trans (congrArg some (by kernel_rfl))
 f33:=Tryz.func123.trans (congrArg some (by kernel_rfl))
 f34:=Tryz.func124.trans (congrArg some (by kernel_rfl))
 f38:=Tryz.func171.trans (congrArg some (by kernel_rfl))
 t0:=Tryz.underlying0
 a0:=Tryz.isAgg0
 z0:=Tryz.sizeOf0
 v0:=Tryz.zeroValue0
 t3:=Tryz.underlying3
 a3:=Tryz.isAgg3
 z3:=Tryz.sizeOf3
 v3:=Tryz.zeroValue3
 t4:=Tryz.underlying4
 a4:=Tryz.isAgg4
 z4:=Tryz.sizeOf4
 v4:=Tryz.zeroValue4
 t9:=Tryz.underlying9
 a9:=Tryz.isAgg9
 z9:=Tryz.sizeOf9
 v9:=Tryz.zeroValue9
 t24:=Tryz.underlying56
 a24:=Tryz.isAgg56
 z24:=Tryz.sizeOf56
 v24:=Tryz.zeroValue56
 t40:=Tryz.underlying149
 a40:=Tryz.isAgg149
 z40:=Tryz.sizeOf149
 v40:=Tryz.zeroValue149 }
end Go.Proofs
namespace Go.Proofs.YtkobkpepgdddeaaGreatDoor
open Go.RowKit
theorem zhv(s:ByteArray)(w:World):Calls Tryz.prog 27 #[.string s] w (BelB w (kwB s.data.toList)):=by
 have HW:=Z9 (fun W=>zsn W);have HB:=Z9 (zaf w (.cells kqO 9))
 have HS:Hid (Calls Tryz.prog 69 #[.slice (some ⟨w.heap.size,0,none⟩) 22 22,.string s] (w.alloc (.cells kqO 9)) fun e w'=>∃I:Int,e=.returned (.tuple #[.int .i64 I,.bool (kwB s.data.toList)])∧∃q,w'=(w.alloc (.cells kqO 9)).drewN q):=by
  refine Z9 (Calls.mono (Any2.slices_BinarySearch_string Tryz.laysQ26 w.heap.size 0 22 22 kqS s _ (by decide) (fun j hj=>by rw[Nat.zero_add];exact zzv w j hj)) ?_);rintro e w' ⟨h1,h2⟩;exact⟨_,by rw[h1,zzu],h2⟩
 obtain⟨b,hb⟩:∃b,b=kwB s.data.toList:=⟨_,rfl⟩
 rw[←hb]at HS ⊢;clear hb;go_enter Tryz.func27,Tryz.ntmps27;go_wp2_with fail;refine(HW.out _).mono ?_;rintro e w' ⟨rfl,rfl⟩;obtain⟨W1,X8⟩:∃W1,W1=w.alloc (.cells kqO 9):=⟨_,rfl⟩
 rw[←X8]at HS HB ⊢;clear X8;go_wp2_with fail;refine HS.out.mono ?_;rintro e w' ⟨I,rfl,q,rfl⟩;have HD:=Z9 (zav HB.out q);go_wp2_with fail;go_ret;exact⟨rfl,HD.out⟩
theorem zeu{w:World}{g o:Nat}{t:Tk}(h:∀j,j<5→w.cell? ⟨g,o+j,none⟩=(tkC t)[j]?) :
 w.cell? ⟨g,o,none⟩=some (.int .u8 t.kind)∧w.cell? ⟨g,o+1,none⟩=some (.string t.text)∧w.cell? ⟨g,o+2,none⟩=some (.string t.rat)∧w.cell? ⟨g,o+3,none⟩=some (.int .i64 t.date)∧w.cell? ⟨g,o+4,none⟩=some (.int .i64 t.place) :=
 ⟨h 0 (by omega),h 1 (by omega),h 2 (by omega),h 3 (by omega),h 4 (by omega)⟩
theorem z1h(k:Int)(s:ByteArray)(t:Tk)(l:List Tk):tIs k s.data.toList (t :: l)=((t.kind == k) && (t.text.toList == s.toList)):=by
 rw[zac,zac]
 show(decide (t.kind=k) && _)=_
 by_cases h:t.kind=k
 ·rw[decide_eq_true h];simp[h]
 ·rw[decide_eq_false h];simp[h]
theorem zjf(rb:Nat)(k:Int)(s:ByteArray)(w:World)(l:List Tk)(h:RAt rb w l) :
 Calls Tryz.prog 114 #[.pointer (some ⟨rb,0,none⟩),.int .u8 k,.string s] w (BelB w (tIs k s.data.toList l)):=by
 cases l with
 |nil =>
  obtain⟨a,cap,hb⟩:=h.nil;have h0:=hb.cell;clear hb h;go_enter Tryz.func114,Tryz.ntmps114;go_wp2_with fail;go_ret;exact⟨rfl,(Below.refl _ _)⟩
 |cons t l =>
  obtain⟨g,o,cap,hb,hc,hm,Z1,hg,ZT,_⟩:=h.head;have h0:=hb.cell;obtain⟨c0,c1,_,_,_⟩:=zeu Z1;have hl:(0:Int)<((l.length+1:Nat):Int):=by omega
  have hl0:0<l.length+1:=by omega
  rw[z1h];obtain⟨n,hn⟩:∃n,n=l.length+1:=⟨_,rfl⟩
  rw[←hn]at h0 hl hl0 hc;clear hb h Z1 hn;obtain⟨b1,ZL⟩:∃b,(t.kind == k)=b:=⟨_,rfl⟩
  obtain⟨b2,ZS⟩:∃b,(t.text.toList == s.toList)=b:=⟨_,rfl⟩
  rw[ZL,ZS]
  cases b1<;>cases b2
  all_goals
   go_enter Tryz.func114,Tryz.ntmps114;go_wp2_with fail;go_ret;exact⟨rfl,(Below.refl _ _)⟩
theorem zgs(rb:Nat)(w:World):Calls Tryz.prog 110 #[.pointer (some ⟨rb,0,none⟩)] w (fun e w'=>e=zl9∧w'=w):=by
 go_enter Tryz.func110,Tryz.ntmps110;go_wp2_with fail;exact⟨rfl,rfl,rfl⟩
theorem zbl(rb:Nat)(w:World)(t:Tk)(l:List Tk)(h:RAt rb w (t :: l)) :
 Calls Tryz.prog 111 #[.pointer (some ⟨rb,0,none⟩)] w (zbk VTok rb w (.ok t l)):=by
 obtain⟨g,o,cap,hb,hc,hm,Z1,hg,ZT,X4⟩:=h.head;have h0:=hb.cell;have hf:=hb.frozen;obtain⟨c0,c1,c2,c3,c4⟩:=zeu Z1;have Zy:1≤l.length+1:=by omega
 have hl0:0<l.length+1:=by omega
 have HS:=Z9 X4;have HB:=Z9 hb;have Z7:=h.lt;clear hb h Z1 X4
 by_cases US:cap=1
 ·have hl:l.length=0:=by omega
  have HL:=Z9 (List.length_eq_zero_iff.1 hl);have HLE:=Z9 hl;subst US;clear hl;go_enter Tryz.func111,Tryz.ntmps111;go_wp2_with fail;have hb':=(HB.out.set (.slice (some ⟨g,o,none⟩) 0 0));have hg':=Lib.grownBy_allocR (Lib.grownBy_allocR (grownBy_setCell' w rb (.slice (some ⟨g,o,none⟩) 0 0)) (.cells #[.int .u8 t.kind,.string t.text,.string t.rat,.int .i64 t.date,.int .i64 t.place] 100)) (.cells #[.int .u8 t.kind,.string t.text,.string t.rat,.int .i64 t.date,.int .i64 t.place] 100);have HS':=HS.out;rw[HLE.out]at HS';exact bodyPost_ret (v:=.agg #[.int .u8 t.kind,.string t.text,.string t.rat,.int .i64 t.date,.int .i64 t.place]) (by simp[results,Tryz.results111,go_sem]) rfl ⟨_,rfl,rfl,HS' _ _ _ hg' ((hb'.alloc _).alloc _) (Nat.le_refl _) (by omega) (.inl HL.out),hg'⟩
 ·go_enter Tryz.func111,Tryz.ntmps111
  go_wp2_with fail;have hb':=(HB.out.set (.slice (some ⟨g,o+5,none⟩) l.length (cap-1)));have hg':=Lib.grownBy_allocR (Lib.grownBy_allocR (grownBy_setCell' w rb (.slice (some ⟨g,o+5,none⟩) l.length (cap-1))) (.cells #[.int .u8 t.kind,.string t.text,.string t.rat,.int .i64 t.date,.int .i64 t.place] 100)) (.cells #[.int .u8 t.kind,.string t.text,.string t.rat,.int .i64 t.date,.int .i64 t.place] 100);exact bodyPost_ret (v:=.agg #[.int .u8 t.kind,.string t.text,.string t.rat,.int .i64 t.date,.int .i64 t.place]) (by simp[results,Tryz.results111,go_sem]) rfl ⟨_,rfl,rfl,HS.out _ _ _ hg' ((hb'.alloc _).alloc _) (by omega) (by omega) (.inr rfl),hg'⟩
theorem z50(rb:Nat)(k:Int)(w:World)(l:List Tk)(h:RAt rb w l) :
 Calls Tryz.prog 133 #[.pointer (some ⟨rb,0,none⟩),.int .u8 k] w (zbk VTok rb w (tOf k l)):=by
 have HSTOP:=Z9 (fun W=>zgs rb W)
 cases l with
 |nil =>
  obtain⟨a,cap,hb⟩:=h.nil;have h0:=hb.cell;have HR:=Z9 h;have Z7:=h.lt;clear hb h;go_enter Tryz.func133,Tryz.ntmps133;go_wp2_with fail;refine(HSTOP.out _).mono ?_;rintro e u ⟨rfl,rfl⟩;exact⟨rfl,rfl,HR.out.below (zaf _ _),World.grownBy_alloc _ _ _⟩
 |cons t l =>
  obtain⟨g,o,cap,hb,hc,hm,Z1,hg,ZT,_⟩:=h.head;have h0:=hb.cell;obtain⟨c0,_,_,_,_⟩:=zeu Z1;have hl:(0:Int)<((l.length+1:Nat):Int):=by omega
  have hl0:0<l.length+1:=by omega
  have HTK:=Z9 (fun W (hW:RAt rb W (t :: l))=>zbl rb W t l hW);have HR:=Z9 h;have Z7:=h.lt
  have hR:tOf k (t :: l)=if (t.kind == k)=true then .ok t l else .no (t :: l):=by
   show(if t.kind=k then _ else _)=_
   by_cases e:t.kind=k
   ·rw[if_pos e,if_pos (by simp[e])]
   ·rw[if_neg e,if_neg (by simp[e])]
  rw[hR];obtain⟨n,hn⟩:∃n,n=l.length+1:=⟨_,rfl⟩
  rw[←hn]at h0 hl hl0 hc;clear hb h Z1 hn hR;obtain⟨b1,ZL⟩:∃b,(t.kind == k)=b:=⟨_,rfl⟩
  have ZS:(t.kind != k) = !b1:=by rw[←ZL];rfl
  rw[ZL]
  cases b1
  ·go_enter Tryz.func133,Tryz.ntmps133
   go_wp2_with fail;refine(HSTOP.out _).mono ?_;rintro e u ⟨rfl,rfl⟩;exact⟨rfl,rfl,HR.out.below (zaf _ _),World.grownBy_alloc _ _ _⟩
  ·go_enter Tryz.func133,Tryz.ntmps133
   go_wp2_with fail;refine(HTK.out _ (HR.out.below (zaf _ _))).mono ?_;rintro e u ⟨v,rfl,rfl,hr,Yl⟩;have hz:=zre Yl Z7;have Vh:w.heap.size<u.heap.size:=(Z8 hz);obtain⟨z0,z1,z2,z3,z4⟩:=zae hz;have Wf:∀i,u.frozen? ⟨w.heap.size,i,none⟩=false:=Lib.frozen_of_heap hz
   have Zw:=zae (za2 hz (.int .u8 t.kind) (.string t.text) (.string t.rat) (.int .i64 t.date) (.int .i64 t.place));have HF:=Z9 Zw;have HG:=Z9 (And.intro hr Yl);have HL:=Z9 Z7;clear hr Yl hz c0 h0 Z7 Zw;go_wp2_with fail;obtain⟨y0,y1,y2,y3,y4⟩:=HF.out;refine bodyPost_ret (v:=.agg #[.int .u8 t.kind,.string t.text,.string t.rat,.int .i64 t.date,.int .i64 t.place]) (by simp only[results,Tryz.results133];simp[go_sem,y0,y1,y2,y3,y4]) rfl ⟨_,rfl,rfl,?_,?_⟩
   ·exact((((HG.out.1.setNew HL.out _ _).setNew HL.out _ _).setNew HL.out _ _).setNew HL.out _ _).setNew HL.out _ _
   ·exact zaq (zaq (zaq (zaq (zaq (Lib.grownBy_trans (World.grownBy_alloc _ _ _) HG.out.2) (Nat.le_refl _) _ _) (Nat.le_refl _) _ _) (Nat.le_refl _) _ _) (Nat.le_refl _) _ _) (Nat.le_refl _) _ _
theorem zz1(a b c d e:Value)(w:World):(Instr.field 100 (.agg #[a,b,c,d,e]) 1).run Tryz.prog w=.ok b w:=by kernel_rfl
theorem zwy(a b c d e:Value)(w:World):(Instr.field 100 (.agg #[a,b,c,d,e]) 2).run Tryz.prog w=.ok c w:=by kernel_rfl
theorem zlu(a b c d e:Value)(w:World):(Instr.field 100 (.agg #[a,b,c,d,e]) 3).run Tryz.prog w=.ok d w:=by kernel_rfl
def zfi:List Tk→ByteArray
 | []=>tE0
 |t :: _=>if t.kind=1∧kwB t.text.data.toList=true then t.text else tE0
theorem zgi(l:List Tk):(zfi l).data.toList=zar l:=by
 cases l with
 |nil=>rfl
 |cons t r =>
  show(if _ then _ else _:ByteArray).data.toList=if _ then _ else _
  by_cases h:t.kind=1∧kwB t.text.data.toList=true
  ·rw[if_pos h,if_pos h]
  ·rw[if_neg h,if_neg h];rfl
def StrP(w:World)(s:ByteArray)(e:Ending)(w':World):Prop:=e=.returned (.string s)∧Below w.heap.size w w'
theorem zbs(rb:Nat)(w:World)(l:List Tk)(h:RAt rb w l) :
 Calls Tryz.prog 62 #[.pointer (some ⟨rb,0,none⟩)] w (StrP w (zfi l)):=by
 cases l with
 |nil =>
  obtain⟨a,cap,hb⟩:=h.nil;have h0:=hb.cell;have Z7:=h.lt;clear hb h;go_enter Tryz.func62,Tryz.ntmps62;go_wp2_with fail;go_ret;exact⟨rfl,Below.refl _ _⟩
 |cons t l =>
  obtain⟨g,o,cap,hb,hc,hm,Z1,hg,ZT,_⟩:=h.head;have h0:=hb.cell;obtain⟨c0,c1,_,_,_⟩:=zeu Z1;have hl:(0:Int)<((l.length+1:Nat):Int):=by omega
  have hl0:0<l.length+1:=by omega
  have HK:=Z9 (fun W=>zhv t.text W);have HR:=Z9 h;have Z7:=h.lt
  have hR:zfi (t :: l)=if ((t.kind == 1) && kwB t.text.data.toList)=true then t.text else tE0:=by
   show(if t.kind=1∧kwB t.text.data.toList=true then _ else _)=_
   by_cases e:t.kind=1
   ·cases hk:kwB t.text.data.toList<;>simp[e]
   ·simp[e]
  rw[hR];obtain⟨n,hn⟩:∃n,n=l.length+1:=⟨_,rfl⟩
  rw[←hn]at h0 hl hl0 hc;clear hb h Z1 hn hR;obtain⟨b1,ZL⟩:∃b,(t.kind == 1)=b:=⟨_,rfl⟩
  obtain⟨b2,ZS⟩:∃b,kwB t.text.data.toList=b:=⟨_,rfl⟩
  rw[ZL,ZS];rw[ZS]at HK;clear ZS
  cases b1
  ·go_enter Tryz.func62,Tryz.ntmps62
   go_wp2_with fail;go_ret;exact⟨rfl,Below.refl _ _⟩
  ·cases b2
   ·go_enter Tryz.func62,Tryz.ntmps62
    go_wp2_with fail;refine(HK.out _).mono ?_;rintro e u ⟨rfl,hb⟩;have HB:=Z9 hb;clear hb;go_wp2_with fail;go_ret;exact⟨rfl,HB.out⟩
   ·go_enter Tryz.func62,Tryz.ntmps62
    go_wp2_with fail;refine(HK.out _).mono ?_;rintro e u ⟨rfl,hb⟩;have h0u:=((zfx hb).1 rb 0 Z7).trans h0;have c1u:=((zfx hb).1 g (o+1) hg).trans c1;have HB:=Z9 hb;clear hb h0 c0 c1;go_wp2_with fail;go_ret;exact⟨rfl,HB.out⟩
theorem zie(rb g2:Nat)(k:Int)(s:ByteArray)(w:World)(l:List Tk)(h:RAt rb w l)(hs:w.cell? ⟨g2,0,none⟩=some (.string s)) :
 Calls Tryz.prog 132 #[.pointer (some ⟨rb,0,none⟩),.int .u8 k,.slice (some ⟨g2,0,none⟩) 1 1] w (zbk z43 rb w (tEat k s.data.toList l)):=by
 have HIS:=Z9 (fun W (hW:RAt rb W l)=>zjf rb k s W l hW);have HSTOP:=Z9 (fun W=>zgs rb W);have HR:=Z9 h;clear h;unfold tEat
 cases ht:tIs k s.data.toList l
 ·rw[ht]at HIS
  clear ht;go_enter Tryz.func132,Tryz.ntmps132;go_wp2_with fail;refine wp_loop_rounds 2 ?_;rw[rounds_succ];go_wp2_with fail;refine(HIS.out _ HR.out).mono ?_;rintro e u ⟨rfl,hb⟩;have HB:=Z9 hb;clear hb;go_wp2_with fail;refine(HSTOP.out _).mono ?_;rintro e u2 ⟨rfl,rfl⟩;exact⟨rfl,rfl,HR.out.below HB.out,zan (zah HB.out)⟩
 ·obtain⟨t,r,rfl⟩:=zb2 ht
  rw[ht]at HIS;have HTK:=Z9 (fun W (hW:RAt rb W (t :: r))=>zbl rb W t r hW);clear ht;go_enter Tryz.func132,Tryz.ntmps132;go_wp2_with fail;refine wp_loop_rounds 2 ?_;rw[rounds_succ];go_wp2_with fail;refine(HIS.out _ HR.out).mono ?_;rintro e u ⟨rfl,hb⟩;have HB:=Z9 hb;clear hb;go_wp2_with fail;refine(HTK.out _ (HR.out.below HB.out)).mono ?_;rintro e u2 ⟨v,rfl,rfl,hr,hg⟩;have HG:=Z9 (And.intro hr (Lib.grownBy_trans (zan (zah HB.out)) hg));clear hr hg;go_wp2_with fail;rw[rounds_succ];go_wp2_with fail;go_end0;exact⟨_,rfl,rfl,HG.out.1,HG.out.2⟩
theorem zv7(rb:Nat)(w:World)(l:List Tk)(h:RAt rb w l) :
 Calls Tryz.prog 131 #[.pointer (some ⟨rb,0,none⟩)] w (zbk VStr rb w (zgf l)):=by
 have HSTOP:=Z9 (fun W=>zgs rb W);have hfld:=zz1;have HHD:=Z9 (fun W (hW:RAt rb W l)=>zbs rb W l hW);have HR:=Z9 h;have Z7:=h.lt
 cases l with
 |nil =>
  obtain⟨a,cap,hb⟩:=h.nil;have h0:=hb.cell;clear hb h;go_enter Tryz.func131,Tryz.ntmps131;go_wp2_with fail;refine(HSTOP.out _).mono ?_;rintro e u ⟨rfl,rfl⟩;exact⟨rfl,rfl,HR.out,World.grownBy.refl _ _⟩
 |cons t l =>
  obtain⟨g,o,cap,hb,hc,hm,Z1,hg,ZT,_⟩:=h.head;have h0:=hb.cell;obtain⟨c0,_,_,_,_⟩:=zeu Z1;have hl:(0:Int)<((l.length+1:Nat):Int):=by omega
  have hl0:0<l.length+1:=by omega
  have HTK:=Z9 (fun W (hW:RAt rb W (t :: l))=>zbl rb W t l hW);obtain⟨S,hS⟩:∃S,S=zfi (t :: l):=⟨_,rfl⟩
  rw[←hS]at HHD;obtain⟨n,hn⟩:∃n,n=l.length+1:=⟨_,rfl⟩
  rw[←hn]at h0 hl hl0 hc;have hn0:((n:Int) == 0)=false:=by simp;omega
  by_cases k2:t.kind=2
  ·have hR:zgf (t :: l)=.ok t.text l:=if_pos (.inl k2)
   have e:S=⟨#[]⟩:=by
    rw[hS];exact if_neg (by rw[k2];rintro⟨a,_⟩;cases a)
   rw[hR];rw[e]at HHD;have d2:(t.kind == 2)=true:=by simp[k2]
   have d2':(t.kind != 2)=false:=by simp[k2]
   clear hb h Z1 hn hR hS e k2;go_enter Tryz.func131,Tryz.ntmps131;go_wp2_with fail;refine(HHD.out _ HR.out).mono ?_;rintro e u ⟨rfl,hb⟩;have HB:=Z9 hb;clear hb h0 c0;go_wp2_with fail;refine(HTK.out _ (HR.out.below HB.out)).mono ?_;rintro e u2 ⟨v,rfl,rfl,hr,hg⟩;have HG:=Z9 (And.intro hr (Lib.grownBy_trans (zan (zah HB.out)) hg));clear hr hg;go_wp2_with fail;go_ret;exact⟨_,rfl,rfl,HG.out.1,HG.out.2⟩
  ·by_cases k1:t.kind=1
   ·have d2:(t.kind == 2)=false:=by simp[k2]
    have d2':(t.kind != 2)=true:=by simp[k2]
    have d1:(t.kind == 1)=true:=by simp[k1]
    have d1':(t.kind != 1)=false:=by simp[k1]
    cases hk:kwB t.text.data.toList
    ·have hR:zgf (t :: l)=.ok t.text l:=if_pos (.inr ⟨k1,hk⟩)
     have e:S=⟨#[]⟩:=by
      rw[hS];exact if_neg (by rw[hk];rintro⟨_,a⟩;cases a)
     rw[hR];rw[e]at HHD;clear hb h Z1 hn hR hS e k2 k1 hk;go_enter Tryz.func131,Tryz.ntmps131;go_wp2_with fail;refine(HHD.out _ HR.out).mono ?_;rintro e u ⟨rfl,hb⟩;have HB:=Z9 hb;clear hb h0 c0;go_wp2_with fail;refine(HTK.out _ (HR.out.below HB.out)).mono ?_;rintro e u2 ⟨v,rfl,rfl,hr,hg⟩;have HG:=Z9 (And.intro hr (Lib.grownBy_trans (zan (zah HB.out)) hg));clear hr hg;go_wp2_with fail;go_ret;exact⟨_,rfl,rfl,HG.out.1,HG.out.2⟩
    ·have hR:zgf (t :: l)=.no (t :: l):=if_neg (by
      rintro(a |⟨_,a⟩)
      ·exact k2 a
      ·rw[hk]at a;cases a)
     have e:S=t.text:=by
      rw[hS];exact if_pos ⟨k1,hk⟩
     have ZT:t.text.data.toList≠[]:=fun a=>by rw[a]at hk;exact absurd hk (by decide)
     rw[hR];rw[e]at HHD;obtain⟨S2,TG⟩:∃S2,S2=t.text:=⟨_,rfl⟩
     rw[←TG]at HHD ZT
     have YT:(S2.toList == [])=false:=by
      rw[zac]
      cases hq:S2.data.toList with
      |nil=>exact absurd hq ZT
      |cons a b=>rfl
     clear hb h Z1 hn hR hS e k2 k1 hk TG ZT;go_enter Tryz.func131,Tryz.ntmps131;go_wp2_with fail;refine(HHD.out _ HR.out).mono ?_;rintro e u ⟨rfl,hb⟩;have HB:=Z9 hb;clear hb h0 c0;go_wp2_with fail;refine(HSTOP.out _).mono ?_;rintro e u2 ⟨rfl,rfl⟩;exact⟨rfl,rfl,HR.out.below HB.out,zan (zah HB.out)⟩
   ·have hR:zgf (t :: l)=.no (t :: l):=if_neg (by
     rintro(a |⟨a,_⟩)
     ·exact k2 a
     ·exact k1 a)
    have d2:(t.kind == 2)=false:=by simp[k2]
    have d2':(t.kind != 2)=true:=by simp[k2]
    have d1:(t.kind == 1)=false:=by simp[k1]
    have d1':(t.kind != 1)=true:=by simp[k1]
    rw[hR];clear hb h Z1 hn hR hS HHD;go_enter Tryz.func131,Tryz.ntmps131;go_wp2_with fail;refine(HSTOP.out _).mono ?_;rintro e u2 ⟨rfl,rfl⟩;exact⟨rfl,rfl,HR.out,World.grownBy.refl _ _⟩
theorem Rd.Cons.lt{α:Type}{r:Rd α}{l l':List Tk}{a:α}(h:r.Cons l)(e:r=.ok a l'):l'.length<l.length:=by subst e;exact h.2
def za9(S T:RdX)(b:Bool):RdX:=if b=true then S else T
theorem zcn{α β:Type}{r:Rd α}{g:α→List Tk→Rd β}{b:β}{l':List Tk}(h:r.bind g=.ok b l'):∃a l1,r=.ok a l1∧g a l1=.ok b l':=by
 cases r with
 |ok a l=>exact⟨a,l,rfl,h⟩
 |no l=>cases h
theorem ExOn.up{S:Nat→Prop}{w:World}:∀{n m:Nat}{cs:List Value}{x:Ex},n≤m→ExOn S n w cs x→ExOn S m w cs x
 |0,_,_,_,_,h=>h.elim
 |_+1,0,_,_,hm,_=>absurd hm (by omega)
 |n+1,m+1,_,_,hm,⟨a,len,cap,h1,h2,h3⟩=>⟨a,len,cap,h1,h2,h3.imp id fun⟨g,ha,hg,hi⟩=>⟨g,ha,hg,fun i h=>by
  obtain⟨cs',hc,hx⟩:=hi i h
  exact⟨cs',hc,ExOn.up (by omega) hx⟩⟩⟩
theorem TwR.up{n m B:Nat}{l:List Ex}{k:Nat}{v:Value}{xs:List Value}{w:World}(h:TwR n B l k v xs w)(hm:n≤m):TwR m B l k v xs w:=by
 obtain⟨css,h0,h1,h2,h3,h4⟩:=h;exact⟨css,h0,h1,h2,h3,fun i hi Xy=>(h4 i hi Xy).up hm⟩
theorem TwR.more{n B:Nat}{l m:List Ex}{k:Nat}{v:Value}{xs:List Value}{w:World}(h:TwR n B l k v xs w)(hl:l.length=k):TwR n B (l ++ m) k v xs w:=by
 obtain⟨css,h0,h1,h2,h3,h4⟩:=h;refine⟨css,h0,h1,h2,h3,fun i hi Xy => ?_⟩;have h5:i<l.length:=by omega
 rw[List.getElem_append_left h5];exact h4 i hi h5
theorem RAt.grown{rb:Nat}{w w':World}{l:List Tk}{row:Option Nat}(h:RAt rb w l)(hg:w.grownBy w' row)(hr:∀k,row=some k→rb<k):RAt rb w' l:=by
 obtain⟨a,cap,hx,hc,hm,ht⟩:=h;refine⟨a,cap,hx.kept hg (fun e=>by have:=hr _ e.symm;omega),hc,hm,ht.imp id fun⟨g,o,ha,ZT,Z7,Z1⟩=>⟨g,o,ha,ZT,Nat.lt_of_lt_of_le Z7 hg.size,fun j hj k hk => ?_⟩⟩;exact(World.cell?_of_block (w:=w) (w':=w') (a:=⟨g,o+j*5+k,none⟩) (hg.block g Z7 (fun e=>by have:=hr _ e.symm;omega))).trans (Z1 j hj k hk)
theorem zy0{rb:Nat}{w w':World}{l l':List Tk}(h:RAt rb w l)(h':RAt rb w' l')(hg:w.grownBy w' (some rb)):∃v,Below w.heap.size (w.setCell ⟨rb,0,none⟩ v) w':=by
 obtain⟨a,cap,hx,_⟩:=h;obtain⟨a',cap',hx',_⟩:=h';refine⟨.slice a' l'.length cap',hg.os,hg.tape,hg.output,by simpa[World.setCell]using hg.size,fun k hk => ?_⟩
 by_cases W7:k=rb
 ·subst W7
  exact Eq.trans hx' (Boxed.set (.slice a' l'.length cap') hx).symm
 ·rw[Below.heap_setCell _ _ _ _ (by show k≠rb;exact W7)]
  exact hg.block k hk (fun e=>W7 (by injection e))
def remR(ps:List RdX)(ys:List Ex)(c:Bool)(l:List Tk):Rd (List Ex):=(zfc ps c l).bind fun zs l=>.ok (ys ++ zs) l
theorem zqu(ys:List Ex)(c:Bool)(l:List Tk):remR [] ys c l=.ok ys l:=by
 show Rd.ok (ys ++ []) l=_
 rw[List.append_nil]
theorem zhg(p:RdX)(ps:List RdX)(ys:List Ex)(l:List Tk):remR (p :: ps) ys false l=(p l).bind fun x l2=>remR ps (ys ++ [x]) true l2:=by
 unfold remR
 show(((p l).bind fun x l=>(zfc ps true l).bind fun xs l=>.ok (x :: xs) l).bind _)=_
 rw[Rd.bind_assoc]
 congr 1
 funext x l2
 rw[Rd.bind_assoc]
 congr 1
 funext xs l3
 show Rd.ok (ys ++ (x :: xs)) l3=Rd.ok (ys ++ [x] ++ xs) l3
 rw[List.append_assoc];rfl
theorem zms(p:RdX)(ps:List RdX)(ys:List Ex)(l:List Tk):remR (p :: ps) ys true l=(tEat 5 [44] l).bind fun _ l1=>(p l1).bind fun x l2=>remR ps (ys ++ [x]) true l2:=by
 have h:∀l1,((p l1).bind fun x l=>(zfc ps true l).bind fun xs l=>.ok (x :: xs) l).bind (fun zs l=>.ok (ys ++ zs) l)=(p l1).bind fun x l2=>remR ps (ys ++ [x]) true l2:=fun l1=>zhg p ps ys l1
 unfold remR
 show(((tEat 5 [44] l).bind fun _ l=>(p l).bind fun x l=>(zfc ps true l).bind fun xs l=>.ok (x :: xs) l).bind _)=_
 rw[Rd.bind_assoc]
 congr 1
 funext _ l1
 exact h l1
def LsB(kd:Int)(B:Nat)(v:Value)(w:World):Prop :=
 w.heap[B]?=some (.cells #[.int .u8 0,.string ⟨#[]⟩,.string ⟨#[]⟩,.int .i64 0,.slice none 0 0] 25) ∧
  w.heap[B+1]?=some (.cells #[.int .u8 kd,.string ⟨#[]⟩,.string ⟨#[]⟩,.int .i64 0,v] 25)∧B+2≤w.heap.size
structure LsAt(rb:Nat)(kd:Int)(B:Nat)(w:World)(ys:List Ex)(k:Nat)(v:Value)(xs:List Value)(l:List Tk)(wr:World):Prop where
 blocks:LsB kd B v wr
 len:ys.length=k
 parts:∃m,TwR m (B+2) ys k v xs wr
 rd:RAt rb wr l
 grown:w.grownBy wr (some rb)
theorem LsAt.step{rb B k ga ca la ca2:Nat}{kd:Int}{w w1 u w3:World}{ys:List Ex}{v:Value}{xs:List Value}{l1 l2:List Tk}{y:Ex}{pa:Option Addr}(h:LsAt rb kd B w ys k v xs l1 w1)(hB:B=w.heap.size)(Zi:rb<B)
 (hu:w1.drew.grownBy u (some rb)) (hx:∃m,ExOn (fun g=>w1.drew.heap.size≤g∧g<u.heap.size) m u [.int .u8 y.kind,.string y.rat,.string y.name,.int .i64 y.date,.slice pa la ca2] y) (ru:RAt rb u l2)
 (hg:(u.alloc (.cells #[.int .u8 y.kind,.string y.rat,.string y.name,.int .i64 y.date,.slice pa la ca2] 25)).grownBy w3 v.ownBlock)
 (ZG:w3.ownsRow (B+2) 25 5 (.slice (some ⟨ga,0,none⟩) (k+1) ca) (k+1) (xs ++ [.int .u8 y.kind,.string y.rat,.string y.name,.int .i64 y.date,.slice pa la ca2]))
 (ZB:v.ownBlock=some ga∨ga=(u.alloc (.cells #[.int .u8 y.kind,.string y.rat,.string y.name,.int .i64 y.date,.slice pa la ca2] 25)).heap.size) :
 LsAt rb kd B w (ys ++ [y]) (k+1) (.slice (some ⟨ga,0,none⟩) (k+1) ca) (xs ++ [.int .u8 y.kind,.string y.rat,.string y.name,.int .i64 y.date,.slice pa la ca2]) l2 (w3.setCell ⟨B+1,4,none⟩ (.slice (some ⟨ga,0,none⟩) (k+1) ca)):=by
 obtain⟨u2,XF⟩:∃u2,u2=u.alloc (.cells #[.int .u8 y.kind,.string y.rat,.string y.name,.int .i64 y.date,.slice pa la ca2] 25):=⟨_,rfl⟩
 rw[←XF]at hg ZB;obtain⟨m,Vz⟩:=h.parts;obtain⟨m2,hx⟩:=hx;obtain⟨h0,h1,hz⟩:=h.blocks;have hu':w1.grownBy u (some rb):=⟨hu.os,hu.tape,hu.output,hu.size,hu.block⟩;obtain⟨q,ZR⟩:=zy0 h.rd ru hu';have Zo:(w1.setCell ⟨rb,0,none⟩ q).heap.size=w1.heap.size:=by simp[World.setCell]
 have ZS:Below (w1.setCell ⟨rb,0,none⟩ q).heap.size (w1.setCell ⟨rb,0,none⟩ q) u2:=by
  rw[Zo,XF];exact ZR.alloc hu'.size _
 have hzu:u.heap.size≤u2.heap.size:=by rw[XF];simp
 have hvb:∀g,v.ownBlock=some g→B+2≤g:=fun g e=>(Vz.owns.lt g e).1
 have huu:w1.grownBy u2 (some rb):=by rw[XF];exact Lib.grownBy_allocR hu' _
 have keep:∀q,q<B+2→q≠rb→w3.heap[q]?=w1.heap[q]?:=fun q hq ZT=>by
  rw[hg.block q (Nat.lt_of_lt_of_le (by omega) huu.size) (fun e=>by have:=hvb q e.symm;omega),huu.block q (by omega) (fun e=>ZT (by injection e))]
 have Yp:ExOn (fun g=>(w1.setCell ⟨rb,0,none⟩ q).heap.size≤g∧g<u2.heap.size) (max m m2) u2 [.int .u8 y.kind,.string y.rat,.string y.name,.int .i64 y.date,.slice pa la ca2] y :=
  ((hx.keep (w':=u2) fun g ⟨_,g2⟩=>by rw[XF];exact Below.heap_alloc u _ g g2).mono fun g ⟨g1,g2⟩=>⟨by rw[Zo];exact g1,by omega⟩).up (by omega)
 have hs:=(((Vz.up (m:=max m m2) (by omega)).more (m:=[y]) h.len).set (p:=⟨rb,0,none⟩) (by show rb<B+2;omega) q).snoc (by simp[h.len]) (y:=y) (by
  have:=h.len
  simp[List.getElem_append_right,h.len]) (by rw[Zo];exact hz) ZS Yp hg (v':=.slice (some ⟨ga,0,none⟩) (k+1) ca) (by
  rcases ZB with e |e
  ·exact .inl e.symm
  ·right;rw[e];rfl) ZG
 have Ve:∀row:Nat,row=B+1→rb<row:=fun row e=>by omega
 refine⟨⟨?_,?_,?_⟩,by simp[h.len],⟨_,hs.set (p:=⟨B+1,4,none⟩) (by show B+1<B+2;omega) _⟩,?_,?_⟩
 ·rw[Below.heap_setCell _ _ _ _ (by show B≠B+1;omega),keep _ (by omega) (by omega)];exact h0
 ·have:=(keep (B+1) (by omega) (by omega)).trans h1
  simp[World.setCell,Array.getElem?_modify,this]
 ·have:=hg.size;have:=huu.size
  simp[World.setCell];omega
 ·refine RAt.setNew (RAt.grown ?_ hg (fun g e=>by have:=hvb g e;omega)) (by omega) _ _
  rw[XF];exact ru.below (zaf u _)
 ·refine zaq ?_ (by omega) _ _
  have hwu:w.grownBy u2 (some rb):=Lib.grownBy_trans h.grown huu
  exact⟨hg.os.trans hwu.os,hg.tape.trans hwu.tape,hg.output.trans hwu.output,Nat.le_trans hwu.size hg.size,fun j hj ZT=>by
   rw[hg.block j (Nat.lt_of_lt_of_le hj hwu.size) (fun e=>by have:=hvb j e.symm;omega)]
   exact hwu.block j hj ZT⟩
theorem LsAt.same{rb B k:Nat}{kd:Int}{w w1 u:World}{ys:List Ex}{v:Value}{xs:List Value}{l1 l2:List Tk}(h:LsAt rb kd B w ys k v xs l1 w1)(hg:w1.grownBy u (some rb))(hr:RAt rb u l2)(Zi:rb<B):LsAt rb kd B w ys k v xs l2 u:=by
 obtain⟨m,Vz⟩:=h.parts;obtain⟨h0,h1,hz⟩:=h.blocks;obtain⟨css,a0,a1,a2,a3,a4⟩:=Vz;refine⟨⟨?_,?_,Nat.le_trans hz hg.size⟩,h.len,⟨m,css,a0,a1,a2,?_,fun i hi Xy => ?_⟩,hr,Lib.grownBy_trans h.grown hg⟩
 ·exact(hg.block _ (Z8 h0) (fun e=>by injection e with e;omega)).trans h0
 ·exact(hg.block _ (Z8 h1) (fun e=>by injection e with e;omega)).trans h1
 ·exact a3.kept hg (by
   cases hv:v.ownBlock with
   |none=>exact .inl rfl
   |some q=>exact .inr (fun e=>by injection e with e;have:=(a3.lt q hv).1;omega))
 ·exact((a4 i hi Xy).keep (w':=u) fun g ⟨g1,g2,_⟩=>hg.block g g2 (fun e=>by injection e with e;omega)).mono fun g ⟨g1,g2,g3⟩=>⟨g1,Nat.lt_of_lt_of_le g2 hg.size,g3⟩
theorem zf9{w w':World}{row:Option Nat}(h:w.grownBy w' row):w.grownBy w'.drew row:=⟨h.os,h.tape,h.output,h.size,h.block⟩
theorem zkj{w1 u:World}{base rb:Nat}{v:Value}{k:Nat}{xs:List Value}(h:w1.ownsRow (base+2) 25 5 v k xs)(hb:w1.drew.grownBy u (some rb))(Zi:rb<base)(o:Obj):(u.alloc o).ownsRow (base+2) 25 5 v k xs :=
 World.ownsRow.alloc (World.ownsRow.kept (w:=w1) h ⟨hb.os,hb.tape,hb.output,hb.size,hb.block⟩ (row:=some rb) (by
  cases hv:v.ownBlock with
  |none=>exact .inl rfl
  |some q=>exact .inr (fun e=>by injection e with e;have:=(h.lt q hv).1;omega))) o
theorem z57{n rb B lv cv:Nat}{kd:Int}{ys:List Ex}{k:Nat}{xs:List Value}{l:List Tk}{av:Option Addr}{w u:World}(hB:B=w.heap.size)(Zi:rb<B)(h:LsAt rb kd B w ys k (.slice av lv cv) xs l u)
 (hx:ExOn (fun g=>B+2≤g∧g<u.heap.size) (n+1) u [.int .u8 kd,.string tE0,.string tE0,.int .i64 0,.slice av lv cv] (.mk kd tE0 tE0 0 ys)) :
 ∃W',W'=((((u.setCell ⟨B,0,none⟩ (.int .u8 kd)).setCell ⟨B,1,none⟩ (.string ⟨#[]⟩)).setCell ⟨B,2,none⟩ (.string ⟨#[]⟩)).setCell ⟨B,3,none⟩ (.int .i64 0)).setCell ⟨B,4,none⟩ (.slice av lv cv) ∧
  ExOn (fun g=>w.heap.size≤g∧g<W'.heap.size) (n+1) W' [.int .u8 kd,.string tE0,.string tE0,.int .i64 0,.slice av lv cv] (.mk kd tE0 tE0 0 ys) ∧
  W'.heap[B]?=some (.cells #[.int .u8 kd,.string ⟨#[]⟩,.string ⟨#[]⟩,.int .i64 0,.slice av lv cv] 25)∧RAt rb W' l∧w.grownBy W' (some rb):=by
 refine⟨_,rfl,?_,?_,?_,?_⟩
 ·refine(hx.keep fun g ⟨g1,_⟩ => ?_).mono fun g ⟨g1,g2⟩=>⟨by omega,by simpa[World.setCell]using g2⟩
  rw[Below.heap_setCell _ _ _ _ (by show g≠B;omega),Below.heap_setCell _ _ _ _ (by show g≠B;omega),Below.heap_setCell _ _ _ _ (by show g≠B;omega),Below.heap_setCell _ _ _ _ (by show g≠B;omega),Below.heap_setCell _ _ _ _ (by show g≠B;omega)]
 ·exact za2 h.blocks.1 _ _ _ _ _
 ·exact((((h.rd.setNew Zi _ _).setNew Zi _ _).setNew Zi _ _).setNew Zi _ _).setNew Zi _ _
 ·exact zaq (zaq (zaq (zaq (zaq h.grown (by omega) _ _) (by omega) _ _) (by omega) _ _) (by omega) _ _) (by omega) _ _
end Go.Proofs.YtkobkpepgdddeaaGreatDoor
