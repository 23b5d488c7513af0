/-
  A node that is well-formed: the program's node. No condition but the size. A range over a function that yields one value after another: a law of its own, out of the kit's law of the statement. No condition. The nodes of a contract, one after another: visit, nodes. No condition but the size. The nodes of a contract as an iterator: nodes. No condition but the size. The program's Size of a contract. No condition but the size. The nodes of a contract: what holds of the whole holds of each. No program. The program's Check of a contract. No condition but CtIn. PrintExpr of the program and of the reference: they answer alike. No condition but the size. Print of the program and of the reference: they answer alike. No condition but the size. The reference's Twin of a contract, walked: the whole. No condition but the size. The law PrinterPrints, walked. No condition.
-/
import Derived.Test.YtijkefflpojmhaaGreatDoorZar
import Derived.Test.YtijkefflpojmhaaGreatDoorZas
import Derived.Test.YtijkefflpojmhaaGreatDoorZat
import Derived.Test.YtijkefflpojmhaaGreatDoorZau
import Derived.Test.YtijkefflpojmhaaGreatDoorZav
import Derived.Test.YtijkefflpojmhaaGreatDoorZam
import Derived.RangeFuncNested
import Derived.RangeFuncBound
import Derived.RangeFuncCalls
import Derived.RangeFuncLeaves
import Derived.RangeFuncBox
import Derived.Shelf.Abstract
import Derived.WalkKit
import Derived.OwnWalkIn
import Derived.TacticsInMore
import Derived.LoopNIn
import Derived.LoopIn
import Derived.Outline
import Derived.RegionIn
import Derived.Stop.RegionWithIn
import Derived.Test.YtijkefflpojmhaaGreatDoorZaq
import Derived.Test.YtijkefflpojmhaaGreatDoorZal
import Derived.Test.YtijkefflpojmhaaGreatDoorZap
namespace Go.Proofs.YtijkefflpojmhaaGreatDoor
open Go.RowKit
theorem pnode_any {Wg:World} (hpt:PtsAt Wg) (n:Nat) (x:Ct) (cs:List Value) (w:World) (h:CtIn n x cs w Wg):Calls Tryz.prog 23 #[.agg cs.toArray] w (BelB w (nodeX x)):=by
 by_cases h1:x.kind=1 ∨ x.kind=2 ∨ x.kind=3
 ·exact pnode_s1 hpt n x cs w h h1
 by_cases h2:x.kind=4 ∨ x.kind=5
 ·exact pnode_s2 hpt n x cs w h h2
 by_cases h3:x.kind=6 ∨ x.kind=7
 ·exact pnode_s3 hpt n x cs w h h3
 by_cases h4:x.kind=8 ∨ x.kind=9 ∨ x.kind=10
 ·exact pnode_s4 hpt n x cs w h h4
 refine pnode_none hpt n x cs w h ?_
 unfold ptsL
 rw [if_neg (by omega),if_neg (by omega),if_neg (by omega),if_neg (by omega),if_neg (by omega),if_neg (by omega),if_neg (by omega),if_neg (by omega),if_neg (by omega),if_neg (by omega)]
end Go.Proofs.YtijkefflpojmhaaGreatDoor

namespace Go.Proofs.YtijkefflpojmhaaGreatDoor
open Go.RowKit Go.Shelf
attribute [local go_sem] Oper.semAt_some
def FrmW (B:Nat) (W W2:World):Prop:=W.heap.size≤W2.heap.size ∧ ∀ q,B≤q→q < W.heap.size→W2.heap[q]? = W.heap[q]?
theorem FrmW.trans {B:Nat} {W W1 W2:World} (h1:FrmW B W W1) (h2:FrmW B W1 W2):FrmW B W W2 :=
 ⟨Nat.le_trans h1.1 h2.1,fun q hq hl => (h2.2 q hq (Nat.lt_of_lt_of_le hl h1.1)).trans (h1.2 q hq hl)⟩
theorem FrmW.grown {B:Nat} {W W2:World} (h:W.grownBy W2 none):FrmW B W W2:=⟨h.size,fun q _ hl => h.block q hl (by simp)⟩
theorem FrmW.below {B:Nat} {W W2:World} (h:Below W.heap.size W W2):FrmW B W W2:=⟨h.size,fun q _ hl => h.block q hl⟩
theorem FrmW.set {B:Nat} {W:World} {p:Addr} (hp:p.block < B) (v:Value):FrmW B W (W.setCell p v) :=
 ⟨by simp [World.setCell],fun q hq _ => Below.heap_setCell _ _ _ _ (by omega)⟩
def StaysN (J:Nat→World→Prop):Prop := ∀ s W W',J s W→W.grownBy W' none→J s W'
theorem keeps_noneN {W W2:World} (h:W.grownBy W2 none) {k:Nat} {o:Obj} (hk:W.heap[k]? = some o):W2.heap[k]? = some o :=
 (h.block k (Array.getElem?_eq_some_iff.1 hk).1 (by simp)).trans hk
theorem roundIn_wide {n m:Nat} {P:Program} {l:Nat} {f:FuncId} {tmps:Array Value} {assign body:Code} {w:World} {R:Ending→World→Prop}
  (h:RoundIn Fence.wide n P l f tmps assign body w R):RoundIn Fence.wide m P l f tmps assign body w R :=
 ⟨h.1,fun c cs _ => h.2 c cs (room_wide _)⟩
theorem yieldAt_wide {n m:Nat} {P:Program} {l:Nat} {args:Array Value} {w:World} {R:Ending→World→Prop} (h:YieldAt Fence.wide n P l args w R):YieldAt Fence.wide m P l args w R:=by
 obtain ⟨fn,tmps,assign,body,hy,hr⟩:=h
 exact ⟨fn,tmps,assign,body,hy,roundIn_wide hr⟩
def SeqNx (P:Program) (n gf:Nat) (lb:Array Value) (Arg:Nat→Value→Prop) (N:Nat) (E:Nat→World→Prop) (B:Nat):Prop :=
 ∀ (l:Nat) (J:Nat→World→Prop) (Jx:World→Prop) (W:World),StaysN J→(∀ W1 W2,Jx W1→W1.grownBy W2 none→Jx W2)→(∀ s W1,J s W1→E s W1) →
  (∀ s v W1,J s W1→s < N→Arg s v→YieldAt Fence.wide (n - 1) P l #[v] W1 fun e W2 => (e = .returned (.bool true)∧FrmW B W1 W2∧J (s+1) W2) ∨ (e = .returned (.bool false)∧Jx W2)) →
  B≤W.heap.size→J 0 W→CallsIn Fence.wide n P gf (#[.func (.yield l) #[] #[]] ++ lb) W fun e W2 => (∃ v,e = .returned v)∧(J N W2 ∨ Jx W2)
def RoundNx (B s:Nat) (I:Nat→World→Prop) (Ix:World→Prop) (W:World):Exit→Act→World→Prop
 | .normal,_,W2 => FrmW B W W2∧I (s+1) W2
 | .ret,_,W2 => FrmW B W W2∧Ix W2
 | _,_,_ => False
theorem range_nx {P:Program} {n:Nat} {g:Operand} {ps:Array Tmp} {assign body:Code} {Q:Exit→Act→World→Prop} {a:Act} {w:World} (h1:1≤n) {gf:Nat} {lb:Array Value}
  (hg:a.eval g = .func (.func gf) #[] lb) (eg:∀ args w,(callFunc gf args).run P w = .ok (.enter gf args) w) {Arg:Nat→Value→Prop} {N:Nat} {E:Nat→World→Prop}
  (hseq:SeqNx P (n - 1) gf lb Arg N E w.heap.size) (hps:ps.size=1)
  (I:Nat→World→Prop) (Ix:World→Prop) (hI:OwnFrom w.heap.size I) (hIx:OwnFrom w.heap.size (fun (_:Unit) W => Ix W)) (hE:∀ s W,I s W→E s W) (h0:I 0 w) (a₁:Value→Nat→Act) (box:Value→Obj)
  (hassign:∀ (l:Nat) (v:Value) (s:Nat) (W:World) (K:Act→World→Prop),Arg s v→I s W→K (a₁ v W.heap.size) (W.alloc (box v))→assign.wpIn (Fence.wide.inRound l) (n - 1 - 1) P (Exit.then K (fun _ _ _ => False)) { tmps:=(ps.zip #[v]).foldl (fun t (p,v) => t.setIfInBounds p v) a.tmps,defers:=[] } W)
  (hbody:∀ (l s:Nat) (v:Value) (b:Nat) (W:World),I s W→s < N→Arg s v→w.heap.size≤b→W.heap[b]? = some (box v)→body.wpIn (Fence.wide.inRound l) (n - 1 - 1) P (RoundNx w.heap.size s I Ix W) (a₁ v b) W)
  (hdone:∀ (D:Nat) (W:World),w.heap.size≤D→I N W→W.heap[D]? = some (.deferred (some []))→Q .normal { a with defers := { target := .collected D,args := #[] } :: a.defers } W)
  (hstop:∀ (D:Nat) (W:World),w.heap.size≤D→Ix W→W.heap[D]? = some (.deferred (some []))→Code.ret.wpIn Fence.wide n P Q { a with defers := { target := .collected D,args := #[] } :: a.defers } W) :
  (Code.rangeFunc g ps assign body).wpIn Fence.wide n P Q a w:=by
 refine wpIn_rangeFunc fun fn hfn => ?_
 obtain ⟨L,hL⟩:∃ L:LoopState→Option Code→Loop,L=fun st pe => { state:=st,pending:=pe,fn,tmps:=a.tmps,params:=ps,assign,body,defers:=w.heap.size }:=⟨_,rfl⟩
 obtain ⟨V,hV⟩:∃ V,V=(w.alloc (.deferred (some []))).alloc (.loop (L .ready none)):=⟨_,rfl⟩
 have hloop:V.heap[w.heap.size+1]? = some (.loop (L .ready none)):=by
  rw [hV]
  have:=World.alloc_heap_new (w.alloc (.deferred (some []))) (.loop (L .ready none))
  rwa [World.size_alloc] at this
 have hdef:V.heap[w.heap.size]? = some (.deferred (some [])):=by
  rw [hV];exact (Below.heap_alloc _ _ _ (by simp)).trans (World.alloc_heap_new w _)
 have hIV:I 0 V:=by rw [hV];exact hI.alloc _ (hI.alloc _ h0)
 have hVs:w.heap.size≤V.heap.size:=by rw [hV];simp;omega
 refine ⟨w.heap.size+1,[{ target := .collected w.heap.size,args := #[] }],V,{ target := .fn (.func gf) lb,args := #[.func (.yield (w.heap.size+1)) #[] #[]] },V,gf,
  #[.func (.yield (w.heap.size+1)) #[] #[]] ++ lb,V,?_,?_,fun _ _ => trivial,?_,fun _ => h1,?_⟩
 ·rw [hV,hL];exact run_enterLoop_outer _ _ _ _ _
 ·simp only [resolve,hg]
  simp [go_sem]
 ·simp [invoke,go_sem,eg]
 have turn:∀ (W:World) (o o':Obj),W.heap[w.heap.size+1]? = some o→o.isCells=false → ∀ s,I s W→I s (W.putObj (w.heap.size+1) o'):=fun W o o' ho hc s hs => hI.putObj o' hs (by omega) ho hc
 have turnx:∀ (W:World) (o o':Obj),W.heap[w.heap.size+1]? = some o→o.isCells=false→Ix W→Ix (W.putObj (w.heap.size+1) o'):=fun W o o' ho hc hs => hIx.putObj (s:=()) o' hs (by omega) ho hc
 have step:=hseq (w.heap.size+1) (fun s W => I s W∧W.heap[w.heap.size+1]? = some (.loop (L .ready none))∧W.heap[w.heap.size]? = some (.deferred (some [])))
  (fun W => Ix W∧W.heap[w.heap.size+1]? = some (.loop (L .done (some .ret)))∧W.heap[w.heap.size]? = some (.deferred (some []))) V
  (fun s W W2 hs hgr => ⟨hI s W W2 none hs.1 hgr (fun r e => by cases e),keeps_noneN hgr hs.2.1,keeps_noneN hgr hs.2.2⟩)
  (fun W W2 hs hgr => ⟨hIx () W W2 none hs.1 hgr (fun r e => by cases e),keeps_noneN hgr hs.2.1,keeps_noneN hgr hs.2.2⟩)
  (fun s W hs => hE s W hs.1) ?_ hVs ⟨hIV,hloop,hdef⟩
 ·refine step.mono ?_
  rintro e W2 ⟨⟨v,rfl⟩,(⟨hi,hl,hk⟩ | ⟨hi,hl,hk⟩)⟩
  ·have hend:=run_endLoop (P:=P) hl (by rw [hL];simp)
   rw [hL] at hend
   exact ⟨none,_,hend,hdone _ _ (Nat.le_refl _) (turn W2 _ _ hl rfl N hi) ((World.putObj_heap_other (by omega)).trans hk)⟩
  ·have hend:=run_endLoop (P:=P) hl (by rw [hL];simp)
   rw [hL] at hend
   exact ⟨some .ret,_,hend,hstop _ _ (Nat.le_refl _) (turnx W2 _ _ hl rfl hi) ((World.putObj_heap_other (by omega)).trans hk)⟩
 ·rintro s v W ⟨hi,hl,hk⟩ hgo harg
  have hlt:w.heap.size+1 < W.heap.size:=(Array.getElem?_eq_some_iff.1 hl).1
  have hy:=run_yield (P:=P) (args := #[v]) hl (by rw [hL];simp [hps])
  rw [hL] at hy
  obtain ⟨WA,hWA⟩:∃ WA,WA=W.alloc (box v):=⟨_,rfl⟩
  have hAs:WA.heap.size=W.heap.size+1:=by rw [hWA];simp
  have hAo:∀ q,q < W.heap.size→WA.heap[q]? = W.heap[q]? := fun q hq => by rw [hWA];exact Below.heap_alloc _ _ _ hq
  have hlA:WA.heap[w.heap.size+1]? = some (.loop (L .ready none)):=(hAo _ hlt).trans hl
  have hkA:WA.heap[w.heap.size]? = some (.deferred (some [])):=(hAo _ (by omega)).trans hk
  have hbA:WA.heap[W.heap.size]? = some (box v):=by rw [hWA];exact World.alloc_heap_new W (box v)
  have hib:=turn WA _ (.loop { L .ready none with state := .busy }) hlA rfl s (by rw [hWA];exact hI.alloc _ hi)
  have hl2:(WA.putObj (w.heap.size+1) (.loop { L .ready none with state := .busy })).heap[w.heap.size+1]? = some (.loop { L .ready none with state := .busy }):=World.putObj_heap_same (by omega)
  have hk2:(WA.putObj (w.heap.size+1) (.loop { L .ready none with state := .busy })).heap[w.heap.size]? = some (.deferred (some [])):=(World.putObj_heap_other (by omega)).trans hkA
  refine ⟨fn,_,assign,body,hy,roundIn_of_wpIn hfn (hassign _ v s W _ harg hi ⟨_,by rw [← hWA];exact run_beginRound hlA (by rw [hL]),?_⟩)⟩
  refine wpIn_mono (hbody _ s v W.heap.size _ hib hgo harg (by omega) ((World.putObj_heap_other (by omega)).trans hbA)) ?_
  intro e a3 W3 hp
  have shut:∀ (jump:Option Code),FrmW w.heap.size (WA.putObj (w.heap.size+1) (.loop { L .ready none with state := .busy })) W3 →
    W3.heap[w.heap.size+1]? = some (.loop { L .ready none with state := .busy }) ∧
    (Instr.endRound (w.heap.size+1) jump).run P W3 = .ok (.bool jump.isNone) (W3.putObj (w.heap.size+1) (.loop (L (if jump.isNone then .ready else .done) jump))) ∧
    (W3.putObj (w.heap.size+1) (.loop (L (if jump.isNone then .ready else .done) jump))).heap[w.heap.size+1]? = some (.loop (L (if jump.isNone then .ready else .done) jump)) ∧
    (W3.putObj (w.heap.size+1) (.loop (L (if jump.isNone then .ready else .done) jump))).heap[w.heap.size]? = some (.deferred (some [])):=fun jump hkf => by
   have hl3:=(hkf.2 _ (by omega) (Array.getElem?_eq_some_iff.1 hl2).1).trans hl2
   have hd3:=(hkf.2 _ (Nat.le_refl _) (Array.getElem?_eq_some_iff.1 hk2).1).trans hk2
   have he:=run_endRound (P:=P) jump hl3
   refine ⟨hl3,?_,World.putObj_heap_same (Array.getElem?_eq_some_iff.1 hl3).1,(World.putObj_heap_other (by omega)).trans hd3⟩
   rw [hL] at he ⊢
   exact he
  cases e with
  | normal =>
   obtain ⟨hkf,hi2⟩:=hp
   obtain ⟨c1,c2,c3,c4⟩:=shut none hkf
   refine ⟨_,_,c2,.inl ⟨rfl,⟨?_,fun q hq hql => ?_⟩,turn W3 _ _ c1 rfl (s+1) hi2,c3,c4⟩⟩
   ·have h2:=hkf.1
    simp [World.putObj] at h2 ⊢
    omega
   ·by_cases hqe:q=w.heap.size+1
    ·subst hqe;exact c3.trans hl.symm
    ·rw [World.putObj_heap_other hqe,hkf.2 q hq (by simp [World.putObj];omega),World.putObj_heap_other hqe]
     exact hAo q hql
  | ret =>
   obtain ⟨hkf,hi2⟩:=hp
   obtain ⟨c1,c2,c3,c4⟩:=shut (some .ret) hkf
   exact ⟨_,_,c2,.inr ⟨rfl,turnx W3 _ _ c1 rfl hi2,c3,c4⟩⟩
  | exit id => exact hp.elim
  | goto t => exact hp.elim
  | panic c => exact hp.elim
  | outgrown => exact hp.elim
end Go.Proofs.YtijkefflpojmhaaGreatDoor

namespace Go.Proofs.YtijkefflpojmhaaGreatDoor
open Go.RowKit Go.Shelf
attribute [local go_sem] Oper.semAt_some
def pre:Ct→List Ct
 | .mk k f t n e d ds l => .mk k f t n e d ds l :: (l.attach.map fun x => pre x.1).flatten
termination_by x => SizeOf.sizeOf x
decreasing_by
 have:=List.sizeOf_lt_of_mem x.2
 simp only [Ct.mk.sizeOf_spec]
 omega
theorem pre_is (x:Ct):pre x=x :: (x.sub.map pre).flatten:=by
 cases x with
 | mk k f t n e d ds l =>
  rw [pre]
  show _ :: (l.attach.map fun x => pre x.1).flatten=_ :: (l.map pre).flatten
  rw [show (l.attach.map fun x => pre x.1)=l.map pre from List.attach_map_val (l:=l) (f:=pre)]
def preN (l:List Ct) (k:Nat):Nat:=((l.take k).map pre).flatten.length
theorem preN_succ (l:List Ct) (k:Nat) (hk:k < l.length):preN l (k+1)=preN l k+(pre l[k]).length:=by
 unfold preN
 rw [List.take_succ_eq_append_getElem hk,List.map_append,List.flatten_append,List.length_append,List.map_singleton,List.flatten_singleton]
theorem pre_len (x:Ct):(pre x).length=1+preN x.sub x.sub.length:=by
 rw [pre_is,List.length_cons,preN,List.take_length];omega
theorem pre_part (x:Ct) (k i:Nat) (hk:k < x.sub.length) (hi:i < (pre x.sub[k]).length):(pre x)[1+preN x.sub k+i]? = (pre x.sub[k])[i]? := by
 rw [pre_is,show 1+preN x.sub k+i=(preN x.sub k+i)+1 by omega,List.getElem?_cons_succ]
 have e:(x.sub.map pre).flatten=((x.sub.take k).map pre).flatten ++ (pre x.sub[k] ++ ((x.sub.drop (k+1)).map pre).flatten):=by
  rw [← List.flatten_cons,← List.map_cons,← List.drop_eq_getElem_cons hk,← List.flatten_append,← List.map_append,List.take_append_drop]
 rw [e,List.getElem?_append_right (by unfold preN;omega),show preN x.sub k+i - ((x.sub.take k).map pre).flatten.length=i by unfold preN;omega,List.getElem?_append_left hi]
def VisP (B:Nat) (J:Nat→World→Prop) (Jx:World→Prop) (s1:Nat) (W:World) (e:Ending) (W2:World):Prop :=
 (e = .returned (.bool true)∧FrmW B W W2∧J s1 W2) ∨ (e = .returned (.bool false)∧Jx W2)
theorem grown_alloc (W:World) (o:Obj):W.grownBy (W.alloc o) none:=World.grownBy_alloc W o none
set_option maxHeartbeats 4000000 in
set_option maxRecDepth 100000 in
theorem visit_any {we:World} {B l N0:Nat} {J:Nat→World→Prop} {Jx:World→Prop} {T:Nat→Option Ct} (hst:StaysN J) (hE:∀ s W,J s W→Below we.heap.size we W)
  (hY:∀ s y cs W,J s W→T s=some y→CtAt N0 we cs y→YieldAt Fence.wide 0 Tryz.prog l #[.agg cs.toArray] W (VisP B J Jx (s+1) W)) :
  ∀ (n:Nat) (x:Ct) (cs:List Value) (s0:Nat) (W:World),CtAt n we cs x→n≤N0→x.size≤1000→(∀ i y,(pre x)[i]? = some y→T (s0+i)=some y)→B≤W.heap.size→J s0 W →
   Calls Tryz.prog 45 #[.agg cs.toArray,.func (.yield l) #[] #[]] W (VisP B J Jx (s0+(pre x).length) W):=by
 intro n
 induction n with
 | zero => intro x cs s0 W h;exact h.elim
 | succ n ih =>
  intro x cs s0 W h hN hz hT hB hJ
  have hat:=h
  obtain ⟨ea,el,ec,da,dl,dc,a,len,cap,rfl,hex,hds,hlen,hsub⟩:=h
  have hsl:=x.sub_len
  have hlb:len≤1000:=by omega
  obtain ⟨W0,hW0⟩:∃ W0,W0=W.alloc (.cells #[.int .u8 x.kind,.string x.frm,.string x.too,.string x.name,.int .u8 x.expr.kind,.string x.expr.rat,.string x.expr.name,.int .i64 x.expr.date,.slice ea el ec,.int .i64 x.date,.slice da dl dc,.slice a len cap] 29):=⟨_,rfl⟩
  have hgr:W.grownBy W0 none:=by rw [hW0];exact grown_alloc _ _
  have hJ0:J s0 W0:=hst _ _ _ hJ hgr
  have hbx:W0.heap[W.heap.size]? = some (.cells #[.int .u8 x.kind,.string x.frm,.string x.too,.string x.name,.int .u8 x.expr.kind,.string x.expr.rat,.string x.expr.name,.int .i64 x.expr.date,.slice ea el ec,.int .i64 x.date,.slice da dl dc,.slice a len cap] 29):=by rw [hW0];exact World.alloc_heap_new W _
  have hF0:FrmW B W W0:=FrmW.grown hgr
  have hW0s:W0.heap.size=W.heap.size+1:=by rw [hW0];simp
  have hY0:=hY s0 x _ W0 hJ0 (hT 0 x (by rw [pre_is];rfl)) (CtAt.up hN hat)
  have HI:=Lib.hid ih
  have HS:=Lib.hid hsub
  have HLEN:=Lib.hid hlen
  have HZ:=Lib.hid hz
  have HT:=Lib.hid hT
  have HST:=Lib.hid hst
  have HE:=Lib.hid hE
  have HF0:=Lib.hid hF0
  have HW0:=Lib.hid hW0
  have HBX:=Lib.hid hbx
  obtain ⟨fn,tmps,assign,body,hy,hR⟩:=hY0
  have hy':(Instr.yield l #[.agg #[.int .u8 x.kind,.string x.frm,.string x.too,.string x.name,.int .u8 x.expr.kind,.string x.expr.rat,.string x.expr.name,.int .i64 x.expr.date,.slice ea el ec,.int .i64 x.date,.slice da dl dc,.slice a len cap]]).run Tryz.prog W0 = .ok (.round l fn tmps assign body) W0:=hy
  rw [hW0] at hy'
  have hR1:Hid (∀ m,RoundIn Fence.wide m Tryz.prog l fn tmps assign body W0 (VisP B J Jx (s0+1) W0)):=fun m => roundIn_wide hR
  obtain ⟨c0,c1,c2,c3,c4,c5,c6,c7,c8,c9,ca,cb⟩:=ctBox hbx
  clear ih hsub hlen hz hT hst hE hF0 hW0 hbx hex hds hat hy hR hY hJ hJ0 hgr hsl
  show Calls Tryz.prog 45 #[.agg #[.int .u8 x.kind,.string x.frm,.string x.too,.string x.name,.int .u8 x.expr.kind,.string x.expr.rat,.string x.expr.name,.int .i64 x.expr.date,.slice ea el ec,.int .i64 x.date,.slice da dl dc,.slice a len cap],.func (.yield l) #[] #[]] W _
  refine (callsIn_wide (n:=6)).1 ?_
  refine callsIn_of_wp Tryz.func45 rfl trivial ?_ rfl
  simp only [Tryz.ntmps45,List.size_toArray,List.length_cons,List.length_nil,Nat.reduceAdd,Nat.reduceSub,Array.replicate_succ,Array.replicate_zero,List.push_toArray,List.append_toArray,List.nil_append,List.cons_append]
  have hTf:∀ f,Fence.wide.fn f:=fun _ => trivial
  gi_wp2_with fail
  rw [← HW0.out]
  refine (hR1.out _).mono ?_
  rintro ee W1 (⟨rfl,hf1,hJ1⟩ | ⟨rfl,hx1⟩)
  ·have hbx1:W1.heap[W.heap.size]? = some (.cells #[.int .u8 x.kind,.string x.frm,.string x.too,.string x.name,.int .u8 x.expr.kind,.string x.expr.rat,.string x.expr.name,.int .i64 x.expr.date,.slice ea el ec,.int .i64 x.date,.slice da dl dc,.slice a len cap] 29):=(hf1.2 _ hB (by omega)).trans HBX.out
   have hW1s:=hf1.1
   have HBX1:=Lib.hid hbx1
   have HF1:=Lib.hid (HF0.out.trans hf1)
   have HJ1:=Lib.hid hJ1
   clear c0 c1 c2 c3 c4 c5 c6 c7 c8 c9 ca cb hy' hR1 hbx1 hf1 hJ1
   obtain ⟨c0,c1,c2,c3,c4,c5,c6,c7,c8,c9,ca,cb⟩:=ctBox HBX1.out
   gi_wp2_with fail
   gi_loopw [14] (fun iv wr => ∃ k:Nat,k≤len∧iv = .int .i64 (k:Int)∧FrmW B W wr∧W1.heap.size≤wr.heap.size∧J (s0+1+preN x.sub k) wr) (fun iv _ => len - (intOf iv).toNat)
   case atStart => exact ⟨0,Nat.zero_le _,rfl,HF1.out,Nat.le_refl _,HJ1.out⟩
   case round =>
    clear c0 c1 c2 c3 c4 c5 c6 c7 c8 c9 ca cb
    obtain ⟨w2,rfl⟩:∃ w1:World,w1=wr:=⟨_,rfl⟩
    obtain ⟨k,hk,rfl,hf,hsz,hJk⟩:=hrel
    have HBE:=Lib.hid (HE.out _ _ hJk)
    have HF:=Lib.hid hf
    have HJ:=Lib.hid hJk
    clear hf hJk
    by_cases hlt:k < len
    ·have hlt2:k < x.sub.length:=by rw [HLEN.out];exact hlt
     rcases HS.out with h0 | ⟨g,o,ha,hg,hel⟩
     ·omega
     ·subst ha
      obtain ⟨y,hy,eap,elp,ecp,dap,dlp,dcp,ap,lenp,capp,⟨e0,e1,e2,e3,e4,e5,e6,e7,e8,e9,ea_,eb_⟩,hx1⟩:=CtAt.elem hg HBE.out hlt2 hel
      have hym:y ∈ x.sub:=by rw [hy];exact List.getElem_mem _
      have hys:=Ct.sub_size hym
      obtain ⟨w3,hw3⟩:∃ w3,w3=w2.alloc (.cells #[.int .u8 y.kind,.string y.frm,.string y.too,.string y.name,.int .u8 y.expr.kind,.string y.expr.rat,.string y.expr.name,.int .i64 y.expr.date,.slice eap elp ecp,.int .i64 y.date,.slice dap dlp dcp,.slice ap lenp capp] 29):=⟨_,rfl⟩
      have hg3:w2.grownBy w3 none:=by rw [hw3];exact grown_alloc _ _
      have hw3s:w3.heap.size=w2.heap.size+1:=by rw [hw3];simp
      have HC:=Lib.hid (HI.out y _ (s0+1+preN x.sub k) w3 hx1 (by omega) (by have:=HZ.out;omega) (fun i z hz => by
       have hi:i < (pre y).length:=by
        rcases Nat.lt_or_ge i (pre y).length with h | h
        ·exact h
        ·rw [List.getElem?_eq_none h] at hz;cases hz
       have q:=pre_part x k i hlt2 (by rw [← hy];exact hi)
       rw [← hy] at q
       have:=HT.out (1+preN x.sub k+i) z (q.trans hz)
       rwa [← Nat.add_assoc,← Nat.add_assoc] at this) (by omega) (HST.out _ _ _ HJ.out hg3))
      have HPN:=Lib.hid (preN_succ x.sub k hlt2)
      rw [← hy] at HPN
      have HF3:=Lib.hid (HF.out.trans (FrmW.grown hg3))
      have HW3:=Lib.hid hw3
      have hk0:(0:Int)≤(k:Int):=by omega
      have hk1:(k:Int) < (len:Int):=by omega
      clear hx1 hym hys hel hy hg3 hw3
      gi_wp2_with (gi_at_call 45;rw [← HW3.out];refine (callsIn_wide.2 HC.out).mono ?_)
      rintro ee w4 (⟨rfl,hf4,hJ4⟩ | ⟨rfl,hx4⟩)
      ·have hw4s:=hf4.1
       have HF4:=Lib.hid (HF3.out.trans hf4)
       have HJ4:Hid (J (s0+1+preN x.sub (k+1)) w4):=by
        show J _ _
        rw [HPN.out,← Nat.add_assoc];exact hJ4
       clear hf4 hJ4
       gi_wp2_with fail
       go_roundw
       case rel => exact ⟨k+1,hlt,by go_num,HF4.out,by omega,HJ4.out⟩
       case measure => simp [intOf] <;> omega
      ·gi_wp2_with fail
       go_ret
       exact .inr ⟨rfl,hx4⟩
    ·have hke:k=x.sub.length:=by rw [HLEN.out];omega
     have HJE:Hid (J (s0+(pre x).length) w2):=by
      show J _ _
      rw [pre_len,← Nat.add_assoc,← hke];exact HJ.out
     clear hke HJ
     gi_wp2_with fail
     go_ret
     exact .inl ⟨rfl,HF.out,HJE.out⟩
  ·gi_wp2_with fail
   go_ret
   exact .inr ⟨rfl,hx1⟩
end Go.Proofs.YtijkefflpojmhaaGreatDoor

namespace Go.Proofs.YtijkefflpojmhaaGreatDoor
open Go.RowKit Go.Shelf
attribute [local go_sem] Oper.semAt_some
theorem nodes_any (x:Ct) (ea:Option Addr) (el ec:Nat) (da:Option Addr) (dl dc:Nat) (a:Option Addr) (len cap:Nat) (w:World):Calls Tryz.prog 22 #[.agg #[.int .u8 x.kind,.string x.frm,.string x.too,.string x.name,.int .u8 x.expr.kind,.string x.expr.rat,.string x.expr.name,.int .i64 x.expr.date,.slice ea el ec,.int .i64 x.date,.slice da dl dc,.slice a len cap]] w fun e w' =>
  e = .returned (.func (.func 44) #[] #[.pointer (some ⟨w.heap.size,0,none⟩)])∧w' = w.alloc (.cells #[.int .u8 x.kind,.string x.frm,.string x.too,.string x.name,.int .u8 x.expr.kind,.string x.expr.rat,.string x.expr.name,.int .i64 x.expr.date,.slice ea el ec,.int .i64 x.date,.slice da dl dc,.slice a len cap] 29):=by
 go_enter Tryz.func22,Tryz.ntmps22
 go_wp2_with fail
 go_ret
 exact ⟨rfl,rfl⟩
def ArgN (x:Ct) (N0:Nat) (we:World) (s:Nat) (v:Value):Prop := ∃ y cs,(pre x)[s]? = some y∧v = .agg cs.toArray∧CtAt N0 we cs y
set_option maxHeartbeats 2000000 in
set_option maxRecDepth 100000 in
theorem nodes_seq (x:Ct) (ea:Option Addr) (el ec:Nat) (da:Option Addr) (dl dc:Nat) (a:Option Addr) (len cap:Nat) (we:World) (n N0 m bx B:Nat) (hm:2≤m) (hat:CtAt n we [.int .u8 x.kind,.string x.frm,.string x.too,.string x.name,.int .u8 x.expr.kind,.string x.expr.rat,.string x.expr.name,.int .i64 x.expr.date,.slice ea el ec,.int .i64 x.date,.slice da dl dc,.slice a len cap] x) (hN:n≤N0) (hz:x.size≤1000) :
  SeqNx Tryz.prog m 44 #[.pointer (some ⟨bx,0,none⟩)] (ArgN x N0 we) (pre x).length (fun _ W => Below we.heap.size we W∧W.heap[bx]? = some (.cells #[.int .u8 x.kind,.string x.frm,.string x.too,.string x.name,.int .u8 x.expr.kind,.string x.expr.rat,.string x.expr.name,.int .i64 x.expr.date,.slice ea el ec,.int .i64 x.date,.slice da dl dc,.slice a len cap] 29)) B:=by
 intro l J Jx W hst _ hE hY hB h0
 have HV:=Lib.hid (visit_any (T:=fun s => (pre x)[s]?) (we:=we) (l:=l) (N0:=N0) hst (fun s W hs => (hE s W hs).1) (Jx:=Jx) (B:=B) (fun s y cs W1 hs hT hc => by
  have hlt:s < (pre x).length:=by
   rcases Nat.lt_or_ge s (pre x).length with h | h
   ·exact h
   ·rw [List.getElem?_eq_none h] at hT;cases hT
  exact yieldAt_wide (hY s _ W1 hs hlt ⟨y,cs,hT,rfl,hc⟩)) n x _ 0 W hat hN hz (fun i y hi => by rw [Nat.zero_add];exact hi) hB h0)
 obtain ⟨c0,c1,c2,c3,c4,c5,c6,c7,c8,c9,ca,cb⟩:=ctBox (hE 0 W h0).2
 clear hst hE hY h0 hat
 refine callsIn_of_wp Tryz.func44 rfl trivial ?_ rfl
 simp only [Tryz.ntmps44,List.size_toArray,List.length_cons,List.length_nil,Nat.reduceAdd,Nat.reduceSub,Array.replicate_succ,Array.replicate_zero,List.push_toArray,List.append_toArray,List.nil_append,List.cons_append]
 have hTf:∀ f,Fence.wide.fn f:=fun _ => trivial
 have hm1:1≤m:=by omega
 gi_wp2_with (gi_at_call 45;refine (callsIn_wide.2 HV.out).mono ?_)
 rw [Nat.zero_add]
 rintro ee w4 (⟨rfl,hf4,hJ4⟩ | ⟨rfl,hx4⟩)
 ·gi_wp2_with fail
  refine bodyPost_end (results_none rfl _ _ _) rfl ?_
  exact ⟨⟨_,rfl⟩,.inl hJ4⟩
 ·gi_wp2_with fail
  refine bodyPost_end (results_none rfl _ _ _) rfl ?_
  exact ⟨⟨_,rfl⟩,.inr hx4⟩
end Go.Proofs.YtijkefflpojmhaaGreatDoor

namespace Go.Proofs.YtijkefflpojmhaaGreatDoor
open Go.RowKit Go.Shelf
attribute [local go_sem] Oper.semAt_some
def cnX (y:Ct):Nat:=1+eSz y
theorem sum_flat (l:List Ct) (h:∀ y ∈ l,((pre y).map cnX).sum=y.csz):(((l.map pre).flatten).map cnX).sum=(l.map Ct.csz).sum:=by
 induction l with
 | nil => rfl
 | cons a l ih =>
  rw [List.map_cons,List.flatten_cons,List.map_append,List.sum_append,List.map_cons,List.sum_cons,h a (List.mem_cons_self ..),ih fun y hy => h y (List.mem_cons_of_mem _ hy)]
theorem sum_pre:∀ (x:Ct),((pre x).map cnX).sum=x.csz
 | .mk k f t n e d ds l => by
  rw [pre_is,Ct.csz_is,List.map_cons,List.sum_cons,sum_flat _ fun y hy => sum_pre y]
  rfl
termination_by x => SizeOf.sizeOf x
decreasing_by
 have:=List.sizeOf_lt_of_mem hy
 simp only [Ct.mk.sizeOf_spec]
 simp only [Ct.sub] at this
 omega
theorem sum_step (l:List Ct) (s:Nat) (y:Ct) (h:l[s]? = some y):((l.take (s+1)).map cnX).sum=((l.take s).map cnX).sum+cnX y:=by
 have hs:s < l.length:=by
  rcases Nat.lt_or_ge s l.length with q | q
  ·exact q
  ·rw [List.getElem?_eq_none q] at h;cases h
 rw [List.getElem?_eq_getElem hs] at h
 injection h with h
 rw [List.take_succ_eq_append_getElem hs,List.map_append,List.sum_append,List.map_singleton,List.sum_singleton,h]
theorem sum_le (l:List Ct) (s:Nat):((l.take s).map cnX).sum≤(l.map cnX).sum:=by
 have h:(l.map cnX).sum=((l.take s).map cnX).sum+((l.drop s).map cnX).sum:=by
  rw [← List.sum_append,← List.map_append,List.take_append_drop]
 omega
theorem pre_small:∀ (x:Ct) {y:Ct},y ∈ pre x→y.size≤x.size
 | .mk k f t n e d ds l,y,h => by
  rw [pre_is,List.mem_cons] at h
  rcases h with rfl | h
  ·exact Nat.le_refl _
  ·obtain ⟨_,h1,h2⟩:=List.mem_flatten.1 h
   obtain ⟨z,hz,rfl⟩:=List.mem_map.1 h1
   have q1:=pre_small z h2
   have q2:=Ct.sub_size (x := .mk k f t n e d ds l) hz
   omega
termination_by x => SizeOf.sizeOf x
decreasing_by
 have:=List.sizeOf_lt_of_mem hz
 simp only [Ct.mk.sizeOf_spec]
 simp only [Ct.sub] at this
 omega
def boxV (v:Value):Obj:=match v with
 | .agg cs => .cells cs 29
 | _ => .cells #[] 29
def SzI (x:Ct) (ea:Option Addr) (el ec:Nat) (da:Option Addr) (dl dc:Nat) (a:Option Addr) (len cap:Nat) (w:World) (s:Nat) (W:World):Prop :=
 Below w.heap.size w W∧W.heap[w.heap.size+1]? = some (.cells #[.int .i64 ((((pre x).take s).map cnX).sum:Nat)] 3)∧W.heap[w.heap.size+1+1]? = some (.cells #[.int .u8 x.kind,.string x.frm,.string x.too,.string x.name,.int .u8 x.expr.kind,.string x.expr.rat,.string x.expr.name,.int .i64 x.expr.date,.slice ea el ec,.int .i64 x.date,.slice da dl dc,.slice a len cap] 29)
theorem szI_own (x:Ct) (ea:Option Addr) (el ec:Nat) (da:Option Addr) (dl dc:Nat) (a:Option Addr) (len cap:Nat) (w:World) (B:Nat) (hB:w.heap.size+3≤B):OwnFrom B (SzI x ea el ec da dl dc a len cap w):=by
 intro s W W' row ⟨h1,h2,h3⟩ hg hr
 have hne:∀ j,j < w.heap.size+3→some j ≠ row:=fun j hj e => by have:=(hr j e.symm).1;omega
 have l2:=(Array.getElem?_eq_some_iff.1 h2).1
 have l3:=(Array.getElem?_eq_some_iff.1 h3).1
 exact ⟨h1.grown hg h1.size (fun k hk => by have:=(hr k hk).1;omega),(hg.block _ l2 (hne _ (by omega))).trans h2,(hg.block _ l3 (hne _ (by omega))).trans h3⟩
set_option maxHeartbeats 4000000 in
set_option maxRecDepth 100000 in
theorem pcsize_any (n:Nat) (x:Ct) (cs:List Value) (w:World) (hat:CtAt n w cs x) (hz:x.size≤1000):Calls Tryz.prog 20 #[.agg cs.toArray] w (IntP w (x.csz:Int)):=by
 obtain ⟨ea,el,ec,da,dl,dc,a,len,cap,rfl,_⟩:=hat.shape
 have hcz:=Ct.csz_le x
 have hsum:=sum_pre x
 show Calls Tryz.prog 20 #[.agg #[.int .u8 x.kind,.string x.frm,.string x.too,.string x.name,.int .u8 x.expr.kind,.string x.expr.rat,.string x.expr.name,.int .i64 x.expr.date,.slice ea el ec,.int .i64 x.date,.slice da dl dc,.slice a len cap]] w _
 refine (callsIn_wide (n:=6)).1 ?_
 refine callsIn_of_wp_marks Tryz.func20 rfl trivial ?_ rfl
 simp only [Tryz.ntmps20,List.size_toArray,List.length_cons,List.length_nil,Nat.reduceAdd,Nat.reduceSub,Array.replicate_succ,Array.replicate_zero,List.push_toArray,List.append_toArray,List.nil_append,List.cons_append]
 have hTf:∀ f,Fence.wide.fn f:=fun _ => trivial
 gi_wp2_with (gi_at_call 22;refine (callsIn_wide.2 (nodes_any x ea el ec da dl dc a len cap _)).mono ?_;rintro e w' ⟨rfl,rfl⟩)
 obtain ⟨W0,hW0⟩:∃ W0,W0=((w.alloc (.cells #[.int .u8 x.kind,.string x.frm,.string x.too,.string x.name,.int .u8 x.expr.kind,.string x.expr.rat,.string x.expr.name,.int .i64 x.expr.date,.slice ea el ec,.int .i64 x.date,.slice da dl dc,.slice a len cap] 29)).alloc (.cells #[.int .i64 0] 3)).alloc (.cells #[.int .u8 x.kind,.string x.frm,.string x.too,.string x.name,.int .u8 x.expr.kind,.string x.expr.rat,.string x.expr.name,.int .i64 x.expr.date,.slice ea el ec,.int .i64 x.date,.slice da dl dc,.slice a len cap] 29):=⟨_,rfl⟩
 have hT:=three_blocks w (.cells #[.int .u8 x.kind,.string x.frm,.string x.too,.string x.name,.int .u8 x.expr.kind,.string x.expr.rat,.string x.expr.name,.int .i64 x.expr.date,.slice ea el ec,.int .i64 x.date,.slice da dl dc,.slice a len cap] 29) (.cells #[.int .i64 0] 3) (.cells #[.int .u8 x.kind,.string x.frm,.string x.too,.string x.name,.int .u8 x.expr.kind,.string x.expr.rat,.string x.expr.name,.int .i64 x.expr.date,.slice ea el ec,.int .i64 x.date,.slice da dl dc,.slice a len cap] 29)
 rw [← hW0] at hT
 have hsz:W0.heap.size=w.heap.size+3:=by rw [hW0];simp
 have hB0:Below w.heap.size w W0:=by rw [hW0];exact ((own_below w _).alloc (by simp) _).alloc (by simp;omega) _
 have hI0:SzI x ea el ec da dl dc a len cap w 0 W0:=⟨hB0,hT.2.1,hT.2.2⟩
 rw [← hW0]
 have hS:=nodes_seq x ea el ec da dl dc a len cap w n n 5 (w.heap.size+1+1) W0.heap.size (by omega) hat (Nat.le_refl _) hz
 have HSUM:=Lib.hid hsum
 have HAT:=Lib.hid hat
 clear hW0 hT hB0 hsum hat
 refine range_nx (by omega) (gf:=44) (lb := #[.pointer (some ⟨w.heap.size+1+1,0,none⟩)]) rfl (enters_of Tryz.func44 (by kernel_rfl) rfl) hS rfl
  (SzI x ea el ec da dl dc a len cap w) (fun _ => False) (szI_own x ea el ec da dl dc a len cap w _ (by omega)) (fun _ _ _ _ h _ _ => h.elim) (fun s W h => ⟨h.1,h.2.2⟩) hI0
  (fun v b => { tmps := #[.agg #[.int .u8 x.kind,.string x.frm,.string x.too,.string x.name,.int .u8 x.expr.kind,.string x.expr.rat,.string x.expr.name,.int .i64 x.expr.date,.slice ea el ec,.int .i64 x.date,.slice da dl dc,.slice a len cap],.pointer (some ⟨w.heap.size,0,none⟩),.int .i64 0,.pointer (some ⟨w.heap.size+1,0,none⟩),.pointer (some ⟨b,0,none⟩),.agg #[.int .u8 x.kind,.string x.frm,.string x.too,.string x.name,.int .u8 x.expr.kind,.string x.expr.rat,.string x.expr.name,.int .i64 x.expr.date,.slice ea el ec,.int .i64 x.date,.slice da dl dc,.slice a len cap],.func (.func 44) #[] #[.pointer (some ⟨w.heap.size+1+1,0,none⟩)],v,undef,undef,undef,undef,undef,undef,undef,undef,undef,undef,undef,undef],defers:=[] }) boxV ?assign ?body ?done ?stop
 case assign =>
  rintro l v s W K ⟨y,cs,hy,rfl,hc⟩ hI hK
  obtain ⟨eap,elp,ecp,dap,dlp,dcp,ap,lenp,capp,rfl,_⟩:=hc.shape
  have e:ctCells y eap elp ecp dap dlp dcp ap lenp capp=[.int .u8 y.kind,.string y.frm,.string y.too,.string y.name,.int .u8 y.expr.kind,.string y.expr.rat,.string y.expr.name,.int .i64 y.expr.date,.slice eap elp ecp,.int .i64 y.date,.slice dap dlp dcp,.slice ap lenp capp]:=rfl
  rw [e] at hK ⊢
  gi_wp2
  exact hK
 case body =>
  rintro l s v b W ⟨hb0,hcnt,hbx⟩ hs ⟨y,cs,hy,rfl,hc⟩ hbB hbox
  obtain ⟨m,hm⟩:∃ m,n=m+1:=by
   cases n with
   | zero => exact hc.elim
   | succ m => exact ⟨m,rfl⟩
  subst hm
  obtain ⟨eap,elp,ecp,dap,dlp,dcp,ap,lenp,capp,rfl,hex,_⟩:=hc
  have e:ctCells y eap elp ecp dap dlp dcp ap lenp capp=[.int .u8 y.kind,.string y.frm,.string y.too,.string y.name,.int .u8 y.expr.kind,.string y.expr.rat,.string y.expr.name,.int .i64 y.expr.date,.slice eap elp ecp,.int .i64 y.date,.slice dap dlp dcp,.slice ap lenp capp]:=rfl
  rw [e]
  have hbox':W.heap[b]? = some (.cells #[.int .u8 y.kind,.string y.frm,.string y.too,.string y.name,.int .u8 y.expr.kind,.string y.expr.rat,.string y.expr.name,.int .i64 y.expr.date,.slice eap elp ecp,.int .i64 y.date,.slice dap dlp dcp,.slice ap lenp capp] 29):=hbox
  have hel:y.expr.sub.length=elp:=by
   obtain ⟨a',l',c',he,hl,_⟩:=hex
   injection he with _ he;injection he with _ he;injection he with _ he;injection he with _ he;injection he with he _
   injection he with _ he _
   rw [hl,he]
  obtain ⟨S,hS⟩:∃ S:Nat,S=(((pre x).take s).map cnX).sum:=⟨_,rfl⟩
  rw [← hS] at hcnt
  have hS1:=sum_step (pre x) s y hy
  have hS2:=sum_le (pre x) (s+1)
  rw [← hS] at hS1
  have hys:=pre_small x (List.mem_of_getElem? hy)
  have hyz:=y.expr_size
  have hS3:S+cnX y≤1000:=by have:=HSUM.out;omega
  have hn0:=exCell hcnt 0
  have hnf:=Lib.frozen_of_heap hcnt 0
  have hnl:=(Array.getElem?_eq_some_iff.1 hcnt).1
  have hbl:=(Array.getElem?_eq_some_iff.1 hbox').1
  have hne:¬ (b=w.heap.size+1):=by omega
  have hne2:¬ (w.heap.size+1=b):=by omega
  obtain ⟨c0,c1,c2,c3,c4,c5,c6,c7,c8,c9,ca,cb⟩:=ctBox hbox'
  obtain ⟨W1,hW1⟩:∃ W1,W1=W.setCell ⟨w.heap.size+1,0,none⟩ (.int .i64 ((S:Int)+1)):=⟨_,rfl⟩
  have hW1n:W1.heap[w.heap.size+1]? = some (.cells #[.int .i64 ((S:Int)+1)] 3):=by
   rw [hW1];simp [World.setCell,Array.getElem?_modify,hcnt]
  have hW1b:W1.heap[b]? = some (.cells #[.int .u8 y.kind,.string y.frm,.string y.too,.string y.name,.int .u8 y.expr.kind,.string y.expr.rat,.string y.expr.name,.int .i64 y.expr.date,.slice eap elp ecp,.int .i64 y.date,.slice dap dlp dcp,.slice ap lenp capp] 29):=by
   rw [hW1,Below.heap_setCell _ _ _ _ hne];exact hbox'
  have hW1x:W1.heap[w.heap.size+1+1]? = some (.cells #[.int .u8 x.kind,.string x.frm,.string x.too,.string x.name,.int .u8 x.expr.kind,.string x.expr.rat,.string x.expr.name,.int .i64 x.expr.date,.slice ea el ec,.int .i64 x.date,.slice da dl dc,.slice a len cap] 29):=by
   rw [hW1,Below.heap_setCell _ _ _ _ (by show w.heap.size+1+1 ≠ w.heap.size+1;omega)];exact hbx
  have hW1w:Below w.heap.size w W1:=by rw [hW1];exact hb0.setCell (p:=⟨w.heap.size+1,0,none⟩) (by show w.heap.size≤w.heap.size+1;omega) _
  have hW1f:FrmW W0.heap.size W W1:=by rw [hW1];exact FrmW.set (by show w.heap.size+1 < W0.heap.size;omega) _
  have hW1s:W1.heap.size=W.heap.size:=by rw [hW1];simp [World.setCell]
  have HBARE:=Lib.hid (pbare_any y.expr eap elp ecp W1 hel)
  have HFIN:Hid (∀ (A:Act) (W2:World) (C:Nat),Below W1.heap.size W1 W2→C=1+eSz y→C=1→RoundNx W0.heap.size s (SzI x ea el ec da dl dc a len cap w) (fun _ => False) W .normal A W2):=fun _ W2 C hW2 hC hC1 => by
   refine ⟨hW1f.trans (FrmW.below hW2),hW1w.trans (hW2.mono hW1w.size),?_,(hW2.block _ (Array.getElem?_eq_some_iff.1 hW1x).1).trans hW1x⟩
   rw [hW2.block _ (Array.getElem?_eq_some_iff.1 hW1n).1,hW1n,hS1]
   unfold cnX
   rw [← hC,hC1];rfl
  have HFIN2:Hid (∀ (A:Act) (W2:World) (C:Nat),Below W1.heap.size W1 W2→C=eSz y→RoundNx W0.heap.size s (SzI x ea el ec da dl dc a len cap w) (fun _ => False) W .normal A (W2.setCell ⟨w.heap.size+1,0,none⟩ (.int .i64 ((S:Int)+1+(C:Int))))):=fun _ W2 C hW2 hC => by
   have hn2:=(hW2.block _ (Array.getElem?_eq_some_iff.1 hW1n).1).trans hW1n
   refine ⟨(hW1f.trans (FrmW.below hW2)).trans (FrmW.set (by show w.heap.size+1 < W0.heap.size;omega) _),(hW1w.trans (hW2.mono hW1w.size)).setCell (p:=⟨w.heap.size+1,0,none⟩) (by show w.heap.size≤w.heap.size+1;omega) _,?_,?_⟩
   ·rw [hS1]
    unfold cnX
    rw [← hC]
    simp [World.setCell,Array.getElem?_modify,hn2]
    omega
   ·rw [Below.heap_setCell _ _ _ _ (by show w.heap.size+1+1 ≠ w.heap.size+1;omega)]
    exact (hW2.block _ (Array.getElem?_eq_some_iff.1 hW1x).1).trans hW1x
  have hcn:cnX y=1+eSz y:=rfl
  have hes:=eSz_le y
  have HSZ:Hid (∀ W2,Below W1.heap.size W1 W2→Calls Tryz.prog 42 #[.agg #[.int .u8 y.expr.kind,.string y.expr.rat,.string y.expr.name,.int .i64 y.expr.date,.slice eap elp ecp]] W2 (IntP W2 (y.expr.size:Int))):=fun W2 hW2 => psizex_any (m+1) y.expr _ W2 (ExAt.below (hW1w.trans (hW2.mono hW1w.size)) hex) (by omega)
  have HW1:=Lib.hid hW1
  have HN1:=Lib.hid hW1n
  have HB1:=Lib.hid hW1b
  have hSb:S+1≤1000:=by omega
  obtain ⟨bb,hbb⟩:∃ b,b=bareX y.expr:=⟨_,rfl⟩
  rw [← hbb] at HBARE
  have HBB:=Lib.hid hbb
  have HES:Hid (eSz y=if bb then 0 else y.expr.size):=by show _=_;rw [hbb];rfl
  obtain ⟨q,hq⟩:∃ q,q=y.expr.size:=⟨_,rfl⟩
  rw [← hq] at HSZ HES
  have hqb:q≤1000:=by omega
  have hSq:bb=false→S+1+q≤1000:=fun h => by
   have:=HES.out
   rw [h] at this
   have:eSz y=q:=this
   omega
  have HSq:=Lib.hid hSq
  have hTr:∀ f,(Fence.wide.inRound l).fn f:=fun _ => trivial
  have hd1:1≤6 - 1 - 1:=by omega
  clear hS hS1 hS2 hys hyz hS3 hcnt hbx hb0 hbox hbox' hex hel hy hW1 hW1n hW1b hW1x hW1w hW1f hcn hes hbb hq hSq hs
  gi_wp2_with (gi_at_call 41;rw [← HW1.out];refine (CallsIn.inRound l (callsIn_wide.2 HBARE.out)).mono ?_)
  rintro e w2 ⟨rfl,hb2⟩
  have HB2:=Lib.hid hb2
  cases bb with
  | true =>
   clear c0 c1 c2 c3 c4 c5 c6 c7 c8 c9 ca cb hn0 hnf hb2
   gi_wp2
   exact HFIN.out _ _ 1 HB2.out (by rw [HES.out];rfl) rfl
  | false =>
   have hn2:=(hb2.block _ (by omega)).trans HN1.out
   have hbx2:=(hb2.block b (by omega)).trans HB1.out
   have hS2q:=HSq.out rfl
   have HWR:Hid (IntKind.i64.wrap ((S:Int)+1+(q:Int))=(S:Int)+1+(q:Int)):=IntWalk.i64_in _ (by omega)
   clear c0 c1 c2 c3 c4 c5 c6 c7 c8 c9 ca cb hn0 hnf hb2
   have n2:=exCell hn2 0
   have f2:=Lib.frozen_of_heap hn2 0
   obtain ⟨c0,c1,c2,c3,c4,c5,c6,c7,c8,c9,ca,cb⟩:=ctBox hbx2
   have HD0:Hid (Below W1.heap.size W1 w2.drew):=HB2.out.drew
   clear hn2 hbx2
   gi_wp2
   gi_region_with ((gi_at_call 42;refine (CallsIn.inRound l (callsIn_wide.2 (HSZ.out _ HD0.out))).mono ?_;rintro e w3 ⟨rfl,hb3⟩;have HB3:=Lib.hid (HD0.out.trans (hb3.mono HD0.out.size));have hn3:=(HB3.out.block (w.heap.size+1) (by omega)).trans HN1.out;have n3:=exCell hn3 0;have f3:=Lib.frozen_of_heap hn3 0;clear hn3 hb3))
   all_goals
    gi_wp2
    try rw [HWR.out]
    exact HFIN2.out _ _ q HB3.out (by rw [HES.out];rfl)
 case done =>
  rintro D W hD ⟨hb0,hcnt,hbx⟩ hK
  rw [List.take_length,HSUM.out] at hcnt
  obtain ⟨Z,hZ⟩:∃ Z,Z=x.csz:=⟨_,rfl⟩
  rw [← hZ] at hcnt ⊢
  have n0:=exCell hcnt 0
  have HK:=Lib.hid hK
  have HB:=Lib.hid hb0
  have HZZ:=Lib.hid hZ
  clear hcnt hbx hb0 hK hZ hcz HSUM HAT hS hI0
  gi_wp2
  refine ⟨by simp,.inl ⟨_,_,rfl,run_takeDeferred HK.out,?_⟩⟩
  refine ⟨.int .i64 (Z:Int),by simp [results,Tryz.results20,go_sem],by rw [HZZ.out],?_⟩
  exact HB.out.grown (grownBy_putObj' W D (.deferred none)) HB.out.size (fun k e => by injection e with e;omega)
 case stop =>
  rintro D W hD h hK
  exact h.elim
end Go.Proofs.YtijkefflpojmhaaGreatDoor

namespace Go.Proofs.YtijkefflpojmhaaGreatDoor
open Go.RowKit
theorem all_flat (l:List Ct) (p:Ct→Bool) (h:∀ y ∈ l,(pre y).all p=formX y):((l.map pre).flatten).all p=l.all formX:=by
 induction l with
 | nil => rfl
 | cons a l ih =>
  rw [List.map_cons,List.flatten_cons,List.all_append,h a (List.mem_cons_self ..),ih fun y hy => h y (List.mem_cons_of_mem _ hy),List.all_cons]
theorem form_pre:∀ (x:Ct),(pre x).all nodeX=formX x
 | .mk k f t n e d ds l => by
  rw [pre_is,formX_is,List.all_cons,all_flat _ _ fun y hy => form_pre y,Bool.and_comm]
termination_by x => SizeOf.sizeOf x
decreasing_by
 have:=List.sizeOf_lt_of_mem hy
 simp only [Ct.mk.sizeOf_spec]
 simp only [Ct.sub] at this
 omega
theorem pre_kok:∀ (n:Nat) (x:Ct) {y:Ct},CKOk n x→y ∈ pre x→CKOk n y
 | 0,_,_,h,_ => h.elim
 | n+1,x,y,h,hy => by
  rw [pre_is,List.mem_cons] at hy
  rcases hy with rfl | hy
  ·exact h
  ·obtain ⟨_,h1,h2⟩:=List.mem_flatten.1 hy
   obtain ⟨z,hz,rfl⟩:=List.mem_map.1 h1
   exact CKOk.up (by omega) (pre_kok n z (h.2.2 z hz) h2)
theorem pre_csm:∀ (d:Nat) (x:Ct) {y:Ct},CSm d x→y ∈ pre x → ∃ e,e≤d∧CSm e y
 | 0,_,_,h,_ => h.elim
 | d+1,x,y,h,hy => by
  rw [pre_is,List.mem_cons] at hy
  rcases hy with rfl | hy
  ·exact ⟨_,Nat.le_refl _,h⟩
  ·obtain ⟨_,h1,h2⟩:=List.mem_flatten.1 hy
   obtain ⟨z,hz,rfl⟩:=List.mem_map.1 h1
   obtain ⟨e,he,hc⟩:=pre_csm d z (h.2.2 z hz) h2
   exact ⟨e,by omega,hc⟩
theorem CtIn.node {n:Nat} {x y:Ct} {cs cs':List Value} {w w' Wg:World} (h:CtIn n x cs w Wg) (hy:y ∈ pre x) (hc:CtAt n w cs' y) (hb:Below w.heap.size w w'):CtIn n y cs' w' Wg:=by
 obtain ⟨_,hk,hz,⟨d,hd,hs⟩,hp,ho⟩:=h
 obtain ⟨e,he,hcs⟩:=pre_csm d x hs hy
 exact ⟨CtAt.below hb hc,pre_kok n x hk hy,Nat.le_trans (pre_small x hy) hz,⟨e,by omega,hcs⟩,hp,ho.trans (hb.mono ho.size)⟩
end Go.Proofs.YtijkefflpojmhaaGreatDoor

namespace Go.Proofs.YtijkefflpojmhaaGreatDoor
open Go.RowKit Go.Shelf
attribute [local go_sem] Oper.semAt_some
def ChI (x:Ct) (ea:Option Addr) (el ec:Nat) (da:Option Addr) (dl dc:Nat) (a:Option Addr) (len cap:Nat) (w:World) (D:Nat) (s:Nat) (W:World):Prop :=
 Below w.heap.size w W∧W.heap[w.heap.size+1]? = some (.cells #[.int .i64 0] 32)∧W.heap[D]? = some (.cells #[.int .u8 x.kind,.string x.frm,.string x.too,.string x.name,.int .u8 x.expr.kind,.string x.expr.rat,.string x.expr.name,.int .i64 x.expr.date,.slice ea el ec,.int .i64 x.date,.slice da dl dc,.slice a len cap] 29) ∧ ∀ i y,i < s→(pre x)[i]? = some y→nodeX y=true
def ChX (x:Ct) (w:World) (W:World):Prop :=
 Below w.heap.size w W∧W.heap[w.heap.size+1]? = some (.cells #[.int .i64 8] 32)∧formX x=false
theorem chI_own (x:Ct) (ea:Option Addr) (el ec:Nat) (da:Option Addr) (dl dc:Nat) (a:Option Addr) (len cap:Nat) (w:World) (D B:Nat) (hB:w.heap.size+2≤B) (hD:D < B):OwnFrom B (ChI x ea el ec da dl dc a len cap w D):=by
 intro s W W' row ⟨h1,h2,h3,h4⟩ hg hr
 have hne:∀ j,j < B→some j ≠ row:=fun j hj e => by have:=(hr j e.symm).1;omega
 have l2:=(Array.getElem?_eq_some_iff.1 h2).1
 have l3:=(Array.getElem?_eq_some_iff.1 h3).1
 exact ⟨h1.grown hg h1.size (fun k hk => by have:=(hr k hk).1;omega),(hg.block _ l2 (hne _ (by omega))).trans h2,(hg.block _ l3 (hne _ hD)).trans h3,h4⟩
theorem chX_own (x:Ct) (w:World) (B:Nat) (hB:w.heap.size+2≤B):OwnFrom B (fun (_:Unit) W => ChX x w W):=by
 intro s W W' row ⟨h1,h2,h3⟩ hg hr
 have hne:∀ j,j < B→some j ≠ row:=fun j hj e => by have:=(hr j e.symm).1;omega
 have l2:=(Array.getElem?_eq_some_iff.1 h2).1
 exact ⟨h1.grown hg h1.size (fun k hk => by have:=(hr k hk).1;omega),(hg.block _ l2 (hne _ (by omega))).trans h2,h3⟩
set_option maxHeartbeats 4000000 in
set_option maxRecDepth 100000 in
theorem pcchk_any (n:Nat) (x:Ct) (cs:List Value) (w Wg:World) (hpt:PtsAt Wg) (h:CtIn n x cs w Wg):Calls Tryz.prog 11 #[.agg cs.toArray] w (IntP w (chkC x)):=by
 have hsh:=h.at_.shape
 obtain ⟨ea,el,ec,da,dl,dc,a,len,cap,rfl,_⟩:=hsh
 show Calls Tryz.prog 11 #[.agg #[.int .u8 x.kind,.string x.frm,.string x.too,.string x.name,.int .u8 x.expr.kind,.string x.expr.rat,.string x.expr.name,.int .i64 x.expr.date,.slice ea el ec,.int .i64 x.date,.slice da dl dc,.slice a len cap]] w _
 obtain ⟨W0,hW0⟩:∃ W0,W0=(w.alloc (.cells #[.int .u8 x.kind,.string x.frm,.string x.too,.string x.name,.int .u8 x.expr.kind,.string x.expr.rat,.string x.expr.name,.int .i64 x.expr.date,.slice ea el ec,.int .i64 x.date,.slice da dl dc,.slice a len cap] 29)).alloc (.cells #[.int .i64 0] 32):=⟨_,rfl⟩
 have hbx:W0.heap[w.heap.size]? = some (.cells #[.int .u8 x.kind,.string x.frm,.string x.too,.string x.name,.int .u8 x.expr.kind,.string x.expr.rat,.string x.expr.name,.int .i64 x.expr.date,.slice ea el ec,.int .i64 x.date,.slice da dl dc,.slice a len cap] 29):=by rw [hW0];exact heap_two ..
 have hby:W0.heap[w.heap.size+1]? = some (.cells #[.int .i64 0] 32):=by rw [hW0];exact alloc_new _ _ _ (World.size_alloc _ _)
 have hB0:Below w.heap.size w W0:=by rw [hW0];exact (own_below w _).alloc (by simp) _
 have hsz0:W0.heap.size=w.heap.size+2:=by rw [hW0];simp
 have h0:=h.below hB0
 have hcz:=Ct.csz_le x
 have hxz:=h.size
 have HC:∀ W,Below W0.heap.size W0 W→_:=fun W hW => ctBox ((hW.block _ (Array.getElem?_eq_some_iff.1 hbx).1).trans hbx)
 have HY:Hid (∀ W,Below W0.heap.size W0 W→W.heap[w.heap.size+1]? = some (.cells #[.int .i64 0] 32)):=fun W hW => (hW.block _ (Array.getElem?_eq_some_iff.1 hby).1).trans hby
 have HSZ:Hid (∀ W,Below W0.heap.size W0 W→Calls Tryz.prog 20 #[.agg #[.int .u8 x.kind,.string x.frm,.string x.too,.string x.name,.int .u8 x.expr.kind,.string x.expr.rat,.string x.expr.name,.int .i64 x.expr.date,.slice ea el ec,.int .i64 x.date,.slice da dl dc,.slice a len cap]] W (IntP W (x.csz:Int))):=fun W hW => pcsize_any n x _ W (CtAt.below hW h0.at_) h.size
 have HDP:Hid (∀ W,Below W0.heap.size W0 W→Calls Tryz.prog 21 #[.agg #[.int .u8 x.kind,.string x.frm,.string x.too,.string x.name,.int .u8 x.expr.kind,.string x.expr.rat,.string x.expr.name,.int .i64 x.expr.date,.slice ea el ec,.int .i64 x.date,.slice da dl dc,.slice a len cap]] W (IntP W (x.cdp:Int))):=fun W hW => pcdepth_any n x _ W (CtAt.below hW h0.at_) h.size h.sm9
 have hcd:x.cdp≤1000:=by
  obtain ⟨d,h9,hd⟩:=h.sm9
  have:=hd.cdp;omega
 obtain ⟨R,hR⟩:∃ R,R=chkC x:=⟨_,rfl⟩
 rw [← hR]
 have HW0:=Lib.hid hW0
 have HB0:=Lib.hid hB0
 have HIN:=Lib.hid h
 have HPT:=Lib.hid hpt
 have HCC:=Lib.hid HC
 obtain ⟨sz,hsz⟩:∃ q,q=x.csz:=⟨_,rfl⟩
 obtain ⟨dp,hdp⟩:∃ q,q=x.cdp:=⟨_,rfl⟩
 have hcx:R=if 500 < sz ∨ 60 < dp then 4 else if formX x then 0 else 8:=by rw [hR,hsz,hdp];rfl
 have hszb:sz≤1000:=by omega
 have hdpb:dp≤1000:=by omega
 rw [← hsz] at HSZ
 rw [← hdp] at HDP
 have HCX:=Lib.hid hcx
 have hTf:∀ f,Fence.wide.fn f:=fun _ => trivial
 clear hR hW0 hB0 HC h0 h hbx hby hsz hdp hcx hcz hxz hcd hpt
 refine (callsIn_wide (n:=6)).1 ?_
 refine callsIn_of_wp_marks Tryz.func11 rfl trivial ?_ rfl
 simp only [Tryz.ntmps11,List.size_toArray,List.length_cons,List.length_nil,Nat.reduceAdd,Nat.reduceSub,Array.replicate_succ,Array.replicate_zero,List.push_toArray,List.append_toArray,List.nil_append,List.cons_append]
 gi_wp2_with (gi_at_call 20;rw [← HW0.out];refine (callsIn_wide.2 (HSZ.out _ (Below.refl _ _))).mono ?_)
 rintro e w1 ⟨rfl,hb⟩
 have HB1:=Lib.hid hb
 have HB:=Lib.hid (HB0.out.trans (hb.mono HB0.out.size))
 clear hb
 obtain ⟨c0,c1,c2,c3,c4,c5,c6,c7,c8,c9,ca,cb⟩:=HCC.out w1 HB1.out
 have y0:=exCell (HY.out w1 HB1.out) 0
 have yf:=Lib.frozen_of_heap (HY.out w1 HB1.out) 0
 by_cases h5:500 < sz
 ·have e:R=4:=by rw [HCX.out,if_pos (.inl h5)]
  have E:=Lib.hid e
  have d5:decide ((500:Int) < (sz:Int))=true:=decide_eq_true (by omega)
  clear e
  gi_wp2_with fail
  refine ⟨.int .i64 4,by simp [results,Tryz.results11,go_sem,World.cell?_setCell_same w1 ⟨w.heap.size+1,0,none⟩ (.int .i64 4) y0],by rw [E.out],HB.out.setCell (p:=⟨w.heap.size+1,0,none⟩) (Nat.le_succ _) _⟩
 have d5:decide ((500:Int) < (sz:Int))=false:=decide_eq_false (by omega)
 by_cases h6:60 < dp
 ·have e:R=4:=by rw [HCX.out,if_pos (.inr h6)]
  have E:=Lib.hid e
  have d6:decide ((60:Int) < (dp:Int))=true:=decide_eq_true (by omega)
  clear e
  gi_wp2_with (gi_at_call 21;refine (callsIn_wide.2 (HDP.out _ HB1.out)).mono ?_;rintro e w2 ⟨rfl,hb2⟩;have HB2:=Lib.hid (HB1.out.trans (hb2.mono HB1.out.size));have HBB:=Lib.hid (HB.out.trans (hb2.mono HB.out.size));clear hb2 c0 c1 c2 c3 c4 c5 c6 c7 c8 c9 ca cb y0 yf;obtain ⟨c0,c1,c2,c3,c4,c5,c6,c7,c8,c9,ca,cb⟩:=HCC.out w2 HB2.out;have y0:=exCell (HY.out w2 HB2.out) 0;have yf:=Lib.frozen_of_heap (HY.out w2 HB2.out) 0)
  refine ⟨.int .i64 4,by simp [results,Tryz.results11,go_sem,World.cell?_setCell_same w2 ⟨w.heap.size+1,0,none⟩ (.int .i64 4) y0],by rw [E.out],HBB.out.setCell (p:=⟨w.heap.size+1,0,none⟩) (Nat.le_succ _) _⟩
 have d6:decide ((60:Int) < (dp:Int))=false:=decide_eq_false (by omega)
 gi_wp2_with (first | (gi_at_call 22;refine (callsIn_wide.2 (nodes_any x ea el ec da dl dc a len cap _)).mono ?_;rintro e w' ⟨rfl,rfl⟩) | (gi_at_call 21;refine (callsIn_wide.2 (HDP.out _ HB1.out)).mono ?_;rintro e w2 ⟨rfl,hb2⟩;have HB2:=Lib.hid (HB1.out.trans (hb2.mono HB1.out.size));have HBB:=Lib.hid (HB.out.trans (hb2.mono HB.out.size));clear hb2 c0 c1 c2 c3 c4 c5 c6 c7 c8 c9 ca cb y0 yf;obtain ⟨c0,c1,c2,c3,c4,c5,c6,c7,c8,c9,ca,cb⟩:=HCC.out w2 HB2.out;have y0:=exCell (HY.out w2 HB2.out) 0;have yf:=Lib.frozen_of_heap (HY.out w2 HB2.out) 0))
 obtain ⟨W3,hW3⟩:∃ W3,W3=w2.alloc (.cells #[.int .u8 x.kind,.string x.frm,.string x.too,.string x.name,.int .u8 x.expr.kind,.string x.expr.rat,.string x.expr.name,.int .i64 x.expr.date,.slice ea el ec,.int .i64 x.date,.slice da dl dc,.slice a len cap] 29):=⟨_,rfl⟩
 have hsz3:W3.heap.size=w2.heap.size+1:=by rw [hW3];simp
 have h2s:=HB2.out.size
 have hB3:Below w.heap.size w W3:=by rw [hW3];exact HBB.out.alloc HBB.out.size _
 have hy3:W3.heap[w.heap.size+1]? = some (.cells #[.int .i64 0] 32):=by rw [hW3];exact (Below.heap_alloc _ _ _ (by omega)).trans (HY.out w2 HB2.out)
 have hbx3:W3.heap[w2.heap.size]? = some (.cells #[.int .u8 x.kind,.string x.frm,.string x.too,.string x.name,.int .u8 x.expr.kind,.string x.expr.rat,.string x.expr.name,.int .i64 x.expr.date,.slice ea el ec,.int .i64 x.date,.slice da dl dc,.slice a len cap] 29):=by rw [hW3];exact World.alloc_heap_new w2 _
 have hI0:ChI x ea el ec da dl dc a len cap w w2.heap.size 0 W3:=⟨hB3,hy3,hbx3,fun i y hi => absurd hi (Nat.not_lt_zero _)⟩
 rw [← hW3]
 have hS:=nodes_seq x ea el ec da dl dc a len cap w n n 5 w2.heap.size W3.heap.size (by omega) HIN.out.at_ (Nat.le_refl _) HIN.out.size
 have HFP:=Lib.hid (form_pre x)
 clear hW3 hB3 hy3 hbx3 c0 c1 c2 c3 c4 c5 c6 c7 c8 c9 ca cb y0 yf
 refine range_nx (by omega) (gf:=44) (lb := #[.pointer (some ⟨w2.heap.size,0,none⟩)]) rfl (enters_of Tryz.func44 (by kernel_rfl) rfl) hS rfl
  (ChI x ea el ec da dl dc a len cap w w2.heap.size) (ChX x w) (chI_own x ea el ec da dl dc a len cap w _ _ (by omega) (by omega)) (chX_own x w _ (by omega)) (fun s W h => ⟨h.1,h.2.2.1⟩) hI0
  (fun v b => { tmps := #[.agg #[.int .u8 x.kind,.string x.frm,.string x.too,.string x.name,.int .u8 x.expr.kind,.string x.expr.rat,.string x.expr.name,.int .i64 x.expr.date,.slice ea el ec,.int .i64 x.date,.slice da dl dc,.slice a len cap],.pointer (some ⟨w.heap.size,0,none⟩),.pointer (some ⟨w.heap.size+1,0,none⟩),.pointer (some ⟨b,0,none⟩),.agg #[.int .u8 x.kind,.string x.frm,.string x.too,.string x.name,.int .u8 x.expr.kind,.string x.expr.rat,.string x.expr.name,.int .i64 x.expr.date,.slice ea el ec,.int .i64 x.date,.slice da dl dc,.slice a len cap],.int .i64 (sz:Int),.bool false,.bool false,.agg #[.int .u8 x.kind,.string x.frm,.string x.too,.string x.name,.int .u8 x.expr.kind,.string x.expr.rat,.string x.expr.name,.int .i64 x.expr.date,.slice ea el ec,.int .i64 x.date,.slice da dl dc,.slice a len cap],.int .i64 (dp:Int),.bool false,.bool false,.agg #[.int .u8 x.kind,.string x.frm,.string x.too,.string x.name,.int .u8 x.expr.kind,.string x.expr.rat,.string x.expr.name,.int .i64 x.expr.date,.slice ea el ec,.int .i64 x.date,.slice da dl dc,.slice a len cap],.func (.func 44) #[] #[.pointer (some ⟨w2.heap.size,0,none⟩)],v,undef,undef,undef],defers:=[] }) boxV ?assign ?body ?done ?stop
 case assign =>
  rintro l v s W K ⟨y,cs,hy,rfl,hc⟩ hI hK
  obtain ⟨eap,elp,ecp,dap,dlp,dcp,ap,lenp,capp,rfl,_⟩:=hc.shape
  have e:ctCells y eap elp ecp dap dlp dcp ap lenp capp=[.int .u8 y.kind,.string y.frm,.string y.too,.string y.name,.int .u8 y.expr.kind,.string y.expr.rat,.string y.expr.name,.int .i64 y.expr.date,.slice eap elp ecp,.int .i64 y.date,.slice dap dlp dcp,.slice ap lenp capp]:=rfl
  rw [e] at hK ⊢
  gi_wp2
  exact hK
 case body =>
  rintro l s v b W ⟨hb0,hcnt,hbx,hall⟩ hs ⟨y,cs,hy,rfl,hc⟩ hbB hbox
  have hmem:=List.mem_of_getElem? hy
  have hnd:=HIN.out.node hmem hc hb0
  obtain ⟨eap,elp,ecp,dap,dlp,dcp,ap,lenp,capp,rfl,_⟩:=hc.shape
  have e:ctCells y eap elp ecp dap dlp dcp ap lenp capp=[.int .u8 y.kind,.string y.frm,.string y.too,.string y.name,.int .u8 y.expr.kind,.string y.expr.rat,.string y.expr.name,.int .i64 y.expr.date,.slice eap elp ecp,.int .i64 y.date,.slice dap dlp dcp,.slice ap lenp capp]:=rfl
  rw [e] at hnd ⊢
  have hbox':W.heap[b]? = some (.cells #[.int .u8 y.kind,.string y.frm,.string y.too,.string y.name,.int .u8 y.expr.kind,.string y.expr.rat,.string y.expr.name,.int .i64 y.expr.date,.slice eap elp ecp,.int .i64 y.date,.slice dap dlp dcp,.slice ap lenp capp] 29):=hbox
  have HND:=Lib.hid (pnode_any HPT.out n y _ W hnd)
  obtain ⟨r,hr⟩:∃ r,r=nodeX y:=⟨_,rfl⟩
  rw [← hr] at HND
  obtain ⟨c0,c1,c2,c3,c4,c5,c6,c7,c8,c9,ca,cb⟩:=ctBox hbox'
  have hsW:W3.heap.size≤W.heap.size:=by have:=(Array.getElem?_eq_some_iff.1 hbox').1;omega
  have HT:Hid (∀ (A:Act) (W2:World),Below W.heap.size W W2→r=true→RoundNx W3.heap.size s (ChI x ea el ec da dl dc a len cap w w2.heap.size) (ChX x w) W .normal A W2):=fun _ W2 hW2 hr1 =>
   ⟨FrmW.below hW2,hb0.trans (hW2.mono hb0.size),(hW2.block _ (Array.getElem?_eq_some_iff.1 hcnt).1).trans hcnt,(hW2.block _ (Array.getElem?_eq_some_iff.1 hbx).1).trans hbx,fun i z hi hz => by
    rcases Nat.lt_or_ge i s with h | h
    ·exact hall i z h hz
    ·have:i=s:=by omega
     subst this
     rw [hy] at hz
     injection hz with hz
     rw [← hz,← hr,hr1]⟩
  have HF:Hid (∀ (A:Act) (W2:World),Below W.heap.size W W2→r=false→RoundNx W3.heap.size s (ChI x ea el ec da dl dc a len cap w w2.heap.size) (ChX x w) W .ret A (W2.setCell ⟨w.heap.size+1,0,none⟩ (.int .i64 8))):=fun _ W2 hW2 hr1 => by
   have hc2:=(hW2.block _ (Array.getElem?_eq_some_iff.1 hcnt).1).trans hcnt
   refine ⟨(FrmW.below hW2).trans (FrmW.set (by show w.heap.size+1 < W3.heap.size;omega) _),(hb0.trans (hW2.mono hb0.size)).setCell (p:=⟨w.heap.size+1,0,none⟩) (by show w.heap.size≤w.heap.size+1;omega) _,?_,?_⟩
   ·simp [World.setCell,Array.getElem?_modify,hc2]
   ·rw [← HFP.out,List.all_eq_false]
    exact ⟨y,hmem,by rw [← hr,hr1];decide⟩
  have HCN:=Lib.hid hcnt
  have hTr:∀ f,(Fence.wide.inRound l).fn f:=fun _ => trivial
  have hd1:1≤6 - 1 - 1:=by omega
  clear hbx hcnt hall hb0 hbox hbox' hc hy hmem hnd hr hs hS hI0
  cases r with
  | true =>
   gi_wp2_with (gi_at_call 23;refine (CallsIn.inRound l (callsIn_wide.2 HND.out)).mono ?_;rintro e W2 ⟨rfl,hb2⟩;have HB:=Lib.hid hb2;clear hb2 c0 c1 c2 c3 c4 c5 c6 c7 c8 c9 ca cb)
   exact HT.out _ _ HB.out (by first | rfl | trivial)
  | false =>
   gi_wp2_with (gi_at_call 23;refine (CallsIn.inRound l (callsIn_wide.2 HND.out)).mono ?_;rintro e W2 ⟨rfl,hb2⟩;have HB:=Lib.hid hb2;have hc2:=(hb2.block _ (Array.getElem?_eq_some_iff.1 HCN.out).1).trans HCN.out;have n2:=exCell hc2 0;have f2:=Lib.frozen_of_heap hc2 0;clear hb2 hc2 c0 c1 c2 c3 c4 c5 c6 c7 c8 c9 ca cb)
   exact HF.out _ _ HB.out (by first | rfl | trivial)
 case done =>
  rintro D W hD ⟨hb0,hcnt,hbx,hall⟩ hK
  have hform:formX x=true:=by
   rw [← HFP.out,List.all_eq_true]
   intro y hy
   obtain ⟨i,hi,rfl⟩:=List.getElem_of_mem hy
   exact hall i _ hi (List.getElem?_eq_getElem hi)
  have e0:R=0:=by rw [HCX.out,if_neg (by omega),hform];rfl
  have E:=Lib.hid e0
  have HK:=Lib.hid hK
  have HB:=Lib.hid hb0
  have hne:w.heap.size+1 ≠ D:=by omega
  have n0:=exCell hcnt 0
  have f0:=Lib.frozen_of_heap hcnt 0
  have HCN:=Lib.hid hcnt
  clear hcnt hbx hall hK hb0 hform e0 hS hI0
  gi_wp2
  have hK2:(W.setCell ⟨w.heap.size+1,0,none⟩ (.int .i64 0)).heap[D]? = some (.deferred (some [])):=(Below.heap_setCell _ _ _ _ (Ne.symm hne)).trans HK.out
  refine ⟨by simp,.inl ⟨_,_,rfl,run_takeDeferred hK2,?_⟩⟩
  have hc:((W.setCell ⟨w.heap.size+1,0,none⟩ (.int .i64 0)).putObj D (.deferred none)).cell? ⟨w.heap.size+1,0,none⟩=some (.int .i64 0):=by
   have e:=(World.putObj_heap_other (w:=W.setCell ⟨w.heap.size+1,0,none⟩ (.int .i64 0)) (o := .deferred none) hne)
   have e2:(W.setCell ⟨w.heap.size+1,0,none⟩ (.int .i64 0)).heap[w.heap.size+1]? = some (.cells #[.int .i64 0] 32):=by simp [World.setCell,Array.getElem?_modify,HCN.out]
   exact exCell (e.trans e2) 0
  refine ⟨.int .i64 0,by simp [results,Tryz.results11,go_sem,hc],by rw [E.out],?_⟩
  have hs2:=HB.out.setCell (p:=⟨w.heap.size+1,0,none⟩) (by show w.heap.size≤w.heap.size+1;omega) (.int .i64 0)
  exact hs2.grown (grownBy_putObj' _ D (.deferred none)) hs2.size (fun k e => by injection e with e;omega)
 case stop =>
  rintro D W hD ⟨hb0,hcnt,hform⟩ hK
  have e0:R=8:=by rw [HCX.out,if_neg (by omega),hform];rfl
  have E:=Lib.hid e0
  have HK:=Lib.hid hK
  have HB:=Lib.hid hb0
  have hne:w.heap.size+1 ≠ D:=by omega
  have HCN:=Lib.hid hcnt
  clear hcnt hK hb0 hform e0 hS hI0
  gi_wp2
  refine ⟨by simp,.inl ⟨_,_,rfl,run_takeDeferred HK.out,?_⟩⟩
  have hc:(W.putObj D (.deferred none)).cell? ⟨w.heap.size+1,0,none⟩=some (.int .i64 8):=exCell ((World.putObj_heap_other (w:=W) (o := .deferred none) hne).trans HCN.out) 0
  refine ⟨.int .i64 8,by simp [results,Tryz.results11,go_sem,hc],by rw [E.out],?_⟩
  exact HB.out.grown (grownBy_putObj' W D (.deferred none)) HB.out.size (fun k e => by injection e with e;omega)
end Go.Proofs.YtijkefflpojmhaaGreatDoor

namespace Go.Proofs.YtijkefflpojmhaaGreatDoor
open Go.RowKit
def prS (c:Int) (t:List UInt8):ByteArray:=if c ≠ 0 then ⟨#[]⟩ else if 20000 < t.length then ⟨#[]⟩ else ⟨t.toArray⟩
def prE (c:Int) (t:List UInt8):Int:=if c ≠ 0 then c else if 20000 < t.length then 4 else 0
def PrP (w:World) (s:ByteArray) (v:Int) (e:Ending) (w':World):Prop:=e = .returned (.tuple #[.string s,.int .i64 v])∧Below w.heap.size w w'
end Go.Proofs.YtijkefflpojmhaaGreatDoor

namespace Go.Proofs.YtijkefflpojmhaaGreatDoor
open Go.RowKit
theorem chkC_form {x:Ct} (h:chkC x=0):formX x=true:=by
 unfold chkC at h
 split at h
 ·cases h
 ·split at h
  ·assumption
  ·cases h
theorem rcT_ne {n:Nat} {x:Ct} (h:OkC n x):rcT n x ≠ []:=by
 match n,h with
 | n+1,h =>
 intro e
 rw [rcT] at e
 by_cases h1:x.kind=1
 ·rw [if_pos h1] at e;cases e
 rw [if_neg h1] at e
 by_cases h2:x.kind=2
 ·rw [if_pos h2] at e
  have:=congrArg List.length e
  unfold payT at this
  simp at this
 rw [if_neg h2] at e
 split at e
 ·have:=congrArg List.length e;simp at this
 ·split at e
  ·have:=congrArg List.length e;simp at this
  ·have:=congrArg List.length e;simp at this
set_option maxHeartbeats 2000000 in
set_option maxRecDepth 100000 in
theorem rcprint_any (n:Nat) (x:Ct) (cs:List Value) (w Wg:World) (h:CtIn n x cs w Wg):Calls Tryz.prog 7 #[.agg cs.toArray] w (PrP w (prS (chkC x) (rcT n x)) (prE (chkC x) (rcT n x))):=by
 have hsh:=h.at_.shape
 obtain ⟨ea,el,ec,da,dl,dc,a,len,cap,rfl,_⟩:=hsh
 show Calls Tryz.prog 7 #[.agg #[.int .u8 x.kind,.string x.frm,.string x.too,.string x.name,.int .u8 x.expr.kind,.string x.expr.rat,.string x.expr.name,.int .i64 x.expr.date,.slice ea el ec,.int .i64 x.date,.slice da dl dc,.slice a len cap]] w _
 obtain ⟨W0,hW0⟩:∃ W0,W0=w.alloc (.cells #[.int .u8 x.kind,.string x.frm,.string x.too,.string x.name,.int .u8 x.expr.kind,.string x.expr.rat,.string x.expr.name,.int .i64 x.expr.date,.slice ea el ec,.int .i64 x.date,.slice da dl dc,.slice a len cap] 29):=⟨_,rfl⟩
 have hB0:Below w.heap.size w W0:=by rw [hW0];exact own_below w _
 have hbx:W0.heap[w.heap.size]? = some (.cells #[.int .u8 x.kind,.string x.frm,.string x.too,.string x.name,.int .u8 x.expr.kind,.string x.expr.rat,.string x.expr.name,.int .i64 x.expr.date,.slice ea el ec,.int .i64 x.date,.slice da dl dc,.slice a len cap] 29):=by rw [hW0];exact heap_alloc_new w _
 have h0:=h.below hB0
 have HCK:Hid (Calls Tryz.prog 15 #[.agg #[.int .u8 x.kind,.string x.frm,.string x.too,.string x.name,.int .u8 x.expr.kind,.string x.expr.rat,.string x.expr.name,.int .i64 x.expr.date,.slice ea el ec,.int .i64 x.date,.slice da dl dc,.slice a len cap]] W0 (IntP W0 (chkC x))):=rcchk_any n x _ W0 Wg h0
 have HCC:Hid (∀ W,Below W0.heap.size W0 W→_):=fun W hW => ctBox ((hW.block _ (Array.getElem?_eq_some_iff.1 hbx).1).trans hbx)
 have HEX:Hid (chkC x=0 → ∀ W,Below W0.heap.size W0 W→Calls Tryz.prog 16 #[.agg #[.int .u8 x.kind,.string x.frm,.string x.too,.string x.name,.int .u8 x.expr.kind,.string x.expr.rat,.string x.expr.name,.int .i64 x.expr.date,.slice ea el ec,.int .i64 x.date,.slice da dl dc,.slice a len cap]] W (RxP W (rcT n x))):=fun hc W hW => by
  obtain ⟨d,_,hd⟩:=h.small
  exact rcontr_all n x _ W d (CtAt.below hW h0.at_) (okc_of n h.at_ hd (chkC_form hc)) hd h.size
 obtain ⟨c,hc⟩:∃ c,c=chkC x:=⟨_,rfl⟩
 rw [← hc] at HCK HEX ⊢
 obtain ⟨t,ht⟩:∃ t,t=rcT n x:=⟨_,rfl⟩
 rw [← ht] at HEX ⊢
 obtain ⟨S,hS⟩:∃ S,S=prS c t:=⟨_,rfl⟩
 obtain ⟨V,hV⟩:∃ V,V=prE c t:=⟨_,rfl⟩
 rw [← hS,← hV]
 have HS:=Lib.hid hS
 have HV:=Lib.hid hV
 have HW0:=Lib.hid hW0
 have HB0:=Lib.hid hB0
 obtain ⟨c0,c1,c2,c3,c4,c5,c6,c7,c8,c9,ca,cb⟩:=HCC.out W0 (Below.refl _ _)
 clear hS hV hW0 hB0 hbx h0 h hc ht
 by_cases hc0:c=0
 ·subst hc0
  have HE0:=Lib.hid (HEX.out rfl)
  obtain ⟨tb,htb⟩:∃ tb:ByteArray,tb=⟨t.toArray⟩:=⟨_,rfl⟩
  have htz:tb.size=t.length:=by rw [htb];rfl
  have HTB:=Lib.hid htb
  clear htb HEX
  by_cases hl:20000 < tb.size
  ·have HS2:Hid (S=⟨#[]⟩):=by show S=_;rw [HS.out];simp [prS,← htz,hl]
   have HV2:Hid (V=4):=by show V=_;rw [HV.out];simp [prE,← htz,hl]
   clear htz
   go_enter Tryz.func7,Tryz.ntmps7
   go_wp2_with fail
   rw [← HW0.out]
   refine HCK.out.mono ?_
   rintro e w1 ⟨rfl,hb⟩
   have HB1:=Lib.hid hb
   clear hb c0 c1 c2 c3 c4 c5 c6 c7 c8 c9 ca cb
   obtain ⟨c0,c1,c2,c3,c4,c5,c6,c7,c8,c9,ca,cb⟩:=HCC.out w1 HB1.out
   go_wp2_with fail
   refine (HE0.out _ HB1.out).mono ?_
   rintro e w2 ⟨rfl,hb⟩
   have HB:=Lib.hid (HB0.out.trans ((HB1.out.trans (hb.mono HB1.out.size)).mono HB0.out.size))
   clear hb c0 c1 c2 c3 c4 c5 c6 c7 c8 c9 ca cb
   rw [← HTB.out]
   go_wp2_with fail
   go_ret2
   exact ⟨by rw [HS2.out,HV2.out];rfl,HB.out⟩
  ·have HS2:Hid (S=tb):=by show S=_;rw [HS.out,HTB.out];simp only [prS];rw [if_neg (by simp),if_neg (by omega)]
   have HV2:Hid (V=0):=by show V=_;rw [HV.out];simp only [prE];rw [if_neg (by simp),if_neg (by omega)]
   clear htz
   go_enter Tryz.func7,Tryz.ntmps7
   go_wp2_with fail
   rw [← HW0.out]
   refine HCK.out.mono ?_
   rintro e w1 ⟨rfl,hb⟩
   have HB1:=Lib.hid hb
   clear hb c0 c1 c2 c3 c4 c5 c6 c7 c8 c9 ca cb
   obtain ⟨c0,c1,c2,c3,c4,c5,c6,c7,c8,c9,ca,cb⟩:=HCC.out w1 HB1.out
   go_wp2_with fail
   refine (HE0.out _ HB1.out).mono ?_
   rintro e w2 ⟨rfl,hb⟩
   have HB:=Lib.hid (HB0.out.trans ((HB1.out.trans (hb.mono HB1.out.size)).mono HB0.out.size))
   clear hb c0 c1 c2 c3 c4 c5 c6 c7 c8 c9 ca cb
   rw [← HTB.out]
   go_wp2_with fail
   go_ret2
   exact ⟨by rw [HS2.out,HV2.out];rfl,HB.out⟩
 ·have q:((c:Int) != 0)=true:=ine_true hc0
  have HS2:Hid (S=⟨#[]⟩):=by show S=_;rw [HS.out];simp [prS,hc0]
  have HV2:Hid (V=c):=by show V=_;rw [HV.out];simp [prE,hc0]
  clear hc0
  go_enter Tryz.func7,Tryz.ntmps7
  go_wp2_with fail
  rw [← HW0.out]
  refine HCK.out.mono ?_
  rintro e w1 ⟨rfl,hb⟩
  have HB:=Lib.hid (HB0.out.trans (hb.mono HB0.out.size))
  clear hb
  go_wp2_with fail
  go_ret2
  exact ⟨by rw [HS2.out,HV2.out];rfl,HB.out⟩
set_option maxHeartbeats 2000000 in
set_option maxRecDepth 100000 in
theorem pcprint_any (n:Nat) (x:Ct) (cs:List Value) (w Wg:World) (hpt:PtsAt Wg) (h:CtIn n x cs w Wg):Calls Tryz.prog 6 #[.agg cs.toArray] w (PrP w (prS (chkC x) (rcT n x)) (prE (chkC x) (rcT n x))):=by
 have hsh:=h.at_.shape
 obtain ⟨ea,el,ec,da,dl,dc,a,len,cap,rfl,_⟩:=hsh
 show Calls Tryz.prog 6 #[.agg #[.int .u8 x.kind,.string x.frm,.string x.too,.string x.name,.int .u8 x.expr.kind,.string x.expr.rat,.string x.expr.name,.int .i64 x.expr.date,.slice ea el ec,.int .i64 x.date,.slice da dl dc,.slice a len cap]] w _
 obtain ⟨W0,hW0⟩:∃ W0,W0=w.alloc (.cells #[.int .u8 x.kind,.string x.frm,.string x.too,.string x.name,.int .u8 x.expr.kind,.string x.expr.rat,.string x.expr.name,.int .i64 x.expr.date,.slice ea el ec,.int .i64 x.date,.slice da dl dc,.slice a len cap] 29):=⟨_,rfl⟩
 have hB0:Below w.heap.size w W0:=by rw [hW0];exact own_below w _
 have hbx:W0.heap[w.heap.size]? = some (.cells #[.int .u8 x.kind,.string x.frm,.string x.too,.string x.name,.int .u8 x.expr.kind,.string x.expr.rat,.string x.expr.name,.int .i64 x.expr.date,.slice ea el ec,.int .i64 x.date,.slice da dl dc,.slice a len cap] 29):=by rw [hW0];exact heap_alloc_new w _
 have h0:=h.below hB0
 have HCK:Hid (Calls Tryz.prog 11 #[.agg #[.int .u8 x.kind,.string x.frm,.string x.too,.string x.name,.int .u8 x.expr.kind,.string x.expr.rat,.string x.expr.name,.int .i64 x.expr.date,.slice ea el ec,.int .i64 x.date,.slice da dl dc,.slice a len cap]] W0 (IntP W0 (chkC x))):=pcchk_any n x _ W0 Wg hpt h0
 have HCC:Hid (∀ W,Below W0.heap.size W0 W→_):=fun W hW => ctBox ((hW.block _ (Array.getElem?_eq_some_iff.1 hbx).1).trans hbx)
 have HOK:Hid (chkC x=0→OkC n x∧rcT n x ≠ []∧(rcT n x).length≤20000000):=fun hc => by
  obtain ⟨d,_,hd⟩:=h.small
  have hok:=okc_of n h.at_ hd (chkC_form hc)
  exact ⟨hok,rcT_ne hok,(rcT_small hok hd h.size).1⟩
 have HPT:Hid (OkC n x→pcT n x 0=rcT n x):=fun hok => by rw [pc_rc n x 0 hok,Nat.mul_zero,ind_zero]
 have hz9:=h.size
 have HAT:=Lib.hid h.at_
 obtain ⟨c,hc⟩:∃ c,c=chkC x:=⟨_,rfl⟩
 rw [← hc] at HCK HOK ⊢
 obtain ⟨t,ht⟩:∃ t,t=rcT n x:=⟨_,rfl⟩
 have HTT:=Lib.hid ht
 rw [← ht] at HOK ⊢
 obtain ⟨S,hS⟩:∃ S,S=prS c t:=⟨_,rfl⟩
 obtain ⟨V,hV⟩:∃ V,V=prE c t:=⟨_,rfl⟩
 rw [← hS,← hV]
 have HS:=Lib.hid hS
 have HV:=Lib.hid hV
 have HW0:=Lib.hid hW0
 have HB0:=Lib.hid hB0
 have hzW:w.heap.size < W0.heap.size:=(Array.getElem?_eq_some_iff.1 hbx).1
 obtain ⟨c0,c1,c2,c3,c4,c5,c6,c7,c8,c9,ca,cb⟩:=HCC.out W0 (Below.refl _ _)
 clear hS hV hW0 hB0 hbx h0 h hc ht
 by_cases hc0:c=0
 ·subst hc0
  obtain ⟨hok,hne,htl⟩:=HOK.out rfl
  have HOX:=Lib.hid hok
  have HNE:=Lib.hid hne
  clear hok hne HOK
  go_enter Tryz.func6,Tryz.ntmps6
  go_wp2_with fail
  rw [← HW0.out]
  refine HCK.out.mono ?_
  rintro e w1 ⟨rfl,hb⟩
  have HB1:=Lib.hid hb
  clear hb c0 c1 c2 c3 c4 c5 c6 c7 c8 c9 ca cb
  go_wp2_with fail
  refine (words_any w1).mono ?_
  rintro e w2 ⟨m,rfl,hwd,hb,bm,rfl,hbm⟩
  have HB2:=Lib.hid (HB1.out.trans (hb.mono HB1.out.size))
  have HBM:Hid (∃ o,w2.heap[bm]? = some o):=by obtain ⟨_,hq,hh⟩:=hwd;injection hq with hq;injection hq with hq;subst hq;exact ⟨_,hh⟩
  obtain ⟨w3,hw3⟩:∃ w3,w3=w2.alloc (.cells #[.pointer none,.slice none 0 0,.map (some bm)] 49):=⟨_,rfl⟩
  have hob:w3.heap[w2.heap.size]? = some (.cells #[.pointer none,.slice none 0 0,.map (some bm)] 49):=by rw [hw3];exact heap_alloc_new w2 _
  have hB3:Below w2.heap.size w2 w3:=by rw [hw3];exact own_below w2 _
  have hB03:=HB2.out.trans (hB3.mono HB2.out.size)
  have hEN:OutEnv w w2.heap.size w2.heap.size (.map (some bm)) [] w3 :=
   ⟨Nat.le_trans HB0.out.size HB2.out.size,HB0.out.trans (hB03.mono HB0.out.size),.inl ⟨Nat.le_refl _,.slice none 0 0,hob,by simpa [Lib.byteCells] using World.ownsRowF_nil w3 w2.heap.size 5 1,by simp [Value.ownBlock]⟩,hwd.below hB3,hB3.size⟩
  have HX:=Lib.hid (contr_all w w2.heap.size w2.heap.size (.map (some bm)) n x _ 0 [] w3 HAT.out HOX.out (by omega) hEN (by rw [HPT.out HOX.out,← HTT.out];simp;omega))
  rw [HPT.out HOX.out,← HTT.out,List.nil_append] at HX
  obtain ⟨c0,c1,c2,c3,c4,c5,c6,c7,c8,c9,ca,cb⟩:=HCC.out w2 HB2.out
  have hz2:w.heap.size < w2.heap.size:=Nat.lt_of_lt_of_le hzW HB2.out.size
  have HEN:=Lib.hid hEN
  have HW3:=Lib.hid hw3
  clear hb hwd hbm hob hB3 hB03 hEN hw3
  go_wp2_with fail
  rw [← HW3.out]
  refine HX.out.mono ?_
  rintro e w4 ⟨rfl,hio,hok⟩
  have HT:=Lib.hid (otext_any w2.heap.size w2.heap.size _ t w4 hio HNE.out (by omega))
  have HB4:Hid (Below w.heap.size w w4):=HEN.out.old.trans (hok.1.mono HEN.out.base)
  have HBS:=Lib.hid HEN.out.base
  clear hio hok c0 c1 c2 c3 c4 c5 c6 c7 c8 c9 ca cb
  unfold TxP at HT
  by_cases hl:20000 < t.length
  ·have HS2:Hid (S=⟨#[]⟩):=by show S=_;rw [HS.out];simp [prS,hl]
   have HV2:Hid (V=4):=by show V=_;rw [HV.out];simp [prE,hl]
   rw [if_pos hl] at HT
   go_wp2_with fail
   refine HT.out.mono ?_
   rintro e w5 ⟨rfl,hb⟩
   have HB:=Lib.hid (HB4.out.trans (hb.mono HBS.out))
   clear hb
   go_wp2_with fail
   go_ret2
   exact ⟨by rw [HS2.out,HV2.out];rfl,HB.out⟩
  ·have HS2:Hid (S=⟨t.toArray⟩):=by show S=_;rw [HS.out];simp only [prS];rw [if_neg (by simp),if_neg hl]
   have HV2:Hid (V=0):=by show V=_;rw [HV.out];simp only [prE];rw [if_neg (by simp),if_neg hl]
   rw [if_neg hl] at HT
   go_wp2_with fail
   refine HT.out.mono ?_
   rintro e w5 ⟨rfl,hb⟩
   have HB:=Lib.hid (HB4.out.trans (hb.mono HBS.out))
   clear hb
   go_wp2_with fail
   go_ret2
   exact ⟨by rw [HS2.out,HV2.out];rfl,HB.out⟩
 ·have q:((c:Int) != 0)=true:=ine_true hc0
  have HS2:Hid (S=⟨#[]⟩):=by show S=_;rw [HS.out];simp [prS,hc0]
  have HV2:Hid (V=c):=by show V=_;rw [HV.out];simp [prE,hc0]
  clear hc0 HOK
  go_enter Tryz.func6,Tryz.ntmps6
  go_wp2_with fail
  rw [← HW0.out]
  refine HCK.out.mono ?_
  rintro e w1 ⟨rfl,hb⟩
  have HB:=Lib.hid (HB0.out.trans (hb.mono HB0.out.size))
  clear hb
  go_wp2_with fail
  go_ret2
  exact ⟨by rw [HS2.out,HV2.out];rfl,HB.out⟩
end Go.Proofs.YtijkefflpojmhaaGreatDoor

namespace Go.Proofs.YtijkefflpojmhaaGreatDoor
open Go.RowKit
set_option maxHeartbeats 4000000 in
set_option maxRecDepth 100000 in
theorem ctwin_any:∀ (n:Nat) (x:Ct) (cs:List Value) (w:World),CtAt n w cs x→x.size≤1000→(∃ d,CSm d x)→Calls Tryz.prog 5 #[.agg cs.toArray] w (CTwP n x w):=by
 intro n
 induction n with
 | zero => intro x cs w h;exact h.elim
 | succ n ih =>
  intro x cs w h hz hsm
  obtain ⟨ea,el,ec,da,dl,dc,a,len,cap,rfl,hex,hds,hlen,hsub⟩:=h
  have hsl:=x.sub_len
  have hlb:len≤1000:=by omega
  have hxz:=x.expr_size
  have hexz:x.expr.size≤1000:=by omega
  have hdz:dl≤1000:=by
   obtain ⟨d,hd⟩:=hsm
   match d,hd with
   | d+1,⟨h,_,_⟩ => have:=hds.1;omega
  have HSM:Hid (∀ y ∈ x.sub,∃ d,CSm d y):=fun y hy => by
   obtain ⟨d,hd⟩:=hsm
   match d,hd with
   | d+1,⟨_,_,h⟩ => exact ⟨d,h y hy⟩
  obtain ⟨i0,hi,hz0,hz1,hz2⟩:=info_parts infoCt
  have HI:=Lib.hid ih
  have HS:=Lib.hid hsub
  have HLEN:=Lib.hid hlen
  have HZ:=Lib.hid hz
  have HEX:=Lib.hid hex
  have HDS:=Lib.hid hds
  have HI0:=Lib.hid hi
  have HI1:=Lib.hid hz0
  have HI2:=Lib.hid hz1
  have HI3:=Lib.hid hz2
  clear ih hsub hlen hz hsl hi hz0 hz1 hz2 hex hds hsm hxz
  show Calls Tryz.prog 5 #[.agg #[.int .u8 x.kind,.string x.frm,.string x.too,.string x.name,.int .u8 x.expr.kind,.string x.expr.rat,.string x.expr.name,.int .i64 x.expr.date,.slice ea el ec,.int .i64 x.date,.slice da dl dc,.slice a len cap]] w _
  go_enter Tryz.func5,Tryz.ntmps5
  go_wp2_with fail
  obtain ⟨B,hBB⟩:∃ B,B=w.heap.size:=⟨_,rfl⟩
  obtain ⟨W0,hW0⟩:∃ W0,W0=((w.alloc (.cells #[.int .u8 x.kind,.string x.frm,.string x.too,.string x.name,.int .u8 x.expr.kind,.string x.expr.rat,.string x.expr.name,.int .i64 x.expr.date,.slice ea el ec,.int .i64 x.date,.slice da dl dc,.slice a len cap] 29)).alloc (.cells zeroCtCells 29)).alloc (.cells #[.int .u8 x.kind,.string x.frm,.string x.too,.string x.name,.int .u8 0,.string ⟨#[]⟩,.string ⟨#[]⟩,.int .i64 0,.slice none 0 0,.int .i64 x.date,.slice none 0 0,.slice none 0 0] 29):=⟨_,rfl⟩
  have hT:=three_blocks w (.cells #[.int .u8 x.kind,.string x.frm,.string x.too,.string x.name,.int .u8 x.expr.kind,.string x.expr.rat,.string x.expr.name,.int .i64 x.expr.date,.slice ea el ec,.int .i64 x.date,.slice da dl dc,.slice a len cap] 29) (.cells zeroCtCells 29) (.cells #[.int .u8 x.kind,.string x.frm,.string x.too,.string x.name,.int .u8 0,.string ⟨#[]⟩,.string ⟨#[]⟩,.int .i64 0,.slice none 0 0,.int .i64 x.date,.slice none 0 0,.slice none 0 0] 29)
  rw [← hW0,← hBB] at hT
  have hz0:W0.heap.size=B+3:=by rw [hW0,hBB];simp
  have hB0:Below B w W0:=by rw [hW0,hBB];exact ((own_below w _).alloc (by simp) _).alloc (by simp;omega) _
  have HCX:=Lib.hid (twin_any (n+1) x.expr [.int .u8 x.expr.kind,.string x.expr.rat,.string x.expr.name,.int .i64 x.expr.date,.slice ea el ec] W0 (ExAt.below (by rw [← hBB];exact hB0) HEX.out) hexz)
  unfold zeroCtCells at hW0
  rw [← hW0]
  rw [← hBB]
  have HT:=Lib.hid hT
  have HB0:=Lib.hid hB0
  have HBB:=Lib.hid hBB
  clear hT hB0 hW0 hBB
  refine HCX.out.mono ?_
  rintro e u ⟨ea2,el2,ec2,rfl,hx,hb⟩
  have hus:B+3≤u.heap.size:=by rw [← hz0];exact hb.size
  have hu0:=(hb.block B (by omega)).trans HT.out.1
  have hu1:=(hb.block (B+1) (by omega)).trans HT.out.2.1
  have hu2:=(hb.block (B+1+1) (by omega)).trans HT.out.2.2
  have HU0:=Lib.hid hu0
  have HU1:=Lib.hid hu1
  have HU2:=Lib.hid hu2
  have HBu:=Lib.hid (HB0.out.trans (hb.mono (show B≤W0.heap.size by omega)))
  have HXu:=Lib.hid (ExOn.mono (S':=fun g => B+3≤g∧g < u.heap.size) (fun g h => by rw [hz0] at h;exact h) hx)
  obtain ⟨c0,c1,c2,c3,c4,c5,c6,c7,c8,c9,ca,cb⟩:=ctBox HU0.out
  obtain ⟨o0,o1,o2,o3,o4,o5,o6,o7,o8,o9,oa,ob⟩:=ctBox HU2.out
  have fr:∀ i,u.frozen? ⟨B+1+1,i,none⟩=false:=Lib.frozen_of_heap HU2.out
  have z0:B < u.heap.size:=by omega
  have z2:B+1+1 < u.heap.size:=by omega
  clear hx hb hu0 hu1 hu2 HCX c0 c1 c2 c3 c4 c5 c6 c7 c8 c9 cb o0 o1 o2 o3 o9 ob
  go_wp2_with (at_builtin;go_loud (refine wpList_append_days (b:=u.heap.size) (da:=da) (dl:=dl) (dc:=dc) (l:=x.dates) (by rfl) (.tmp 20) (.tmp 22) (by rfl) (by rfl) (by rfl) (by rfl) ?c1 ?c2 hdz ?_))
  case c1 => exact (ct_mid1 hus HBu.out).1
  case c2 =>
   refine HDS.out.below ?_
   have:=(ct_mid1 (x:=x) (ea2:=ea2) (el2:=el2) (ec2:=ec2) hus HBu.out).2
   rw [← HBB.out]
   exact this
  intro da2 dc2 W hdon hbw
  have hm:=ct_mid HU2.out hus hbw
  obtain ⟨V,hV,hT,hbV,hxV,hdV⟩:=ct_begin (dc2:=dc2) HU0.out HU1.out HU2.out hus HBu.out HXu.out hdon hbw
  have o10:=exCell hm 10
  have frW:=Lib.frozen_of_heap hm 10
  have HT:=Lib.hid hT
  have HV:=Lib.hid hV
  have HBV:=Lib.hid hbV
  have HXV:=Lib.hid hxV
  have HDV:=Lib.hid hdV
  clear ca o4 o5 o6 o7 o8 oa fr hm hT hV hbV hxV hdV hdon hbw
  go_wp2_with fail
  rw [← HV.out]
  obtain ⟨D,hD⟩:∃ D,D=V.heap.size:=⟨_,rfl⟩
  have hD3:B+3≤D:=by rw [hD];exact HT.out.2.2.2
  have HVD:=Lib.hid hD.symm
  clear HV hD HU0 HU1 HU2 HBu HXu
  go_loopw [4] (fun iv wr => ∃ (k:Nat) (v:Value) (xs:List Value),k≤len∧iv = .int .i64 (k:Int)∧CTwB x B ea el ec da dl dc a len cap ea2 el2 ec2 da2 dl dc2 v wr∧CTwR n D x.sub k v xs wr∧Below B w wr∧D≤wr.heap.size∧Hid (∀ q,B+3≤q→q < D→wr.heap[q]? = V.heap[q]?)) (fun iv _ => len - (intOf iv).toNat)
  case atStart => exact ⟨0,.slice none 0 0,[],Nat.zero_le _,rfl,HT.out,CTwR.nil _ _ _ _,HBV.out,by rw [HVD.out];exact Nat.le_refl _,Lib.hid fun _ _ _ => rfl⟩
  case round =>
   obtain ⟨w1,rfl⟩:∃ w1:World,w1=wr:=⟨_,rfl⟩
   obtain ⟨k,v,xs,hk,rfl,htb,htr,hb,hDz,HKP⟩:=hrel
   have HTB:=Lib.hid htb
   have HD2:=Lib.hid htb.2.2.1
   have a11:=(ctBox htb.1).2.2.2.2.2.2.2.2.2.2.2
   have o11:=(ctBox htb.2.2.1).2.2.2.2.2.2.2.2.2.2.2
   have HR:=Lib.hid htr
   have HB:=Lib.hid hb
   clear htb htr hb
   by_cases hlt:k < len
   ·have hlt2:k < x.sub.length:=by rw [HLEN.out];exact hlt
    rcases HS.out with h0 | ⟨g,o,ha,hg,hel⟩
    ·omega
    ·subst ha
     have hBw:Below w.heap.size w w1:=by rw [← HBB.out];exact HB.out
     obtain ⟨y,hy,eap,elp,ecp,dap,dlp,dcp,ap,lenp,capp,⟨e0,e1,e2,e3,e4,e5,e6,e7,e8,e9,ea_,eb_⟩,hx1⟩:=CtAt.elem hg hBw hlt2 hel
     have hym:y ∈ x.sub:=by rw [hy];exact List.getElem_mem _
     have hys:=Ct.sub_size hym
     have HC:=Lib.hid (HI.out y _ w1.drew (CtAt.below (Below.refl _ w1).drew (CtAt.below hBw hx1)) (by have:=HZ.out;omega) (HSM.out y hym))
     have HY:=Lib.hid hy
     have hk0:(0:Int)≤(k:Int):=by omega
     have hk1:(k:Int) < (len:Int):=by omega
     have z3:g < w1.heap.size:=Nat.lt_of_lt_of_le hg hBw.size
     clear hx1 hy hym hys hel hBw
     go_wp2_with fail
     go_region_law (first
      | (refine step_append_lies _ (by rfl) (.tmp 33) (.tmp 40) 27 (by rfl) D 29 i0 zeroCt 12 184 Tryz.underlying27 HI0.out HI1.out HI2.out HI3.out rfl (by decide) v k xs (by rfl) HOW.out ⟨u.heap.size,0,none⟩ 1 1 [.int .u8 y.kind,.string y.frm,.string y.too,.string y.name,.int .u8 y.expr.kind,.string y.expr.rat,.string y.expr.name,.int .i64 y.expr.date,.slice eap elp ecp,.int .i64 y.date,.slice dap dlp dcp,.slice ap lenp capp] (by rfl) rfl HNW.out HON.out (by decide) (by unfold maxLen;omega) (by omega) HBS.out _ rfl ?_;intro ga ca w3 hown hgr hat hltg;have HGR:=Lib.hid hgr;have HOWN:=Lib.hid hown;have HAT:=Lib.hid hat;have hd2w:=(hgr.block _ (show B+1+1 < _ by rw [World.size_alloc];omega) (ct_ne HR.out.owns (by omega))).trans ((Below.heap_alloc u _ _ zu).trans HD2u.out);have HD2w:=Lib.hid hd2w;have o4w:=exCell hd2w 11;have f4w:=Lib.frozen_of_heap hd2w 11;clear hown hgr hat hd2w)
      | (go_simp;go_at_call 5;refine HC.out.mono ?_;rintro e u ⟨eap,elp,ecp,dap,dlp,dcp,ap,lenp,capp,rfl,hx,hb⟩;have HX:=Lib.hid hx;have HBU:=Lib.hid hb;have hd2u:=(hb.block _ (show B+1+1 < w1.heap.size by omega)).trans HD2.out;have HD2u:=Lib.hid hd2u;have o4u:=exCell hd2u 11;have zu:B+1+1 < u.heap.size:=Nat.lt_of_lt_of_le (show B+1+1 < w1.heap.size by omega) hb.size;have HOW:=Lib.hid (ct_own HR.out.owns hb (.cells #[.int .u8 y.kind,.string y.frm,.string y.too,.string y.name,.int .u8 y.expr.kind,.string y.expr.rat,.string y.expr.name,.int .i64 y.expr.date,.slice eap elp ecp,.int .i64 y.date,.slice dap dlp dcp,.slice ap lenp capp] 29));have HNW:=Lib.hid (World.news_of_block (heap_alloc_new u (.cells #[.int .u8 y.kind,.string y.frm,.string y.too,.string y.name,.int .u8 y.expr.kind,.string y.expr.rat,.string y.expr.name,.int .i64 y.expr.date,.slice eap elp ecp,.int .i64 y.date,.slice dap dlp dcp,.slice ap lenp capp] 29)));have HON:=Lib.hid (one_twelve y eap elp ecp dap dlp dcp ap lenp capp);have HBS:=Lib.hid (show D≤(u.alloc (.cells #[.int .u8 y.kind,.string y.frm,.string y.too,.string y.name,.int .u8 y.expr.kind,.string y.expr.rat,.string y.expr.name,.int .i64 y.expr.date,.slice eap elp ecp,.int .i64 y.date,.slice dap dlp dcp,.slice ap lenp capp] 29)).heap.size by rw [World.size_alloc];have:=hb.size;have e:w1.drew.heap.size=w1.heap.size:=rfl;omega);clear hx hb hd2u))
     all_goals
      have HNEW:=Lib.hid (ct_step HTB.out hD3 hDz HR.out HB.out HBU.out HX.out HGR.out HOWN.out HAT.out hlt2 HY.out)
      have HKP2:Hid _:=Lib.hid (fun q h1 h2 => (HNEW.out.2.2.2.2 q h1 h2).trans (HKP.out q h1 h2))
      clear HX HGR HOWN HAT HOW HNW HON HBS HBU HD2u HD2w HKP
      go_wp2_with fail
      go_roundw
      case rel => exact ⟨k+1,_,_,by omega,by go_num,HNEW.out.1,HNEW.out.2.1,HNEW.out.2.2.1,HNEW.out.2.2.2.1,HKP2⟩
      case measure => simp [intOf] <;> omega
   ·have hke:x.sub.length=k:=by rw [HLEN.out];omega
    obtain ⟨av,lv,cv,rfl,hon⟩:=ct_whole hD3 HVD.out HXV.out HDV.out HKP.out hDz HR.out hke
    obtain ⟨c0,c1,c2,c3,c4,c5,c6,c7,c8,c9,ca,cb⟩:=ctBox HTB.out.2.2.1
    obtain ⟨q0,q1,q2,q3,q4,q5,q6,q7,q8,q9,qa,qb⟩:=ctBox HTB.out.2.1
    have z1:B+1 < w1.heap.size:=by omega
    have fr:∀ i,w1.frozen? ⟨B+1,i,none⟩=false:=Lib.frozen_of_heap HTB.out.2.1
    have HFN:=Lib.hid (ct_end HTB.out.2.1 HB.out hon)
    go_wp2_with fail
    obtain ⟨W',hW',hc,hx,hbw⟩:=HFN.out
    unfold ctStored at hW'
    rw [← hW']
    obtain ⟨d0,d1,d2,d3,d4,d5,d6,d7,d8,d9,da,db⟩:=ctBox hc
    rw [HBB.out] at hx hbw d0 d1 d2 d3 d4 d5 d6 d7 d8 d9 da db
    rw [HBB.out]
    exact bodyPost_ret (v := .agg #[.int .u8 x.kind,.string x.frm,.string x.too,.string x.name,.int .u8 x.expr.kind,.string x.expr.rat,.string x.expr.name,.int .i64 x.expr.date,.slice ea2 el2 ec2,.int .i64 x.date,.slice da2 dl dc2,.slice av lv cv]) (by simp [results,Tryz.results5,go_sem,d0,d1,d2,d3,d4,d5,d6,d7,d8,d9,da,db]) rfl ⟨ea2,el2,ec2,da2,dl,dc2,av,lv,cv,rfl,hx,hbw⟩
end Go.Proofs.YtijkefflpojmhaaGreatDoor

namespace Go.Proofs.YtijkefflpojmhaaGreatDoor
open Go.RowKit
set_option maxHeartbeats 2000000 in
set_option maxRecDepth 100000 in
theorem prints_law (n:Nat) (x:Ct) (cs:List Value) (w:World) (h:CtAt n w cs x) (hk:CKOk n x) (hs:ShpAt w) (hp:PtsAt w) :
  Calls Tryz.prog 3 #[.agg cs.toArray] w (BelB w true):=by
 have hsh:=h.shape
 obtain ⟨ea,el,ec,da,dl,dc,a,len,cap,rfl,_⟩:=hsh
 show Calls Tryz.prog 3 #[.agg #[.int .u8 x.kind,.string x.frm,.string x.too,.string x.name,.int .u8 x.expr.kind,.string x.expr.rat,.string x.expr.name,.int .i64 x.expr.date,.slice ea el ec,.int .i64 x.date,.slice da dl dc,.slice a len cap]] w _
 obtain ⟨W0,hW0⟩:∃ W0,W0=w.alloc (.cells #[.int .u8 x.kind,.string x.frm,.string x.too,.string x.name,.int .u8 x.expr.kind,.string x.expr.rat,.string x.expr.name,.int .i64 x.expr.date,.slice ea el ec,.int .i64 x.date,.slice da dl dc,.slice a len cap] 29):=⟨_,rfl⟩
 have hB0:Below w.heap.size w W0:=by rw [hW0];exact own_below w _
 have hbx:W0.heap[w.heap.size]? = some (.cells #[.int .u8 x.kind,.string x.frm,.string x.too,.string x.name,.int .u8 x.expr.kind,.string x.expr.rat,.string x.expr.name,.int .i64 x.expr.date,.slice ea el ec,.int .i64 x.date,.slice da dl dc,.slice a len cap] 29):=by rw [hW0];exact heap_alloc_new w _
 have HCC:Hid (∀ W,Below W0.heap.size W0 W→_):=fun W hW => ctBox ((hW.block _ (Array.getElem?_eq_some_iff.1 hbx).1).trans hbx)
 have hzW:w.heap.size < W0.heap.size:=(Array.getElem?_eq_some_iff.1 hbx).1
 have HG:=Lib.hid (cgreat_any n x _ W0 (CtAt.below hB0 h))
 have HAT:Hid (∀ W,Below W0.heap.size W0 W→CtAt n W [.int .u8 x.kind,.string x.frm,.string x.too,.string x.name,.int .u8 x.expr.kind,.string x.expr.rat,.string x.expr.name,.int .i64 x.expr.date,.slice ea el ec,.int .i64 x.date,.slice da dl dc,.slice a len cap] x):=fun W hW => CtAt.below (hB0.trans (hW.mono hB0.size)) h
 have HIN:Hid (∀ W,Below W0.heap.size W0 W→x.size≤700→CSm 80 x→CtIn n x [.int .u8 x.kind,.string x.frm,.string x.too,.string x.name,.int .u8 x.expr.kind,.string x.expr.rat,.string x.expr.name,.int .i64 x.expr.date,.slice ea el ec,.int .i64 x.date,.slice da dl dc,.slice a len cap] W w):=fun W hW h1 h2 =>
  ⟨CtAt.below (hB0.trans (hW.mono hB0.size)) h,hk,by omega,⟨80,by omega,h2⟩,hs,hB0.trans (hW.mono hB0.size)⟩
 have HW0:=Lib.hid hW0
 have HB0:=Lib.hid hB0
 obtain ⟨c0,c1,c2,c3,c4,c5,c6,c7,c8,c9,ca,cb⟩:=HCC.out W0 (Below.refl _ _)
 have HPTS:=Lib.hid hp
 clear hW0 hB0 hbx h hk hs hp
 go_enter Tryz.func3,Tryz.ntmps3
 go_wp2_with fail
 rw [← HW0.out]
 refine HG.out.mono ?_
 rintro e w1 ⟨he,hb⟩
 have HB1:=Lib.hid hb
 clear hb c0 c1 c2 c3 c4 c5 c6 c7 c8 c9 ca cb
 rcases he with rfl | ⟨rfl,h7,h80⟩
 ·have HF:=Lib.hid (HB0.out.trans (HB1.out.mono HB0.out.size))
  go_wp2_with fail
  go_ret
  exact ⟨rfl,HF.out⟩
 obtain ⟨c0,c1,c2,c3,c4,c5,c6,c7,c8,c9,ca,cb⟩:=HCC.out w1 HB1.out
 have HSM:Hid (x.size≤700∧CSm 80 x):=⟨h7,h80⟩
 have HTW:=Lib.hid (ctwin_any n x _ w1 (HAT.out w1 HB1.out) (by omega) ⟨80,h80⟩)
 clear h7 h80
 go_wp2_with fail
 refine HTW.out.mono ?_
 rintro e w2 ⟨eaz,elz,ecz,daz,dlz,dcz,az,lenz,capz,rfl,hon,hb⟩
 have HB2:=Lib.hid (HB1.out.trans (hb.mono HB1.out.size))
 have hat2:CtAt n w2 [.int .u8 x.kind,.string x.frm,.string x.too,.string x.name,.int .u8 x.expr.kind,.string x.expr.rat,.string x.expr.name,.int .i64 x.expr.date,.slice eaz elz ecz,.int .i64 x.date,.slice daz dlz dcz,.slice az lenz capz] x:=CtOn.at (fun g hg => hg.2) hon
 obtain ⟨w3,hw3⟩:∃ w3,w3=w2.alloc (.cells #[.int .u8 x.kind,.string x.frm,.string x.too,.string x.name,.int .u8 x.expr.kind,.string x.expr.rat,.string x.expr.name,.int .i64 x.expr.date,.slice eaz elz ecz,.int .i64 x.date,.slice daz dlz dcz,.slice az lenz capz] 29):=⟨_,rfl⟩
 have hB3:Below w2.heap.size w2 w3:=by rw [hw3];exact own_below w2 _
 have htb:w3.heap[w2.heap.size]? = some (.cells #[.int .u8 x.kind,.string x.frm,.string x.too,.string x.name,.int .u8 x.expr.kind,.string x.expr.rat,.string x.expr.name,.int .i64 x.expr.date,.slice eaz elz ecz,.int .i64 x.date,.slice daz dlz dcz,.slice az lenz capz] 29):=by rw [hw3];exact heap_alloc_new w2 _
 have HTC:Hid (∀ W,Below w3.heap.size w3 W→_):=fun W hW => ctBox ((hW.block _ (Array.getElem?_eq_some_iff.1 htb).1).trans htb)
 have HTA:Hid (∀ W,Below w3.heap.size w3 W→CtAt n W [.int .u8 x.kind,.string x.frm,.string x.too,.string x.name,.int .u8 x.expr.kind,.string x.expr.rat,.string x.expr.name,.int .i64 x.expr.date,.slice eaz elz ecz,.int .i64 x.date,.slice daz dlz dcz,.slice az lenz capz] x):=fun W hW => CtAt.below (hB3.trans (hW.mono hB3.size)) hat2
 have HB3:=Lib.hid (HB2.out.trans (hB3.mono HB2.out.size))
 have HPP:=Lib.hid (pcprint_any n x _ w3 w HPTS.out (HIN.out w3 HB3.out HSM.out.1 HSM.out.2))
 have HRP:Hid (∀ W,Below w3.heap.size w3 W→Calls Tryz.prog 7 #[.agg #[.int .u8 x.kind,.string x.frm,.string x.too,.string x.name,.int .u8 x.expr.kind,.string x.expr.rat,.string x.expr.name,.int .i64 x.expr.date,.slice ea el ec,.int .i64 x.date,.slice da dl dc,.slice a len cap]] W (PrP W (prS (chkC x) (rcT n x)) (prE (chkC x) (rcT n x)))):=fun W hW => rcprint_any n x _ W w (HIN.out W (HB3.out.trans (hW.mono HB3.out.size)) HSM.out.1 HSM.out.2)
 obtain ⟨S,hS⟩:∃ S,S=prS (chkC x) (rcT n x):=⟨_,rfl⟩
 obtain ⟨V,hV⟩:∃ V,V=prE (chkC x) (rcT n x):=⟨_,rfl⟩
 rw [← hS,← hV] at HPP HRP
 have HW3:=Lib.hid hw3
 clear hb hon hat2 hw3 hB3 htb hS hV c0 c1 c2 c3 c4 c5 c6 c7 c8 c9 ca cb
 obtain ⟨c0,c1,c2,c3,c4,c5,c6,c7,c8,c9,ca,cb⟩:=HCC.out w2 HB2.out
 have hz2:w.heap.size < w2.heap.size:=Nat.lt_of_lt_of_le hzW HB2.out.size
 go_wp2_with fail
 rw [← HW3.out]
 refine HPP.out.mono ?_
 rintro e w4 ⟨rfl,hb⟩
 have HB4:=Lib.hid hb
 clear hb c0 c1 c2 c3 c4 c5 c6 c7 c8 c9 ca cb
 obtain ⟨c0,c1,c2,c3,c4,c5,c6,c7,c8,c9,ca,cb⟩:=HCC.out w4 (HB3.out.trans (HB4.out.mono HB3.out.size))
 go_wp2_with fail
 refine (HRP.out _ HB4.out).mono ?_
 rintro e w5 ⟨rfl,hb⟩
 have HB5:=Lib.hid (HB4.out.trans (hb.mono HB4.out.size))
 clear hb c0 c1 c2 c3 c4 c5 c6 c7 c8 c9 ca cb
 have HB07:=Lib.hid (HB3.out.trans (HB5.out.mono HB3.out.size))
 obtain ⟨c0,c1,c2,c3,c4,c5,c6,c7,c8,c9,ca,cb⟩:=HCC.out w5 HB07.out
 obtain ⟨d0,d1,d2,d3,d4,d5,d6,d7,d8,d9,da,db⟩:=HTC.out w5 HB5.out
 have HSX:=Lib.hid (csame_any n x _ _ w5 (HAT.out w5 HB07.out) (HTA.out w5 HB5.out) (by have:=HSM.out.1;omega) ⟨80,HSM.out.2⟩)
 go_wp2_with fail
 refine HSX.out.mono ?_
 rintro e w8 ⟨rfl,hb⟩
 have HF:=Lib.hid (HB0.out.trans ((HB07.out.trans (hb.mono HB07.out.size)).mono HB0.out.size))
 clear hb
 go_wp2_with fail
 go_ret
 exact ⟨rfl,HF.out⟩
end Go.Proofs.YtijkefflpojmhaaGreatDoor
