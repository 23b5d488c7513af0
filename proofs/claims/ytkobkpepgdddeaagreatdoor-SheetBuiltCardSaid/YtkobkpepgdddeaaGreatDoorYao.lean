/-
  Too long texts. No condition.
-/
import Derived.Test.YtkobkpepgdddeaaGreatDoorYan
import Derived.Test.YtkobkpepgdddeaaGreatDoorYaa
namespace Go.Proofs.YtkobkpepgdddeaaGreatDoor
open Go.RowKit Go.Shelf
set_option maxHeartbeats 16000000
set_option maxRecDepth 100000
def RdFP{α:Type}(rb cb:Nat)(O:Obj)(CB:Nat→α→World→Prop)(r:Rd α)(W:World)(e:Ending)(W':World):Prop :=
 match r with
 | .ok x l'=>e=.returned (.tuple #[])∧CB W.heap.size x W'∧RAt rb W' l'∧Kp2 rb cb W W'
 | .no l'=>e=zod∧RAt rb W' l'∧Kp2 rb cb W W'∧W'.heap[cb]?=some O
def RdF{α:Type}(F cb:Nat)(O:Obj)(CB:Nat→α→World→Prop)(f:List Tk→Rd α):Prop :=
 ∀(rb:Nat)(W:World)(l:List Tk),RAt rb W l→cb<rb→W.heap[cb]?=some O→l.length≤20000→Calls Tryz.prog F #[.pointer (some ⟨rb,0,none⟩),.pointer (some ⟨cb,0,none⟩)] W (RdFP rb cb O CB (f l) W)
def WhP{α:Type}(w:World)(cb:Nat)(O:Obj)(CB:Nat→α→World→Prop)(f:List Tk→Rd α)(len:Nat)(R:LexR)(e:Ending)(w':World):Prop :=
 match R with
 | .no i er=>e=.returned (.tuple #[.int .i64 (i:Int),.int .i64 er])∧Kp2 cb cb w w'∧w'.heap[cb]?=some O
 | .yes ts=>match f ts with
  | .ok x l=>∃lo,e=.returned (.tuple #[.int .i64 (zga l (len:Int) 0).1,.int .i64 (zga l (len:Int) 0).2])∧w.heap.size≤lo∧CB lo x w'∧Kp2 cb cb w w'
  | .no l=>e=.returned (.tuple #[.int .i64 (zga l (len:Int) 12).1,.int .i64 (zga l (len:Int) 12).2])∧Kp2 cb cb w w'∧w'.heap[cb]?=some O
theorem Kp2.new{a b c:Nat}{w W:World}(h:Kp2 a b w W)(hc:w.heap.size≤c)(v:Value):Kp2 a b w (W.setCell ⟨c,0,none⟩ v) :=
 ⟨h.1,h.2.1,h.2.2.1,by simpa[World.setCell]using h.2.2.2.1,fun k hk h1 h2=>(Below.heap_setCell _ _ _ _ (by show k≠c;omega)).trans (h.2.2.2.2 k hk h1 h2)⟩
theorem Kp2.drew{a b:Nat}{w W:World}(h:Kp2 a b w W):Kp2 a b w W.drew:=h
theorem Kp2.more{a b:Nat}{w W W':World}(h:Kp2 a b w W)(hb:W.grownBy W' none):Kp2 a b w W' :=
 ⟨hb.os.trans h.1,hb.tape.trans h.2.1,hb.output.trans h.2.2.1,Nat.le_trans h.2.2.2.1 hb.size,fun k hk h1 h2=>(hb.block k (Nat.lt_of_lt_of_le hk h.2.2.2.1) (by simp)).trans (h.2.2.2.2 k hk h1 h2)⟩
theorem zg7{c b:Nat}{W:World}{O:Obj}(h:W.heap[c]?=some O)(Z0:c≠b)(v:Value):(W.setCell ⟨b,0,none⟩ v).heap[c]?=some O:=(Below.heap_setCell _ _ _ _ (by show c≠b;exact Z0)).trans h
theorem z7x{rb b c:Nat}{w:World}{l:List Tk}{v x v' x':Int}(h:RAt rb w l)(hb:Boxed w b 3 (.int .i64 v))(hc:Boxed w c 28 (.int .i64 x))(hr:rb≠b)(hrc:rb≠c):RAt rb ((w.setCell ⟨b,0,none⟩ (.int .i64 v')).setCell ⟨c,0,none⟩ (.int .i64 x')) l:=by
 obtain⟨a,cap,hx,h1,h2,ht⟩:=h;refine⟨a,cap,(hx.other hr _).other hrc _,h1,h2,?_⟩
 rcases ht with ht |⟨g,o,ha,Z4,hg,Z5⟩
 ·exact .inl ht
 ·by_cases hl:l=[]
  ·exact .inl hl
  ·have h0:0<l.length:=List.length_pos_iff.2 hl
   have hc0:=Z5 0 h0 0 (by omega);rw[Nat.zero_mul,Nat.add_zero]at hc0;have ng:g≠b:=zmy hb hc0;have nc:g≠c:=zmy hc hc0
   have hk:((w.setCell ⟨b,0,none⟩ (.int .i64 v')).setCell ⟨c,0,none⟩ (.int .i64 x')).heap[g]?=w.heap[g]?:=by
    rw[Below.heap_setCell _ _ _ _ (by show g≠c;exact nc),Below.heap_setCell _ _ _ _ (by show g≠b;exact ng)]
   exact .inr ⟨g,o,ha,Z4,by simpa[World.setCell]using hg,fun i hi j hj=>(World.cell?_of_block (w:=w) (w':=(w.setCell ⟨b,0,none⟩ (.int .i64 v')).setCell ⟨c,0,none⟩ (.int .i64 x')) (a:=⟨g,o+i*5+j,none⟩) hk).trans (Z5 i hi j hj)⟩
theorem yda{α:Type}{w w':World}{cb:Nat}{O:Obj}{CB:Nat→α→World→Prop}{f:List Tk→Rd α}{len:Nat}{ts l:List Tk}{x:α}{e:Ending}(hq:f ts=.ok x l)(h:∃lo,e=.returned (.tuple #[.int .i64 (zga l (len:Int) 0).1,.int .i64 (zga l (len:Int) 0).2])∧w.heap.size≤lo∧CB lo x w'∧Kp2 cb cb w w'):WhP w cb O CB f len (.yes ts) e w':=by
 show(match f ts with | .ok x l=>_ | .no l=>_)
 rw[hq];exact h
theorem ydb{α:Type}{w w':World}{cb:Nat}{O:Obj}{CB:Nat→α→World→Prop}{f:List Tk→Rd α}{len:Nat}{ts l:List Tk}{e:Ending}(hq:f ts=.no l)(h:e=.returned (.tuple #[.int .i64 (zga l (len:Int) 12).1,.int .i64 (zga l (len:Int) 12).2])∧Kp2 cb cb w w'∧w'.heap[cb]?=some O):WhP w cb O CB f len (.yes ts) e w':=by
 show(match f ts with | .ok x l=>_ | .no l=>_)
 rw[hq];exact h
theorem zi4{l:List UInt8}{i:Nat}{e:Int}(h:lexL 0 l=.no i e):e≠0:=by
 obtain⟨p,ts,_,_,ho⟩:=zu6 l.length 0 l (Nat.le_refl _) h;exact ztd ho
theorem zwb{α:Type}(F cb:Nat)(O:Obj)(CB:Nat→α→World→Prop)(f:List Tk→Rd α)(hF:RdF F cb O CB f)(Sf:∀(args:Array Value) (W:World),(callFunc F args).run Tryz.prog W=.ok (.enter F args) W)
 (ZN:∀lo x W W',CB lo x W→W.heap.size≤W'.heap.size→(∀g,(lo≤g∨g=cb)→g<W.heap.size→W'.heap[g]?=W.heap[g]?)→CB lo x W') (s:ByteArray) (w:World) (R:LexR) (V5:∀W,Calls Tryz.prog 43 #[.string s] W (z09 W s.size R)) (Wy:∀i er,R=.no i er→er≠0) (Ys:∀ts,R=.yes ts→ts.length≤20000) (YX:w.heap[cb]?=some O) :
 Calls Tryz.prog 60 #[.string s,.func (.func F) #[] #[.pointer (some ⟨cb,0,none⟩)]] w (WhP w cb O CB f s.size R):=by
 have hmf:∀(fn:Fn)(first cap:Array Value)(w:World),(Instr.makeFunc fn first cap).run Tryz.prog w=.ok (.func fn first cap) w:=fun _ _ _ _=>rfl
 have VX:=(Z8 YX);have HLX:=Z9 V5;have HNO:=Z9 Wy;have HYS:=Z9 Ys;have HF:=Z9 hF;have HST:=Z9 ZN;have HCB:=Z9 YX;clear hF ZN V5 Wy Ys YX;go_enter_defers Tryz.func60,Tryz.ntmps60;go_wp2_with fail;obtain⟨W3,YD⟩:∃W3,W3=((w.alloc (.cells #[.string s] 9)).alloc (.cells #[.int .i64 0] 3)).alloc (.cells #[.int .i64 0] 28):=⟨_,rfl⟩
 have ZJ:Boxed W3 w.heap.size 9 (.string s):=by rw[YD];exact((Boxed.new w _ _).alloc _).alloc _
 have Z3:Boxed W3 (w.heap.size+1) 3 (.int .i64 0):=by
  rw[YD];have:=(Boxed.new (w.alloc (.cells #[.string s] 9)) 3 (.int .i64 0)).alloc (.cells #[.int .i64 0] 28)
  rwa [World.size_alloc]at this
 have Zw:Boxed W3 (w.heap.size+1+1) 28 (.int .i64 0):=by
  rw[YD];have:=Boxed.new ((w.alloc (.cells #[.string s] 9)).alloc (.cells #[.int .i64 0] 3)) 28 (.int .i64 0)
  rwa [World.size_alloc,World.size_alloc]at this
 have V3:Kp2 cb cb w W3:=by rw[YD];exact(((Kp2.refl cb cb w).alloc _).alloc _).alloc _
 have hc3:W3.heap[cb]?=some O:=by rw[YD,Below.heap_alloc _ _ _ (by simp;omega),Below.heap_alloc _ _ _ (by simp;omega),Below.heap_alloc _ _ _ VX];exact HCB.out
 have hz3:W3.heap.size=w.heap.size+1+1+1:=by rw[YD];simp
 rw[←YD];have ZT:=Z9 ZJ;have ZY:=Z9 Z3;have Zx:=Z9 Zw;have HK3:=Z9 V3;have HC3:=Z9 hc3;have HZ3:=Z9 hz3;clear ZJ Z3 Zw V3 hc3 YD hz3;refine(HLX.out W3).mono ?_;rintro e u (⟨i,er,rfl,rfl,hb⟩ |⟨ts,v,rfl,rfl,ZL,hb⟩)
 ·have Z0:=HNO.out i er rfl
  have hg:=zae hb;have t2:=ZY.out.kept hg (by simp);have t3:=Zx.out.kept hg (by simp);have p2:=t2.cell;have q2:=t2.frozen;have p3:=t3.cell;have q3:=t3.frozen;have l2:=t2.lt;have l3:=t3.lt;have Ym:(er != 0)=true:=by simp[Z0]
  have HV:Hid (Boxed ((u.setCell ⟨w.heap.size+1,0,none⟩ (.int .i64 (i:Int))).setCell ⟨w.heap.size+1+1,0,none⟩ (.int .i64 er)) (w.heap.size+1) 3 (.int .i64 (i:Int))∧Boxed ((u.setCell ⟨w.heap.size+1,0,none⟩ (.int .i64 (i:Int))).setCell ⟨w.heap.size+1+1,0,none⟩ (.int .i64 er)) (w.heap.size+1+1) 28 (.int .i64 er) ∧
   Kp2 cb cb w ((u.setCell ⟨w.heap.size+1,0,none⟩ (.int .i64 (i:Int))).setCell ⟨w.heap.size+1+1,0,none⟩ (.int .i64 er))∧((u.setCell ⟨w.heap.size+1,0,none⟩ (.int .i64 (i:Int))).setCell ⟨w.heap.size+1+1,0,none⟩ (.int .i64 er)).heap[cb]?=some O) :=
   Z9 ⟨(t2.set _).other (by omega) _,(t3.other (by omega) _).set _,((HK3.out.more hg).new (by omega) _).new (by omega) _,zg7 (zg7 ((hg.block cb (Z8 HC3.out) (by simp)).trans HC3.out) (by omega) _) (by omega) _⟩
  clear hb hg t2 t3;go_wp2_with fail;obtain⟨V,hV⟩:∃V,V=(u.setCell ⟨w.heap.size+1,0,none⟩ (.int .i64 (i:Int))).setCell ⟨w.heap.size+1+1,0,none⟩ (.int .i64 er):=⟨_,rfl⟩
  rw[←hV]at HV ⊢;obtain⟨v2,v3,vk,vc⟩:=HV.out;have x2:=v2.cell;have y2:=v2.frozen;have x3:=v3.cell;have y3:=v3.frozen;have z2:=v2.lt;have z3:=v3.lt;have HVV:=Z9 (And.intro v2 (And.intro v3 (And.intro vk vc)));clear v2 v3 vk vc HV hV p2 q2 p3 q3 l2 l3;go_region
  all_goals
   go_wp2_with fail;obtain⟨w2,w3,wk,wc⟩:=HVV.out;refine⟨.tuple #[.int .i64 (i:Int),.int .i64 er],?_,rfl,?_,?_⟩
   ·have r2:=(w2.set (.int .i64 (i:Int))).cell
    have r3:=((w3.other (B':=w.heap.size+1) (by omega) (.int .i64 (i:Int))).set (.int .i64 er)).cell;simp only[results,Tryz.results60];simp[go_sem,r2,r3]
   ·first
     |exact((wk.new (by omega) _).new (by omega) _).drew
     |exact(wk.drew.new (by omega) _).new (by omega) _
   ·first
     |exact zg7 (zg7 wc (by omega) _) (by omega) _
     |exact zg7 (zg7 (W:=V.drew) wc (by omega) _) (by omega) _
 ·have hl20:=HYS.out ts rfl
  obtain⟨ta,tc,rfl,htc,V9,WD⟩:=ybe (rb:=u.heap.size) ZL rfl;have hg:=zae hb;have t1:=ZT.out.kept hg (by simp);have t2:=ZY.out.kept hg (by simp);have t3:=Zx.out.kept hg (by simp);have p1:=t1.cell;have p2:=t2.cell;have q2:=t2.frozen;have p3:=t3.cell;have q3:=t3.frozen;have l1:=t1.lt;have l2:=t2.lt;have l3:=t3.lt;have hz3:=HZ3.out;have hgz:=hg.size;obtain⟨W4,WS⟩:∃W4,W4=(u.setCell ⟨w.heap.size+1,0,none⟩ (.int .i64 (s.size:Int))).setCell ⟨w.heap.size+1+1,0,none⟩ (.int .i64 0):=⟨_,rfl⟩
  obtain⟨W5,We⟩:∃W5,W5=(W4.alloc (.cells #[.slice ta ts.length tc] 134)).alloc (.cells #[.pointer (some ⟨u.heap.size,0,none⟩)] 91):=⟨_,rfl⟩
  have s4:W4.heap.size=u.heap.size:=by rw[WS];simp[World.setCell]
  have s5:W5.heap.size=u.heap.size+1+1:=by rw[We];simp[s4]
  have k4:∀g,g≠w.heap.size+1→g≠w.heap.size+1+1→W4.heap[g]?=u.heap[g]?:=fun g h1 h2=>by
   rw[WS,Below.heap_setCell _ _ _ _ (by show g≠w.heap.size+1+1;exact h2),Below.heap_setCell _ _ _ _ (by show g≠w.heap.size+1;exact h1)]
  have k5:∀g,g<u.heap.size→W5.heap[g]?=W4.heap[g]?:=fun g h1=>by
   rw[We,Below.heap_alloc _ _ _ (by simp[s4];omega),Below.heap_alloc _ _ _ (by rw[s4];exact h1)]
  have b5r:Boxed W5 u.heap.size 134 (.slice ta ts.length tc):=by
   have:=(Boxed.new W4 134 (.slice ta ts.length tc)).alloc (.cells #[.pointer (some ⟨u.heap.size,0,none⟩)] 91);rw[s4,←We]at this;exact this
  have b5p:Boxed W5 (u.heap.size+1) 91 (.pointer (some ⟨u.heap.size,0,none⟩)):=by
   have:=Boxed.new (W4.alloc (.cells #[.slice ta ts.length tc] 134)) 91 (.pointer (some ⟨u.heap.size,0,none⟩));rw[World.size_alloc,s4,←We]at this;exact this
  have b5t:Boxed W5 w.heap.size 9 (.string s):=(k5 _ l1).trans ((k4 _ (by omega) (by omega)).trans t1);have b4a:Boxed W4 (w.heap.size+1) 3 (.int .i64 (s.size:Int)):=by rw[WS];exact(t2.set _).other (by omega) _
  have b4e:Boxed W4 (w.heap.size+1+1) 28 (.int .i64 0):=by rw[WS];exact(t3.other (by omega) _).set _
  have b5a:Boxed W5 (w.heap.size+1) 3 (.int .i64 (s.size:Int)):=(k5 _ l2).trans b4a;have b5e:Boxed W5 (w.heap.size+1+1) 28 (.int .i64 0):=(k5 _ l3).trans b4e;have c5:W5.heap[cb]?=some O:=(k5 _ (by omega)).trans ((k4 _ (by omega) (by omega)).trans ((hg.block cb (by omega) (by simp)).trans HC3.out));have r5:RAt u.heap.size W5 ts:=⟨ta,tc,b5r,htc,V9,WD W5 (Nat.le_refl _) (by omega) (fun g h1 h2=>(k5 g h2).trans (k4 g (by omega) (by omega)))⟩
  have o5:Kp2 cb cb w W5:=by
   rw[We,WS];exact((((HK3.out.more hg).new (by omega) _).new (by omega) _).alloc _).alloc _
  have HCALL:=Z9 (HF.out u.heap.size W5 ts r5 (by omega) c5 hl20);have HBX:=Z9 (And.intro b5t (And.intro b5a (And.intro b5e b5p)));have HO5:=Z9 o5;have HS5:=Z9 s5;have HUZ:Hid (w.heap.size+1+1+1≤u.heap.size):=Z9 (by omega);clear hl20 ZL WD htc V9 b5r b5p b5t b4a b4e b5a b5e c5 r5 o5 k4 k5 hb hg t1 t2 t3 s4 s5;go_wp2_with fail;rw[←WS,←We];clear WS We p1 p2 q2 p3 q3 l1 l2 l3;refine HCALL.out.mono ?_
  cases hq:f ts with
  |ok x l' =>
   rintro e u6 ⟨rfl,TH,Vu,V4⟩
   have keep:∀g,g<u.heap.size+1+1→g≠u.heap.size→g≠cb→u6.heap[g]?=W5.heap[g]?:=fun g h1 h2 h3=>V4.2.2.2.2 g (by rw[HS5.out];exact h1) h2 h3
   have huz:=HUZ.out;have b6t:Boxed u6 w.heap.size 9 (.string s):=(keep _ (by omega) (by omega) (by omega)).trans HBX.out.1;have b6a:Boxed u6 (w.heap.size+1) 3 (.int .i64 (s.size:Int)):=(keep _ (by omega) (by omega) (by omega)).trans HBX.out.2.1;have b6e:Boxed u6 (w.heap.size+1+1) 28 (.int .i64 0):=(keep _ (by omega) (by omega) (by omega)).trans HBX.out.2.2.1;have b6p:Boxed u6 (u.heap.size+1) 91 (.pointer (some ⟨u.heap.size,0,none⟩)):=(keep _ (by omega) (by omega) (by omega)).trans HBX.out.2.2.2;have p1:=b6t.cell;have p2:=b6a.cell;have q2:=b6a.frozen;have p3:=b6e.cell;have q3:=b6e.frozen;have l1:=b6t.lt
   have l2:=b6a.lt;have l3:=b6e.lt
   have XG:Hid (ClAt u.heap.size w.heap.size (w.heap.size+1) (w.heap.size+1+1) (u.heap.size+1) s (s.size:Int) 0 ((u6.setCell ⟨w.heap.size+1,0,none⟩ (.int .i64 (s.size:Int))).setCell ⟨w.heap.size+1+1,0,none⟩ (.int .i64 0)) l') :=
    Z9 ⟨(z7x Vu b6a b6e (by omega) (by omega)),(b6t.other (by omega) _).other (by omega) _,(b6a.set _).other (by omega) _,(b6e.other (by omega) _).set _,(b6p.other (by omega) _).other (by omega) _,by omega,by omega,by omega⟩
   have HC6:=Z9 TH;have HK6:=Z9 V4;clear TH Vu V4 keep b6t b6a b6e b6p;go_wp2_with fail;refine leaves_cons (f:=109) (args:=#[.pointer (some ⟨w.heap.size,0,none⟩),.pointer (some ⟨w.heap.size+1,0,none⟩),.pointer (some ⟨w.heap.size+1+1,0,none⟩),.pointer (some ⟨u.heap.size+1,0,none⟩)]) (by simp) (by simp[go_sem]) ?_;refine(z0k XG.out).mono ?_;rintro e u7 w7 ⟨rfl,rfl,h1,h2,h3⟩;have e1:=h1.cell;have e2:=h2.cell
   have k7:∀g,g<u6.heap.size→g≠w.heap.size+1→g≠w.heap.size+1+1→w7.heap[g]?=u6.heap[g]?:=fun g g1 g2 g3=>by
    rw[h3.2.2.2.2 g (by simpa[World.setCell]using g1) g2 g3,Below.heap_setCell _ _ _ _ (by show g≠w.heap.size+1+1;exact g3),Below.heap_setCell _ _ _ _ (by show g≠w.heap.size+1;exact g2)]
   have z7:u6.heap.size≤w7.heap.size:=by have:=h3.2.2.2.1;simpa[World.setCell]using this
   have huz:=HUZ.out;have hs5:=HS5.out;have z6:=HK6.out.2.2.2.1;refine⟨.tuple #[.int .i64 (zga l' (s.size:Int) 0).1,.int .i64 (zga l' (s.size:Int) 0).2],?_,yda hq ⟨W5.heap.size,rfl,by omega,HST.out _ _ _ _ HC6.out z7 (fun g g1 g2=>k7 g g2 (by omega) (by omega)),?_⟩⟩
   ·simp only[results,Tryz.results60]
    simp[go_sem,e1,e2]
   ·refine⟨h3.1.trans (HK6.out.1.trans HO5.out.1),h3.2.1.trans (HK6.out.2.1.trans HO5.out.2.1),h3.2.2.1.trans (HK6.out.2.2.1.trans HO5.out.2.2.1),by have:=HO5.out.2.2.2.1;omega,fun k hk n1 _ => ?_⟩
    rw[k7 k (by omega) (by omega) (by omega),HK6.out.2.2.2.2 k (by omega) (by omega) n1];exact HO5.out.2.2.2.2 k hk n1 n1
  |no l' =>
   rintro e u6 ⟨rfl,Vu,V4,hc6⟩
   have keep:∀g,g<u.heap.size+1+1→g≠u.heap.size→g≠cb→u6.heap[g]?=W5.heap[g]?:=fun g h1 h2 h3=>V4.2.2.2.2 g (by rw[HS5.out];exact h1) h2 h3
   have huz:=HUZ.out;have b6t:Boxed u6 w.heap.size 9 (.string s):=(keep _ (by omega) (by omega) (by omega)).trans HBX.out.1;have b6a:Boxed u6 (w.heap.size+1) 3 (.int .i64 (s.size:Int)):=(keep _ (by omega) (by omega) (by omega)).trans HBX.out.2.1;have b6e:Boxed u6 (w.heap.size+1+1) 28 (.int .i64 0):=(keep _ (by omega) (by omega) (by omega)).trans HBX.out.2.2.1;have b6p:Boxed u6 (u.heap.size+1) 91 (.pointer (some ⟨u.heap.size,0,none⟩)):=(keep _ (by omega) (by omega) (by omega)).trans HBX.out.2.2.2;have XG:Hid (ClAt u.heap.size w.heap.size (w.heap.size+1) (w.heap.size+1+1) (u.heap.size+1) s (s.size:Int) 0 u6 l'):=Z9 ⟨Vu,b6t,b6a,b6e,b6p,by omega,by omega,by omega⟩
   have HC6:=Z9 hc6;have HK6:=Z9 V4;clear Vu V4 hc6 keep b6t b6a b6e b6p;refine leaves_cons (f:=109) (args:=#[.pointer (some ⟨w.heap.size,0,none⟩),.pointer (some ⟨w.heap.size+1,0,none⟩),.pointer (some ⟨w.heap.size+1+1,0,none⟩),.pointer (some ⟨u.heap.size+1,0,none⟩)]) (by simp) (by simp[go_sem]) ?_;refine(z0l [] XG.out).mono ?_;rintro e u7 w7 ⟨rfl,rfl,h1,h2,h3⟩;have e1:=h1.cell;have e2:=h2.cell
   have k7:∀g,g<u6.heap.size→g≠w.heap.size+1→g≠w.heap.size+1+1→w7.heap[g]?=u6.heap[g]?:=fun g g1 g2 g3=>h3.2.2.2.2 g g1 g2 g3
   have z7:u6.heap.size≤w7.heap.size:=h3.2.2.2.1;have hs5:=HS5.out;have z6:=HK6.out.2.2.2.1;refine⟨.tuple #[.int .i64 (zga l' (s.size:Int) 12).1,.int .i64 (zga l' (s.size:Int) 12).2],?_,ydb hq ⟨rfl,?_,?_⟩⟩
   ·simp only[results,Tryz.results60]
    simp[go_sem,e1,e2]
   ·refine⟨h3.1.trans (HK6.out.1.trans HO5.out.1),h3.2.1.trans (HK6.out.2.1.trans HO5.out.2.1),h3.2.2.1.trans (HK6.out.2.2.1.trans HO5.out.2.2.1),by have:=HO5.out.2.2.2.1;omega,fun k hk n1 _ => ?_⟩
    rw[k7 k (by omega) (by omega) (by omega),HK6.out.2.2.2.2 k (by omega) (by omega) n1];exact HO5.out.2.2.2.2 k hk n1 n1
   ·rw[k7 cb (by omega) (by omega) (by omega)];exact HC6.out
theorem zog{α:Type}(F cb:Nat)(O:Obj)(CB:Nat→α→World→Prop)(f:List Tk→Rd α)(hF:RdF F cb O CB f)(Sf:∀(args:Array Value) (W:World),(callFunc F args).run Tryz.prog W=.ok (.enter F args) W)
 (ZN:∀lo x W W',CB lo x W→W.heap.size≤W'.heap.size→(∀g,(lo≤g∨g=cb)→g<W.heap.size→W'.heap[g]?=W.heap[g]?)→CB lo x W') (s:ByteArray) (w:World) (hs:s.size≤20000) (YX:w.heap[cb]?=some O) :
 Calls Tryz.prog 60 #[.string s,.func (.func F) #[] #[.pointer (some ⟨cb,0,none⟩)]] w (WhP w cb O CB f s.size (lexL 0 s.data.toList)) :=
 zwb F cb O CB f hF Sf ZN s w _ (fun W=>zri s W hs) (fun _ _ h=>zi4 h) (fun ts h=>by
  have:=zgn h;rw[zab]at this
  omega) YX
theorem z74{W:World}{cb g o:Nat}{t:Tk}(hO:W.heap[cb]?=some (.cells #[.int .u8 0,.string ⟨#[]⟩,.string ⟨#[]⟩,.string ⟨#[]⟩,.int .u8 0,.string ⟨#[]⟩,.string ⟨#[]⟩,.int .i64 0,.slice none 0 0,.int .i64 0,.slice none 0 0,.slice none 0 0] 40))(h:∀j,j<5→W.cell? ⟨g,o+j,none⟩=(tkC t)[j]?):g≠cb:=fun e=>by
 subst e
 have hc:∀i,W.cell? ⟨g,i,none⟩=(#[.int .u8 0,.string ⟨#[]⟩,.string ⟨#[]⟩,.string ⟨#[]⟩,.int .u8 0,.string ⟨#[]⟩,.string ⟨#[]⟩,.int .i64 0,.slice none 0 0,.int .i64 0,.slice none 0 0,.slice none 0 0]:Array Value)[i]?:=fun i=>by simp[World.cell?,hO]
 have h0:(#[.int .u8 0,.string ⟨#[]⟩,.string ⟨#[]⟩,.string ⟨#[]⟩,.int .u8 0,.string ⟨#[]⟩,.string ⟨#[]⟩,.int .i64 0,.slice none 0 0,.int .i64 0,.slice none 0 0,.slice none 0 0]:Array Value)[o]?=some (.int .u8 t.kind):=(hc o).symm.trans (h 0 (by omega));have h3:(#[.int .u8 0,.string ⟨#[]⟩,.string ⟨#[]⟩,.string ⟨#[]⟩,.int .u8 0,.string ⟨#[]⟩,.string ⟨#[]⟩,.int .i64 0,.slice none 0 0,.int .i64 0,.slice none 0 0,.slice none 0 0]:Array Value)[o+3]?=some (.int .i64 t.date):=(hc (o+3)).symm.trans (h 3 (by omega));have h4:(#[.int .u8 0,.string ⟨#[]⟩,.string ⟨#[]⟩,.string ⟨#[]⟩,.int .u8 0,.string ⟨#[]⟩,.string ⟨#[]⟩,.int .i64 0,.slice none 0 0,.int .i64 0,.slice none 0 0,.slice none 0 0]:Array Value)[o+4]?=some (.int .i64 t.place):=(hc (o+4)).symm.trans (h 4 (by omega))
 match o,h0,h3,h4 with
 |0,_,h3,_=>simp at h3
 |1,h0,_,_=>simp at h0
 |2,h0,_,_=>simp at h0
 |3,h0,_,_=>simp at h0
 |4,_,_,h4=>simp at h4
 |5,h0,_,_=>simp at h0
 |6,h0,_,_=>simp at h0
 |7,h0,_,_=>simp at h0
 |8,h0,_,_=>simp at h0
 |9,h0,_,_=>simp at h0
 |10,h0,_,_=>simp at h0
 |11,h0,_,_=>simp at h0
 |o+12,h0,_,_=>simp at h0
theorem RAt.move{rb cb:Nat}{W W':World}{l:List Tk}(h:RAt rb W l)(Z0:rb≠cb)(hk:∀g,g≠cb→W'.heap[g]?=W.heap[g]?)(hz:W.heap.size≤W'.heap.size)(ht:∀g o t,(∀j,j<5→W.cell? ⟨g,o+j,none⟩=(tkC t)[j]?)→g≠cb):RAt rb W' l:=by
 obtain⟨a,cap,hx,h1,h2,WD⟩:=h;refine⟨a,cap,(hk rb Z0).trans hx,h1,h2,?_⟩
 rcases WD with hn |⟨g,o,ha,Z4,hg,Z5⟩
 ·exact .inl hn
 ·by_cases hl:l=[]
  ·exact .inl hl
  ·have h0:0<l.length:=List.length_pos_iff.2 hl
   have ng:g≠cb:=ht g o l[0] (fun j hj=>by have:=Z5 0 h0 j hj;rwa [Nat.zero_mul,Nat.add_zero]at this);exact .inr ⟨g,o,ha,Z4,Nat.lt_of_lt_of_le hg hz,fun i hi j hj=>(World.cell?_of_block (w:=W) (w':=W') (a:=⟨g,o+i*5+j,none⟩) (hk g ng)).trans (Z5 i hi j hj)⟩
theorem yad{α:Type}{rb cb:Nat}{O:Obj}{CB:Nat→α→World→Prop}{r:Rd α}{x:α}{l:List Tk}{W W':World}{e:Ending}(E:r=.ok x l)(h:e=.returned (.tuple #[])∧CB W.heap.size x W'∧RAt rb W' l∧Kp2 rb cb W W'):RdFP rb cb O CB r W e W':=by rw[E];exact h
theorem yae{α:Type}{rb cb:Nat}{O:Obj}{CB:Nat→α→World→Prop}{r:Rd α}{l:List Tk}{W W':World}{e:Ending}(E:r=.no l)(h:e=zod∧RAt rb W' l∧Kp2 rb cb W W'∧W'.heap[cb]?=some O):RdFP rb cb O CB r W e W':=by rw[E];exact h
def CBc(cb:Nat)(lo:Nat)(x:Ct)(W:World):Prop:=∃n ea el ec da dl dc a len cap,W.heap[cb]?=some (.cells #[.int .u8 x.kind,.string x.frm,.string x.too,.string x.name,.int .u8 x.expr.kind,.string x.expr.rat,.string x.expr.name,.int .i64 x.expr.date,.slice ea el ec,.int .i64 x.date,.slice da dl dc,.slice a len cap] 40)∧CtOn (fun g=>lo≤g∧g<W.heap.size) n W [.int .u8 x.kind,.string x.frm,.string x.too,.string x.name,.int .u8 x.expr.kind,.string x.expr.rat,.string x.expr.name,.int .i64 x.expr.date,.slice ea el ec,.int .i64 x.date,.slice da dl dc,.slice a len cap] x
theorem CBc.stab(cb:Nat):∀lo x W W',CBc cb lo x W→W.heap.size≤W'.heap.size→(∀g,(lo≤g∨g=cb)→g<W.heap.size→W'.heap[g]?=W.heap[g]?)→CBc cb lo x W':=by
 rintro lo x W W' ⟨n,ea,el,ec,da,dl,dc,a,len,cap,hb,hx⟩ hz hk;exact⟨n,ea,el,ec,da,dl,dc,a,len,cap,(hk cb (.inr rfl) (Z8 hb)).trans hb,(hx.keep (w':=W') fun g ⟨g1,g2⟩=>hk g (.inl g1) g2).mono fun g ⟨g1,g2⟩=>⟨g1,by omega⟩⟩
theorem zmm{rb cb:Nat}{W u V:World}(hg:W.grownBy u (some rb))(h1:V.os=u.os)(h2:V.tape=u.tape)(h3:V.output=u.output)(hz:u.heap.size=V.heap.size)(hk:∀g,g≠cb→V.heap[g]?=u.heap[g]?):Kp2 rb cb W V :=
 ⟨h1.trans hg.os,h2.trans hg.tape,h3.trans hg.output,by have:=hg.size;omega,fun k h n1 n2=>(hk k n2).trans (hg.block k h (fun e=>n1 (by injection e)))⟩
theorem zdn(w:World)(a:Addr)(v:Value):(w.setCell a v).os=w.os∧(w.setCell a v).tape=w.tape∧(w.setCell a v).output=w.output:=⟨rfl,rfl,rfl⟩
theorem zkl(u:World)(b:Nat)(v0 v1 v2 v3 v4 v5 v6 v7 v8 v9 va vb:Value):(∀g,g≠b→(zan u b v0 v1 v2 v3 v4 v5 v6 v7 v8 v9 va vb).heap[g]?=u.heap[g]?)∧u.heap.size=(zan u b v0 v1 v2 v3 v4 v5 v6 v7 v8 v9 va vb).heap.size∧(zan u b v0 v1 v2 v3 v4 v5 v6 v7 v8 v9 va vb).os=u.os∧(zan u b v0 v1 v2 v3 v4 v5 v6 v7 v8 v9 va vb).tape=u.tape∧(zan u b v0 v1 v2 v3 v4 v5 v6 v7 v8 v9 va vb).output=u.output:=by
 refine⟨?_,?_,?_⟩
 ·intro g hg
  unfold zan
  iterate 12 rw[Below.heap_setCell _ _ _ _ (by show g≠b;exact hg)]
 ·unfold zan;simp only[World.size_setCell]
 ·unfold zan;simp only[zdn,and_self]
theorem z8t(cb:Nat):RdF 77 cb (.cells #[.int .u8 0,.string ⟨#[]⟩,.string ⟨#[]⟩,.string ⟨#[]⟩,.int .u8 0,.string ⟨#[]⟩,.string ⟨#[]⟩,.int .i64 0,.slice none 0 0,.int .i64 0,.slice none 0 0,.slice none 0 0] 40) (CBc cb) (rdC 20001):=by
 intro rb W l h Z4 hO hl;have HC:=Z9 (z0h rb 20001 (by omega) W l h (by omega));have HO:=Z9 hO;have HLT:=Z9 Z4;clear h Z4 hO hl;obtain⟨GR,ZX⟩:∃GR,GR=rdC 20001 l:=⟨_,rfl⟩
 rw[←ZX]at HC ⊢;clear ZX;go_enter Tryz.func77,Tryz.ntmps77;go_wp2_with fail;refine HC.out.mono ?_
 cases hq:GR with
 |no l' =>
  rintro e u ⟨rfl,hr,hg⟩;exact⟨rfl,yae rfl ⟨rfl,hr,zmm hg rfl rfl rfl rfl (fun _ _=>rfl),(hg.block cb (Z8 HO.out) (fun e=>by injection e with e;have:=HLT.out;omega)).trans HO.out⟩⟩
 |ok x l' =>
  rintro e u ⟨v,rfl,⟨n,ea,el,ec,da,dl,dc,a,len,cap,hv,hx⟩,hr,hg⟩;change v=.agg #[.int .u8 x.kind,.string x.frm,.string x.too,.string x.name,.int .u8 x.expr.kind,.string x.expr.rat,.string x.expr.name,.int .i64 x.expr.date,.slice ea el ec,.int .i64 x.date,.slice da dl dc,.slice a len cap]at hv;subst hv;have hOu:u.heap[cb]?=some (.cells #[.int .u8 0,.string ⟨#[]⟩,.string ⟨#[]⟩,.string ⟨#[]⟩,.int .u8 0,.string ⟨#[]⟩,.string ⟨#[]⟩,.int .i64 0,.slice none 0 0,.int .i64 0,.slice none 0 0,.slice none 0 0] 40):=(hg.block cb (Z8 HO.out) (fun e=>by injection e with e;have:=HLT.out;omega)).trans HO.out;have Yh:=zkl u cb (.int .u8 x.kind) (.string x.frm) (.string x.too) (.string x.name) (.int .u8 x.expr.kind) (.string x.expr.rat) (.string x.expr.name) (.int .i64 x.expr.date) (.slice ea el ec) (.int .i64 x.date) (.slice da dl dc) (.slice a len cap)
  have Z2:(zan u cb (.int .u8 x.kind) (.string x.frm) (.string x.too) (.string x.name) (.int .u8 x.expr.kind) (.string x.expr.rat) (.string x.expr.name) (.int .i64 x.expr.date) (.slice ea el ec) (.int .i64 x.date) (.slice da dl dc) (.slice a len cap)).heap[cb]?=some (.cells #[.int .u8 x.kind,.string x.frm,.string x.too,.string x.name,.int .u8 x.expr.kind,.string x.expr.rat,.string x.expr.name,.int .i64 x.expr.date,.slice ea el ec,.int .i64 x.date,.slice da dl dc,.slice a len cap] 40):=by simp[zan,World.setCell,Array.getElem?_modify,hOu]
  have VV:RAt rb (zan u cb (.int .u8 x.kind) (.string x.frm) (.string x.too) (.string x.name) (.int .u8 x.expr.kind) (.string x.expr.rat) (.string x.expr.name) (.int .i64 x.expr.date) (.slice ea el ec) (.int .i64 x.date) (.slice da dl dc) (.slice a len cap)) l':=hr.move (cb:=cb) (by have:=HLT.out;omega) Yh.1 (Nat.le_of_eq Yh.2.1) (fun g o t ht=>z74 hOu ht);have WK:cb<W.heap.size:=(Z8 HO.out);have VU:CBc cb W.heap.size x (zan u cb (.int .u8 x.kind) (.string x.frm) (.string x.too) (.string x.name) (.int .u8 x.expr.kind) (.string x.expr.rat) (.string x.expr.name) (.int .i64 x.expr.date) (.slice ea el ec) (.int .i64 x.date) (.slice da dl dc) (.slice a len cap)):=⟨n,ea,el,ec,da,dl,dc,a,len,cap,Z2,(hx.keep (w':=zan u cb (.int .u8 x.kind) (.string x.frm) (.string x.too) (.string x.name) (.int .u8 x.expr.kind) (.string x.expr.rat) (.string x.expr.name) (.int .i64 x.expr.date) (.slice ea el ec) (.int .i64 x.date) (.slice da dl dc) (.slice a len cap)) fun g ⟨g1,_⟩=>Yh.1 g (by omega)).mono fun g ⟨g1,g2⟩=>⟨g1,by rw[←Yh.2.1];exact g2⟩⟩
  have HFIN:=Z9 (And.intro VU (And.intro VV (zmm (V:=zan u cb (.int .u8 x.kind) (.string x.frm) (.string x.too) (.string x.name) (.int .u8 x.expr.kind) (.string x.expr.rat) (.string x.expr.name) (.int .i64 x.expr.date) (.slice ea el ec) (.int .i64 x.date) (.slice da dl dc) (.slice a len cap)) hg Yh.2.2.1 Yh.2.2.2.1 Yh.2.2.2.2 Yh.2.1 Yh.1)));obtain⟨z0,z1,z2,z3,z4,z5,z6,z7,z8,z9,za,zb⟩:=ccs hOu;have fz:∀i,u.frozen? ⟨cb,i,none⟩=false:=Lib.frozen_of_heap hOu
  have zb':=(Z8 hOu);clear hx hr hg Yh Z2 VV VU WK hOu;go_wp2_with fail;go_end0;exact yad hq ⟨rfl,HFIN.out.1,HFIN.out.2.1,HFIN.out.2.2⟩
end Go.Proofs.YtkobkpepgdddeaaGreatDoor
