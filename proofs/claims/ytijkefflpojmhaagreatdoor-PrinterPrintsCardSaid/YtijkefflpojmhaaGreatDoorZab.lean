/-
  The reference's division. No condition. Magnitudes of the program: trim, compare. No condition. Magnitudes of the program: minus, plus. No condition. Magnitudes of the program: times. No condition. Magnitudes of the program: short, guess. No condition. Magnitudes of the program: divide by what is greater, and by one group. No condition. Magnitudes of the program: long division. No condition.
-/
import Derived.Test.YtijkefflpojmhaaGreatDoorZaa
import Derived.Deep.OwnRows
import Derived.Deep.LoopGhost
import Derived.Deep.DeepCutAuto
import Derived.IntWalk
import Derived.RegionTactic
import Derived.Outline
namespace Go.Proofs.YtijkefflpojmhaaGreatDoor
open Go.RowKit
def Rest (w:World) (gq:Nat) (v:Value) (r:List Nat):Prop :=
 (v = .slice none 0 0∧r=[]) ∨
 ∃ g o c,v = .slice (some ⟨g,o,none⟩) r.length c∧1≤r.length∧r.length≤c∧gq < g∧g < w.heap.size ∧ ∀ i,i < r.length→w.cell? ⟨g,o+i,none⟩=some (.int .i64 ((r.getD i 0:Nat):Int))
theorem Rest.read {w:World} {gq:Nat} {v:Value} {r:List Nat} (h:Rest w gq v r):∃ a c,v = .slice a r.length c∧r.length≤c∧Nums .i64 w a r:=by
 rcases h with ⟨rfl,rfl⟩ | ⟨g,o,c,rfl,_,hc,_,hg,hcell⟩
 ·exact ⟨none,0,rfl,Nat.le_refl _,Nums.nil _ _ _⟩
 ·exact ⟨_,c,rfl,hc,fun i hi => ⟨g,o,rfl,hg,hcell i hi⟩⟩
theorem Rest.of_owns {w:World} {gq B e:Nat} {v:Value} {n:Nat} {r:List Nat} (h:w.ownsRow B e 1 v n (nums .i64 r)) (hB:gq < B) (hn:1≤n):Rest w gq v r:=by
 have hl:r.length=n:=by have:=h.1;rw [nums_length] at this;omega
 rcases rowAt_of_owns h with ⟨rfl,h0,_⟩ | ⟨g,c,rfl,hb,hc,_,_,hr⟩
 ·omega
 ·refine .inr ⟨g,0,c,by rw [hl],by omega,by omega,by omega,hr.lt,fun i hi => ?_⟩
  rw [Nat.zero_add,hr.cell (by rw [nums_length];exact hi),nums_get _ r i hi]
theorem Rest.kept {w w':World} {gq:Nat} {v:Value} {r:List Nat} (h:Rest w gq v r) (hg:w.grownBy w' (some gq)):Rest w' gq v r:=by
 rcases h with h | ⟨g,o,c,e,h1,hc,hq,hlt,hcell⟩
 ·exact .inl h
 ·refine .inr ⟨g,o,c,e,h1,hc,hq,Nat.lt_of_lt_of_le hlt hg.size,fun i hi => ?_⟩
  refine hg.cell (a:=⟨g,o+i,none⟩) (hcell i hi) ?_
  intro e
  injection e with e
  simp at e;omega
theorem nums_one (k:IntKind) (l:List Nat):∀ u ∈ nums k l,u.oneCell' = true:=by
 intro u hu
 unfold nums at hu
 obtain ⟨x,_,rfl⟩:=List.mem_map.1 hu
 rfl
theorem add_plain (g o n:Nat):(⟨g,o,none⟩:Addr).add n=⟨g,o+n,none⟩:=by
 unfold Addr.add
 split
 ·rename_i h;subst h;rfl
 ·rfl
theorem nums_set (k:IntKind) (l:List Nat) (i x:Nat):(nums k l).set i (.int k (x:Int))=nums k (l.set i x):=by simp [nums,List.map_set]
def DivPost (w:World) (V n:Nat) (A:Nat) (e:Ending) (w':World):Prop :=
 ∃ a1 c1 q a2 c2 r,e = .returned (.tuple #[.slice a1 n c1,.slice a2 r.length c2])∧n≤c1∧r.length≤c2∧q.length=n∧Nums .i64 w' a1 q∧Nums .i64 w' a2 r ∧
  (∀ x ∈ q,x < 10)∧(∀ x ∈ r,x < 10)∧dval q=A / V∧dval r=A % V∧r.length≤(decN V).length+1∧Below w.heap.size w w'
def TrimR (lb:List Nat) (m:Nat) (v:Value):Prop := ∃ j:Nat,j+1≤m∧v = .int .i64 ((j:Int)+1)∧dval (lb.take (j+1))=dval lb
def DivR (w:World) (gq k n:Nat) (la lb:List Nat) (rv iv:Value) (wr:World):Prop :=
 ∃ (i:Nat) (q r:List Nat),i≤n∧iv = .int .i64 ((i:Int) - 1)∧Rest wr gq rv r∧RowAt wr gq 3 (nums .i64 q)∧DDivAt la lb q r i∧r.length≤k+2∧Below w.heap.size w wr
def DivI (w:World) (gq k:Nat) (la lb:List Nat) (i:Nat) (gk:Nat) (rv:Value) (wr:World):Prop :=
 ∃ (c:Nat) (q r:List Nat),gk=dval r∧Rest wr gq rv r∧RowAt wr gq 3 (nums .i64 q)∧DDivIn la lb q r i c∧1≤r.length∧r.length≤k+2∧Below w.heap.size w wr
theorem nums_zeros (n:Nat) (w:World) (t:TypeId):RowAt (w.alloc (.cells (madeCells #[.int .i64 0] n) t)) w.heap.size t (nums .i64 (List.replicate n 0)):=by
 refine rowAt_alloc rfl ?_
 apply List.ext_getElem
 ·simp [nums,size_madeCells]
 ·intro i h1 h2
  simp [nums,madeCells,Nat.mod_one]
def CutA (w:World) (x:Nat) (q r:List Nat) (v:Value) (wx:World):Prop :=
 Rest wx w.heap.size v (x :: r)∧RowAt wx w.heap.size 3 (nums .i64 q)∧Below w.heap.size w wx
def CutB (w:World) (la lb q:List Nat) (i j:Nat) (v:Value) (wx:World):Prop :=
 ∃ r,Rest wx w.heap.size v r∧RowAt wx w.heap.size 3 (nums .i64 q)∧Below w.heap.size w wx∧DDivIn la lb q r i 0∧1≤r.length∧r.length≤j+2
set_option maxHeartbeats 2000000 in
set_option maxRecDepth 100000 in
theorem ddivide_any (a b:Option Addr) (n m c d:Nat) (la lb:List Nat) (w:World) (hla:la.length=n) (hlb:lb.length=m) (hn:n≤900000) (hm:m≤900000) (hmd:m≤d)
  (da:∀ x ∈ la,x < 10) (db:∀ x ∈ lb,x < 10) (h0:0 < dval lb) (ha:Nums .i64 w a la) (hb:Nums .i64 w b lb) :
  Calls Tryz.prog 120 #[.slice a n c,.slice b m d] w (DivPost w (dval lb) n (dval la)):=by
 obtain ⟨i0,hi,hz0,hz1,hz2⟩:=info_parts infoInt
 have hm1:1≤m:=by
  rcases Nat.eq_zero_or_pos m with h | h
  ·rw [h] at hlb;rw [List.eq_nil_of_length_eq_zero hlb] at h0;simp [dval] at h0
  ·exact h
 obtain ⟨gb,ob,rfl,hgb,_⟩:=hb 0 (by omega)
 have hbc:∀ j,j < m→w.cell? ⟨gb,ob+j,none⟩=some (.int .i64 ((lb.getD j 0:Nat):Int)):=fun j hj => by
  obtain ⟨g,o,e,_,hc⟩:=hb j (by omega)
  injection e with e;injection e with e1 e2
  subst e1 e2;exact hc
 have HLA:=Lib.hid hla
 have HA:=Lib.hid ha
 have HB:=Lib.hid hb
 have HBC:=Lib.hid hbc
 have DA:=Lib.hid da
 have DB:=Lib.hid db
 have H0:=Lib.hid h0
 have HLB:=Lib.hid hlb
 clear hla hlb ha hb da db h0 hbc
 go_enter Tryz.func120,Tryz.ntmps120
 go_wp2_with fail
 go_loop [6] (TrimR lb m) (fun v => (intOf v).toNat)
 case atStart => exact ⟨m - 1,by omega,by congr 1;omega,by rw [List.take_of_length_le (by have:=HLB.out;omega)]⟩
 case round =>
  obtain ⟨j,hj,rfl,hv⟩:=hrel
  have HV:=Lib.hid hv
  clear hv
  have hcj:=HBC.out j (by omega)
  obtain ⟨y,hy⟩:∃ y,y=lb.getD j 0:=⟨_,rfl⟩
  rw [← hy] at hcj
  have HY:=Lib.hid hy
  clear hy
  obtain ⟨B,hB⟩:∃ B:Bool,B=decide (1≤j∧y=0):=⟨_,rfl⟩
  have HBB:=Lib.hid hB
  clear hB
  go_upto_region 2 with (fail)
  go_cut [21] (fun s wx => s = .bool B∧w=wx)
  case first => as_aux_lemma =>
   by_cases hz:j < 1
   ·have e:B=false:=by rw [HBB.out];simp;omega
    have E:=Lib.hid e
    clear e
    go_wp2_with fail
    go_meet
    exact ⟨by rw [E.out],rfl⟩
   ·by_cases hy:y=0
    ·have e:B=true:=by rw [HBB.out];simp;omega
     have t1:((y:Int) == 0)=true:=by rw [beq_iff_eq];omega
     have E:=Lib.hid e
     clear e hy
     go_wp2_with fail
     go_meet
     exact ⟨by rw [E.out],rfl⟩
    ·have e:B=false:=by rw [HBB.out];simp;omega
     have t1:((y:Int) == 0)=false:=by rw [beq_eq_false_iff_ne];omega
     have E:=Lib.hid e
     clear e hy
     go_wp2_with fail
     go_meet
     exact ⟨by rw [E.out],rfl⟩
  case rest => as_aux_lemma =>
   obtain ⟨rfl,rfl⟩:=hcut
   cases B with
   | true =>
    have hgo:1≤j∧y=0:=by have:=HBB.out;simpa using this.symm
    have hn:=dtrim_step lb j HV.out (by rw [← HY.out];exact hgo.2)
    obtain ⟨jp,rfl⟩:∃ jp,j=jp+1:=⟨j - 1,by omega⟩
    have HN:=Lib.hid hn
    clear hn hgo
    go_wp2_with fail
    go_round
    case rel => exact ⟨jp,by omega,by simp,HN.out⟩
    case measure => simp [intOf] <;> omega
   | false =>
    have hgo:¬ (1≤j∧y=0):=by have:=HBB.out;simpa using this.symm
    have hlen:=dtrim_len lb j (by have:=HLB.out;omega) DB.out HV.out (by
     rcases Nat.eq_zero_or_pos j with h | h
     ·exact .inl h
     ·right;rw [← HY.out];intro h2;exact hgo ⟨h,h2⟩)
    have HLEN:=Lib.hid hlen
    clear hgo hlen hcj HY
    have hjd:j+1≤d:=by omega
    have hbt:∀ W,Below w.heap.size w W→Nums .i64 W (some ⟨gb,ob,none⟩) (lb.take (j+1)):=fun W hW => (HB.out.below hW).take _
    have HBT:=Lib.hid hbt
    have hbl:(lb.take (j+1)).length=j+1:=by rw [List.length_take];have:=HLB.out;omega
    have HBL:=Lib.hid hbl
    clear hbt hbl
    go_wp2_with (at_make;refine wpList_make_row _ rfl _ _ 26 rfl 3 i0 (.int .i64 0) Tryz.underlying26 hi hz0 hz1 rfl .i64 .i64 n rfl rfl ?m1 ?m2 ?_)
    case m1 => omega
    case m2 => omega
    obtain ⟨W0,hW0⟩:∃ W0,W0=w.alloc (.cells (madeCells #[.int .i64 0] n) 3):=⟨_,rfl⟩
    have hst:DivR w w.heap.size j n la lb (.slice none 0 0) (.int .i64 ((n:Int) - 1)) W0:=by
     rw [hW0]
     exact ⟨n,List.replicate n 0,[],Nat.le_refl _,rfl,.inl ⟨rfl,rfl⟩,nums_zeros n w _,by have:=ddiv_start la lb H0.out;rwa [HLA.out] at this,by simp,(Below.refl _ _).alloc (Nat.le_refl _) _⟩
    have HST:=Lib.hid hst
    rw [← hW0]
    clear hst hW0
    go_loopw [8,9] (DivR w w.heap.size j n la lb) (fun _ i _ => (intOf i+1).toNat)
    case atStart => exact HST.out
    case round =>
     obtain ⟨i,q,r,hin,rfl,hrest,hrow,hat,hrl,hbel⟩:=hrel
     have HR:=Lib.hid hrest
     have HQ:=Lib.hid hrow
     have HAT:=Lib.hid hat
     have HBEL:=Lib.hid hbel
     clear hrest hrow hat hbel
     by_cases hi0:1≤i
     ·obtain ⟨ip,rfl⟩:∃ ip,i=ip+1:=⟨i - 1,by omega⟩
      obtain ⟨x,hx⟩:∃ x,x=la.getD ip 0:=⟨_,rfl⟩
      obtain ⟨ga,oa,rfl,hga,hca⟩:=HA.out.below HBEL.out ip (by have:=HLA.out;omega)
      rw [← hx] at hca
      have hin1:=ddiv_in la lb q r ip DA.out HAT.out
      rw [← hx] at hin1
      have HIN:=Lib.hid hin1
      have hlit:(wr.alloc (.cells #[.int .i64 (x:Int)] 3)).ownsRow wr.heap.size 3 1 (.slice (some ⟨wr.heap.size,0,none⟩) 1 1) 1 [.int .i64 (x:Int)] :=
       World.ownsRow_lit wr #[.int .i64 (x:Int)] 1 (Nat.le_refl _) (by unfold maxLen;omega) (by simp)
      have HLIT:=Lib.hid hlit
      clear hx hin1 hlit
      rw [show (((ip+1:Nat):Int) - 1)=(ip:Int) by omega]
      go_upto_region 10 with (fail)
      go_cut [8] (fun v wx => CutA w x q r v wx)
      case first => as_aux_lemma =>
       rcases HR.out with ⟨rfl,rfl⟩ | ⟨g,o,cr,rfl,h1,h2,h3,h4,h5⟩
       ·go_wp2_with (at_builtin;refine wpList_append_own_none rfl (.tmp 41) (.tmp 42) 26 rfl wr.heap.size 3 i0 1 Tryz.underlying26 hi _ _ _ rfl HLIT.out rfl ?_)
        go_meet
        refine ⟨Rest.of_owns (B:=wr.heap.size) (e:=3) (n:=1) HLIT.out (Nat.lt_of_lt_of_le HQ.out.lt (Nat.le_refl _)) (Nat.le_refl _),HQ.out.alloc _,HBEL.out.alloc HBEL.out.size _⟩
       ·have H5:=Lib.hid h5
        clear h5
        go_wp2_with (at_builtin;refine wpList_append_own _ rfl (.tmp 41) (.tmp 42) 26 rfl wr.heap.size 3 i0 (.int .i64 0) 1 8 Tryz.underlying26 hi hz0 hz1 hz2 rfl (by decide) _ _ _ rfl HLIT.out ⟨g,o,none⟩ r.length cr (nums .i64 r) rfl ?c0 ?c1 ?c2 ?c3 ?c4 ?c5 ?_)
        case c0 => rw [nums_length];omega
        case c1 =>
         intro e u he
         have hel:e < r.length:=by rw [← nums_length .i64 r];exact (List.getElem?_eq_some_iff.1 he).1
         rw [add_plain,World.cell?_alloc_past _ _ _ (by show g < _;exact h4)]
         rw [nums_get _ _ _ hel] at he
         rw [H5.out e hel];exact he
        case c2 => exact nums_one _ _
        case c3 => unfold maxLen;omega
        case c4 => omega
        case c5 => simp
        intro v7 w7 ho hgr _
        have n1:Below w.heap.size w w7:=(HBEL.out.alloc HBEL.out.size _).grown hgr (by simp;have:=HBEL.out.size;omega) (fun k hk => by simp [Value.ownBlock] at hk;have:=HBEL.out.size;omega)
        have R7:Hid (Rest w7 w.heap.size v7 (x :: r)):=Rest.of_owns (B:=wr.heap.size) (e:=3) (n:=1+r.length) ho HQ.out.lt (by omega)
        have Q7:Hid (RowAt w7 w.heap.size 3 (nums .i64 q)):=(HQ.out.alloc _).kept hgr (by simp [Value.ownBlock];have:=HQ.out.lt;omega)
        have N7:=Lib.hid n1
        clear ho hgr n1
        go_wp2_with fail
        go_meet
        exact ⟨R7.out,Q7.out,N7.out⟩
      case rest => as_aux_lemma =>
       obtain ⟨ra,qa,ba⟩:=hcut
       have RA:=Lib.hid ra
       have QA:=Lib.hid qa
       have BA:=Lib.hid ba
       clear ra qa ba HR HQ HBEL HLIT hca
       have hb10:dval lb < 10 ^ (j+1):=by
        have h:=dval_lt (lb.take (j+1)) (fun x hx => DB.out x (List.mem_of_mem_take hx))
        rw [HV.out,HBL.out] at h
        exact h
       have hcutB:∀ v wx,Rest wx w.heap.size v ((x :: r).take (j+1+1))→RowAt wx w.heap.size 3 (nums .i64 q)→Below w.heap.size w wx→CutB w la lb q ip j v wx:=fun v wx h1 h2 h3 =>
        ⟨_,h1,h2,h3,ddiv_cut la lb q (x :: r) ip 0 (j+1) hb10 HIN.out,by rw [List.length_take];simp,by rw [List.length_take];omega⟩
       have HCB:=Lib.hid hcutB
       clear hcutB hb10
       rcases RA.out with ⟨_,h0⟩ | ⟨g,o,cr,rfl,h1,h2,h3,h4,h5⟩
       ·cases h0
       rw [List.length_cons] at h2 ⊢
       have H5:=Lib.hid h5
       clear h1 h5
       go_upto_if 48 with (fail)
       go_cut [8] (fun v wx => CutB w la lb q ip j v wx)
       case first => as_aux_lemma =>
        by_cases hlong:j+2 < r.length+1
        ·go_wp2_with fail
         go_meet
         refine HCB.out _ _ (.inr ⟨g,o,cr,?_,?_,?_,h3,h4,fun e he => ?_⟩) QA.out BA.out
         ·congr 1;rw [List.length_take,List.length_cons];omega
         ·rw [List.length_take,List.length_cons];omega
         ·rw [List.length_take,List.length_cons];omega
         ·rw [List.length_take] at he
          rw [List.getD_eq_getElem?_getD,List.getElem?_take_of_lt (by omega),← List.getD_eq_getElem?_getD]
          exact H5.out e (by omega)
        ·go_wp2_with fail
         go_meet
         refine HCB.out _ _ ?_ QA.out BA.out
         rw [List.take_of_length_le (by rw [List.length_cons];omega)]
         exact RA.out
       case rest => as_aux_lemma =>
        clear HCB RA QA BA H5 HIN h2 h3 h4
        obtain ⟨r2,rb,qb,bb,ib,l1,l2⟩:=hcut
        have HST2:Hid (DivI w w.heap.size j la lb ip (dval r2) u8 wc):=⟨0,q,r2,rfl,rb,qb,ib,l1,l2,bb⟩
        clear rb qb bb ib l1 l2
        go_wp2_with fail
        go_loopg [8] (dval r2) (fun k v wr => DivI w w.heap.size j la lb ip k v wr)
        case atStart => exact HST2.out
        case round =>
         obtain ⟨w1,rfl⟩:∃ w1:World,w1=wr:=⟨_,rfl⟩
         obtain ⟨cc,q,r,rfl,rb,qb,ib,l1,l2,bb⟩:=hrel
         have RB:=Lib.hid rb
         obtain ⟨ar,cr,rfl,hcr,hnr⟩:=rb.read
         have QB:=Lib.hid qb
         have BB:=Lib.hid bb
         have IB:=Lib.hid ib
         have dr:=Lib.hid ib.2.2.1
         have hV:dval (lb.take (j+1))=dval lb:=HV.out
         have hg:=greater_any ar (some ⟨gb,ob,none⟩) r.length (j+1) cr d r (lb.take (j+1)) w1 rfl HBL.out (by omega) (by omega) dr.out (fun x hx => DB.out x (List.mem_of_mem_take hx)) hnr (HBT.out _ bb)
         rw [hV] at hg
         by_cases hle:dval lb≤dval r
         ·obtain ⟨z,hz,hz0⟩:∃ z,z=cmpN (dval r) (dval lb)∧0≤z:=⟨_,rfl,by
           rcases Nat.lt_or_ge (dval lb) (dval r) with h | h
           ·rw [cmpN_gt h];omega
           ·rw [cmpN_eq (by omega)];omega⟩
          rw [← hz] at hg
          have hmn:=dminus_any ar (some ⟨gb,ob,none⟩) r.length (j+1) cr d r (lb.take (j+1)) w1 rfl HBL.out (by omega) (by omega) dr.out (fun x hx => DB.out x (List.mem_of_mem_take hx)) (by rw [hV];exact hle) hnr (HBT.out _ bb)
          rw [hV] at hmn
          have HG:=Lib.hid hg
          have HM:=Lib.hid hmn
          have HLE:=Lib.hid hle
          have hql:q.length=n:=by rw [ib.1];exact HLA.out
          have hqc:q.getD ip 0=cc:=ib.2.2.2.2.1
          have hcc:cc < 10:=by rw [← hqc];exact digD_lt q ip ib.2.1
          have HQL:=Lib.hid hql
          have HQC:=Lib.hid hqc
          clear rb qb bb ib hnr hV hg hmn hle hz hql hqc
          go_wp2_with fail
          refine HG.out.mono ?_
          rintro e w' ⟨rfl,rfl⟩
          go_wp2_with fail
          refine HM.out.mono ?_
          rintro e w2 ⟨v2,rl,rfl,ho,⟨hl1,hl2,hl3⟩,hb2⟩
          have q2:=QB.out.below hb2 QB.out.lt
          have R2:Hid (Rest w2 w.heap.size v2 rl):=Rest.of_owns (B:=w1.heap.size) (e:=3) ho QB.out.lt (by omega)
          have B2:Hid (Below w.heap.size w w2):=BB.out.trans (hb2.mono BB.out.size)
          have cq:w2.cell? ⟨w.heap.size,ip,none⟩=some (.int .i64 (cc:Int)):=by
           rw [q2.cell (by rw [nums_length];have:=HQL.out;omega),nums_get _ _ _ (by have:=HQL.out;omega),HQC.out]
          have fq:=q2.frozen ip
          have Q2:=Lib.hid q2
          have I2:=Lib.hid (ddiv_sub la lb q r rl ip cc (by have:=HLA.out;omega) HLE.out hl2 hl3 IB.out)
          have HL3:=Lib.hid hl3
          clear ho hb2 q2 hl2 hl3
          go_wp2_with fail
          go_roundg (dval rl)
          case measure => rw [HL3.out];have:=HLE.out;have:=H0.out;omega
          case rel =>
           have e1:((cc:Int)+1)=((cc+1:Nat):Int):=by omega
           refine ⟨cc+1,q.set ip (cc+1),rl,rfl,R2.out.kept (only_setCell (only_refl _ _) (.inl rfl) _),?_,I2.out,by omega,by omega,B2.out.setCell (p:=⟨w.heap.size,ip,none⟩) (Nat.le_refl _) _⟩
           rw [e1,← nums_set]
           exact Q2.out.set ip _
         ·have hz:cmpN (dval r) (dval lb) = -1:=cmpN_lt (by omega)
          rw [hz] at hg
          have HG:=Lib.hid hg
          have HO:=Lib.hid (ddiv_out la lb q r ip cc (by omega) ib)
          clear rb qb bb ib hnr hV hg hle hz
          go_wp2_with fail
          refine HG.out.mono ?_
          rintro e w' ⟨rfl,rfl⟩
          go_wp2_with fail
          go_roundw
          case rel => exact ⟨ip,q,r,by omega,rfl,RB.out,QB.out,HO.out,l2,BB.out⟩
          case measure => simp [intOf] <;> omega
     ·obtain rfl:i=0:=by omega
      have hend:=ddiv_end la lb q r HAT.out
      have HE:=Lib.hid hend
      clear hend
      obtain ⟨ar,cr,rfl,hcr,hnr⟩:=HR.out.read
      have HN:=Lib.hid hnr
      clear hnr
      go_wp2_with fail
      go_ret2
      refine ⟨some ⟨w.heap.size,0,none⟩,n,q,ar,cr,r,rfl,Nat.le_refl _,hcr,HAT.out.1.trans HLA.out,fun e he => ⟨_,0,rfl,HQ.out.lt,?_⟩,HN.out,HAT.out.2.1,HAT.out.2.2.1,HE.out.1,HE.out.2,by have:=HLEN.out;omega,HBEL.out⟩
      rw [Nat.zero_add,HQ.out.cell (by rw [nums_length];exact he),nums_get _ _ _ he]
end Go.Proofs.YtijkefflpojmhaaGreatDoor

namespace Go.Proofs.YtijkefflpojmhaaGreatDoor
open Go.RowKit
theorem infoU32:(Tryz.prog.info? 123).map (fun i => (i.zero,i.size,i.bytes))=some (some (.int .u32 0),1,4):=by kernel_rfl
theorem ownsRow_take {w:World} {B e:Nat} {a:Option Addr} {n c k:Nat} {xs:List Value} (h:w.ownsRow B e 1 (.slice a n c) n xs) (hk:k≤n):w.ownsRow B e 1 (.slice a k c) k (xs.take k):=by
 obtain ⟨h1,h2⟩:=h
 refine ⟨by rw [List.length_take];omega,?_⟩
 rcases h2 with ⟨h,_⟩ | ⟨g,cap,cur,h,hb,hg,hnc,hcm,hcs,htake⟩
 ·injection h with e1 e2 e3
  subst e1 e2 e3
  exact .inl ⟨by rw [show k=0 by omega],by omega⟩
 ·injection h with e1 _ e3
  subst e1 e3
  refine .inr ⟨g,c,cur,rfl,hb,hg,by omega,hcm,hcs,?_⟩
  rw [← htake,List.take_take]
  congr 1;omega
theorem nums_take (k:IntKind) (l:List Nat) (n:Nat):(nums k l).take n=nums k (l.take n):=by simp [nums,List.map_take]
def TrimPost (w:World) (a:Option Addr) (n c:Nat) (l:List Nat) (e:Ending) (w':World):Prop :=
 (∃ k,k≤n∧e = .returned (.slice a k c)∧Rep (l.take k) (val l))∧w=w'
def TrimM (a:Option Addr) (n c:Nat) (l:List Nat) (v:Value):Prop := ∃ k:Nat,k≤n∧v = .slice a k c∧val (l.take k)=val l
set_option maxHeartbeats 1000000 in
set_option maxRecDepth 100000 in
theorem trim_any (a:Option Addr) (n c:Nat) (l:List Nat) (w:World) (hl:l.length=n) (hn:n≤1000000) (hc:n≤c) (d:∀ x ∈ l,x < Bs) (ha:Nums .u32 w a l) :
  Calls Tryz.prog 133 #[.slice a n c] w (TrimPost w a n c l):=by
 have HL:=Lib.hid hl
 have HA:=Lib.hid ha
 have HD:=Lib.hid d
 clear hl ha d
 go_enter Tryz.func133,Tryz.ntmps133
 go_wp2_with fail
 go_loop [0] (TrimM a n c l) (fun v => match v with | .slice _ k _ => k | _ => 0)
 case atStart => exact ⟨n,Nat.le_refl _,rfl,by rw [List.take_of_length_le (by have:=HL.out;omega)]⟩
 case round =>
  obtain ⟨k,hk,rfl,hv⟩:=hrel
  have HV:=Lib.hid hv
  clear hv
  by_cases hk0:1≤k
  ·obtain ⟨j,rfl⟩:∃ j,k=j+1:=⟨k - 1,by omega⟩
   obtain ⟨g,o,rfl,hg,hcl⟩:=HA.out j (by have:=HL.out;omega)
   obtain ⟨y,hy⟩:∃ y,y=l.getD j 0:=⟨_,rfl⟩
   rw [← hy] at hcl
   by_cases hy0:y=0
   ·have hn2:=trim_step l j (by rw [← hy];exact hy0)
    have t1:((y:Int) == 0)=true:=by rw [beq_iff_eq];omega
    have HN:=Lib.hid (hn2.symm.trans HV.out)
    clear hn2 hy hy0
    go_wp2_with fail
    go_round
    case rel => exact ⟨j,by omega,rfl,HN.out⟩
    case measure => simp
   ·have hr:=trim_end l (j+1) HD.out (by have:=HL.out;omega) (.inr (by rw [Nat.add_sub_cancel,← hy];exact hy0)) HV.out
    have t1:((y:Int) == 0)=false:=by rw [beq_eq_false_iff_ne];omega
    have HR:=Lib.hid hr
    clear hr hy hy0
    go_wp2_with fail
    go_ret
    exact ⟨⟨j+1,hk,rfl,HR.out⟩,rfl⟩
  ·obtain rfl:k=0:=by omega
   have hr:=Lib.hid (trim_end l 0 HD.out (Nat.zero_le _) (.inl rfl) HV.out)
   go_wp2_with fail
   go_ret
   exact ⟨⟨0,Nat.zero_le _,rfl,hr.out⟩,rfl⟩
theorem drop_of_getD {a b:List Nat} {i:Nat} (hl:a.length=b.length) (h:∀ j,i≤j→a.getD j 0=b.getD j 0):a.drop i=b.drop i:=by
 apply List.ext_getElem
 ·simp [hl]
 ·intro j h1 h2
  rw [List.length_drop] at h1 h2
  have:=h (i+j) (by omega)
  rw [List.getD_eq_getElem?_getD,List.getD_eq_getElem?_getD,List.getElem?_eq_getElem (by omega),List.getElem?_eq_getElem (by omega)] at this
  simpa using this
def CmR (la lb:List Nat) (n:Nat) (i:Value):Prop := ∃ k:Int,-1≤k∧k < n∧i = .int .i64 k ∧ ∀ j:Nat,k < j→la.getD j 0=lb.getD j 0
set_option maxHeartbeats 1000000 in
set_option maxRecDepth 100000 in
theorem mcmp_len (a b:Option Addr) (n m c d:Nat) (w:World) (hn:n≤1000000) (hm:m≤1000000) (h:n ≠ m) :
  Calls Tryz.prog 131 #[.slice a n c,.slice b m d] w fun e w' => e = .returned (.int .i64 (cmpN n m)) ∧ ∃ q,w' = w.drewN q:=by
 rcases Nat.lt_or_ge n m with h1 | h1
 ·have t1:((n:Int) != (m:Int))=true:=by rw [bne_iff_ne];omega
  have HC:=Lib.hid (cmpN_lt h1)
  have HN:=Lib.hid h
  clear h
  go_enter Tryz.func131,Tryz.ntmps131
  go_wp2_with fail
  all_goals
   go_ret
   exact ⟨ret_int (by rw [HC.out]),0,rfl⟩
 ·have h2:m < n:=by omega
  have t1:((n:Int) != (m:Int))=true:=by rw [bne_iff_ne];omega
  have HC:=Lib.hid (cmpN_gt h2)
  have HN:=Lib.hid h
  clear h
  go_enter Tryz.func131,Tryz.ntmps131
  go_wp2_with fail
  all_goals
   go_ret
   exact ⟨ret_int (by rw [HC.out]),0,rfl⟩
set_option maxHeartbeats 1000000 in
set_option maxRecDepth 100000 in
theorem mcmp_same (a b:Option Addr) (n c d:Nat) (la lb:List Nat) (w:World) (hla:la.length=n) (hlb:lb.length=n) (hn:n≤1000000)
  (da:∀ x ∈ la,x < Bs) (db:∀ x ∈ lb,x < Bs) (ha:Nums .u32 w a la) (hb:Nums .u32 w b lb) :
  Calls Tryz.prog 131 #[.slice a n c,.slice b n d] w fun e w' => e = .returned (.int .i64 (cmpN (val la) (val lb))) ∧ ∃ q,w' = w.drewN q:=by
 have HLA:=Lib.hid hla
 have HLB:=Lib.hid hlb
 have HA:=Lib.hid ha
 have HB:=Lib.hid hb
 have DA:=Lib.hid da
 have DB:=Lib.hid db
 clear hla hlb ha hb da db
 go_enter Tryz.func131,Tryz.ntmps131
 go_wp2_with fail
 go_loopw [5] (fun i wr => CmR la lb n i ∧ ∃ q,wr=w.drewN q) (fun i _ => (intOf i+1).toNat)
 case atStart => exact ⟨⟨(n:Int) - 1,by omega,by omega,rfl,fun j hj => by rw [getD_out (by have:=HLA.out;omega),getD_out (by have:=HLB.out;omega)]⟩,0,rfl⟩
 case round =>
  obtain ⟨⟨k,hk1,hk2,rfl,he⟩,q,rfl⟩:=hrel
  have HE:=Lib.hid he
  clear he
  by_cases hk:0≤k
  ·obtain ⟨j,rfl⟩:=Int.eq_ofNat_of_zero_le hk
   obtain ⟨ga,oa,rfl,hga,hca⟩:=HA.out j (by have:=HLA.out;omega)
   obtain ⟨gb,ob,rfl,hgb,hcb⟩:=HB.out j (by have:=HLB.out;omega)
   obtain ⟨x,hx⟩:∃ x,x=la.getD j 0:=⟨_,rfl⟩
   obtain ⟨y,hy⟩:∃ y,y=lb.getD j 0:=⟨_,rfl⟩
   rw [← hx] at hca
   rw [← hy] at hcb
   have HX:=Lib.hid hx
   have HY:=Lib.hid hy
   have hlen:la.length=lb.length:=by rw [HLA.out,HLB.out]
   have hr:(x=y → ∀ i:Nat,(j:Int) - 1 < i→la.getD i 0=lb.getD i 0)∧(y < x→cmpN (val la) (val lb)=1)∧(x < y→cmpN (val la) (val lb) = -1):=by
    refine ⟨fun e => fun i hi => ?_,fun h => cmpN_gt (cmp_top lb la j hlen.symm (by have:=HLB.out;omega) DB.out (drop_of_getD hlen.symm fun i hi => (HE.out i (by omega)).symm) (by rw [← HX.out,← HY.out];exact h)),fun h => cmpN_lt (cmp_top la lb j hlen (by have:=HLA.out;omega) DA.out (drop_of_getD hlen fun i hi => HE.out i (by omega)) (by rw [← HX.out,← HY.out];exact h))⟩
    by_cases hij:i=j
    ·rw [hij,← HX.out,← HY.out,e]
    ·exact HE.out i (by omega)
   have HR:=Lib.hid hr
   clear hr hx hy hlen
   rcases Nat.lt_trichotomy x y with h | h | h
   ·have t1:((x:Int) != (y:Int))=true:=by rw [bne_iff_ne];omega
    have t2:decide ((x:Int) < (y:Int))=true:=by simp;omega
    have HQ:=Lib.hid (HR.out.2.2 h)
    go_wp2_with fail
    go_quiet (fail)
    go_wp2_with fail
    go_quiet (fail)
    go_wp2_with fail
    go_ret
    exact ⟨ret_int HQ.out.symm,_,by rw [World.drewN_drewN,World.drewN_drewN]⟩
   ·have HQ:=Lib.hid (HR.out.1 h)
    have t1:((x:Int) != (y:Int))=false:=by rw [h];simp
    have HXY:=Lib.hid h
    clear h
    go_wp2_with fail
    go_quiet (fail)
    go_wp2_with fail
    go_roundw
    case rel => exact ⟨⟨(j:Int) - 1,by omega,by omega,rfl,HQ.out⟩,_,rfl⟩
    case measure => simp [intOf] <;> omega
   ·have t1:((x:Int) != (y:Int))=true:=by rw [bne_iff_ne];omega
    have t2:decide ((x:Int) < (y:Int))=false:=by simp;omega
    have HQ:=Lib.hid (HR.out.2.1 h)
    go_wp2_with fail
    go_quiet (fail)
    go_wp2_with fail
    go_quiet (fail)
    go_wp2_with fail
    go_ret
    exact ⟨ret_int HQ.out.symm,_,by rw [World.drewN_drewN,World.drewN_drewN]⟩
  ·have hv:val la=val lb:=by
    have:la=lb:=by
     have:=drop_of_getD (a:=la) (b:=lb) (i:=0) (by rw [HLA.out,HLB.out]) (fun j _ => HE.out j (by omega))
     simpa using this
    rw [this]
   have HQ:=Lib.hid (cmpN_eq hv)
   clear hv
   go_wp2_with fail
   go_ret
   exact ⟨ret_int HQ.out.symm,_,rfl⟩
theorem mcmp_any (a b:Option Addr) (n m c d A B:Nat) (la lb:List Nat) (w:World) (hla:la.length=n) (hlb:lb.length=m) (hn:n≤1000000) (hm:m≤1000000)
  (ra:Rep la A) (rb:Rep lb B) (ha:Nums .u32 w a la) (hb:Nums .u32 w b lb) :
  Calls Tryz.prog 131 #[.slice a n c,.slice b m d] w fun e w' => e = .returned (.int .i64 (cmpN A B)) ∧ ∃ q,w' = w.drewN q:=by
 by_cases h:n=m
 ·subst h
  have:=mcmp_same a b n c d la lb w hla hlb hn ra.1 rb.1 ha hb
  rwa [ra.2.2,rb.2.2] at this
 ·have:=mcmp_len a b n m c d w hn hm h
  have e:cmpN n m=cmpN A B:=by
   rcases Nat.lt_or_ge n m with h1 | h1
   ·rw [cmpN_lt h1,cmpN_lt (rep_len_lt la lb A B ra rb (by omega))]
   ·rw [cmpN_gt (by omega),cmpN_gt (rep_len_lt lb la B A rb ra (by omega))]
  rwa [e] at this
end Go.Proofs.YtijkefflpojmhaaGreatDoor

namespace Go.Proofs.YtijkefflpojmhaaGreatDoor
open Go.RowKit
def MagNew (w:World) (N:Nat) (e:Ending) (w':World):Prop:=NewNums .u32 123 w (fun l => Rep l N) e w'
theorem trim_own {w:World} {B:Nat} {v:Value} {n:Nat} {l:List Nat} (h:w.ownsRow B 123 1 v n (nums .u32 l)) (hn:n≤1000000) (d:∀ x ∈ l,x < Bs) :
  Calls Tryz.prog 133 #[v] w fun e w' => (∃ v2 l2,e = .returned v2∧w.ownsRow B 123 1 v2 l2.length (nums .u32 l2)∧Rep l2 (val l))∧w=w':=by
 obtain ⟨a,c,rfl,hl,hc,ha⟩:=nums_of_owns h
 refine (trim_any a n c l w hl hn hc d ha).mono fun e w' ⟨⟨k,hk,e1,e2⟩,e3⟩ => ⟨⟨_,l.take k,e1,?_,e2⟩,e3⟩
 have:=ownsRow_take h hk
 rw [nums_take] at this
 rwa [List.length_take,show min k l.length=k by omega]
def SubR (w:World) (la lb:List Nat) (n:Nat) (o b i:Value) (wr:World):Prop :=
 ∃ (k br:Nat) (out:List Nat),k≤n∧i = .int .i64 k∧b = .int .u32 br∧wr.ownsRow w.heap.size 123 1 o k (nums .u32 out)∧MinusAt la lb out k br∧Below w.heap.size w wr
def SubC (la lb out:List Nat) (k:Nat) (y:Nat) (xv bv:Value):Prop :=
 ∃ x br:Nat,xv = .int .u32 x∧bv = .int .u32 br∧y≤x∧x < 2000000000∧MinusAt la lb (out ++ [x - y]) (k+1) br
set_option maxHeartbeats 2000000 in
set_option maxRecDepth 100000 in
theorem minus_any (a b:Option Addr) (n m c d:Nat) (la lb:List Nat) (w:World) (hla:la.length=n) (hlb:lb.length=m) (hn:n≤900000) (hmn:m≤n)
  (da:∀ x ∈ la,x < Bs) (db:∀ x ∈ lb,x < Bs) (hle:val lb≤val la) (ha:Nums .u32 w a la) (hb:Nums .u32 w b lb) :
  Calls Tryz.prog 136 #[.slice a n c,.slice b m d] w (MagNew w (val la - val lb)):=by
 obtain ⟨i0,hi,hz0,hz1,hz2⟩:=info_parts infoU32
 have HLA:=Lib.hid hla
 have HLB:=Lib.hid hlb
 have HA:=Lib.hid ha
 have HB:=Lib.hid hb
 have DA:=Lib.hid da
 have DB:=Lib.hid db
 have HLE:=Lib.hid hle
 clear hla hlb ha hb da db hle
 go_enter Tryz.func136,Tryz.ntmps136
 go_wp2_with (at_make;refine wpList_make_own _ rfl _ _ 149 rfl w.heap.size 123 i0 (.int .u32 0) 1 Tryz.underlying149 hi hz0 hz1 .i64 .i64 _ n rfl rfl rfl ?b2 ?b3 ?b4 ?_)
 case b2 => rw [hz2];omega
 case b3 => unfold maxLen;omega
 case b4 => exact Nat.le_refl _
 intro w1 ho1 hg1
 have hst:SubR w la lb n (.slice (some ⟨w.heap.size,0,none⟩) 0 n) (.int .u32 0) (.int .i64 0) w1:=⟨0,0,[],Nat.zero_le _,rfl,rfl,ho1,minus_start _ _,(Below.refl _ _).grown hg1 (Nat.le_refl _) (fun k hk => by cases hk)⟩
 have HST:=Lib.hid hst
 clear ho1 hg1 hst
 go_wp2_with fail
 go_loopw [5,6,15] (SubR w la lb n) (fun _ _ i _ => n - (intOf i).toNat)
 case atStart => exact HST.out
 case round =>
  obtain ⟨k,br,out,hk,rfl,rfl,ho,hat,hbl⟩:=hrel
  have HO:=Lib.hid ho
  have HT:=Lib.hid hat
  have HBL:=Lib.hid hbl
  clear ho hat hbl HST
  by_cases hlt:k < n
  ·obtain ⟨x,hx⟩:∃ x,x=la.getD k 0:=⟨_,rfl⟩
   obtain ⟨y,hy⟩:∃ y,y=lb.getD k 0:=⟨_,rfl⟩
   obtain ⟨g,og,rfl,hg,hc⟩:=HA.out.below HBL.out k (by have:=HLA.out;omega)
   rw [← hx] at hc
   have hx10:x < 1000000000:=by rw [hx];exact getD_lt la k DA.out
   have hy10:y < 1000000000:=by rw [hy];exact getD_lt lb k DB.out
   have hbr:br≤1:=HT.out.2.2.1
   have HX:=Lib.hid hx
   have HY:=Lib.hid hy
   clear hx hy
   go_upto_if 24 with (fail)
   go_cut [9] (fun s wx => s = .int .u32 ((br+y:Nat):Int)∧wr=wx)
   case first => as_aux_lemma =>
    by_cases hkm:k < m
    ·obtain ⟨gb,ob,rfl,hgb,hcb⟩:=HB.out.below HBL.out k (by have:=HLB.out;omega)
     rw [← HY.out] at hcb
     go_wp2_with fail
     go_meet
     exact ⟨by congr 1,rfl⟩
    ·have hy0:y=0:=by rw [HY.out,getD_out (by have:=HLB.out;omega)]
     have HY0:=Lib.hid hy0
     clear hy0
     go_wp2_with fail
     go_meet
     exact ⟨by rw [HY0.out];rfl,rfl⟩
   case rest => as_aux_lemma =>
    obtain ⟨rfl,rfl⟩:=hcut
    have hcs:(br+y≤x→SubC la lb out k (br+y) (.int .u32 x) (.int .u32 0))∧(x < br+y→SubC la lb out k (br+y) (.int .u32 ((x+1000000000:Nat):Int)) (.int .u32 1)):=by
     refine ⟨fun h => ⟨x,0,rfl,rfl,h,by omega,?_⟩,fun h => ⟨x+1000000000,1,rfl,rfl,by omega,by omega,?_⟩⟩
     ·have:=minus_step0 la lb out k br DA.out HT.out (by rw [← HX.out,← HY.out];exact h)
      rwa [← HX.out,← HY.out] at this
     ·have:=minus_step1 la lb out k br DB.out HT.out (by rw [← HX.out,← HY.out];exact h)
      rwa [← HX.out,← HY.out] at this
    have HCS:=Lib.hid hcs
    clear hcs hc
    obtain ⟨z,hz⟩:∃ z,z=br+y:=⟨_,rfl⟩
    have hz10:z≤1000000000:=by omega
    rw [← hz] at HCS ⊢
    clear hz
    go_upto_if 33 with (fail)
    go_cut [6,8] (fun b x wx => SubC la lb out k z x b∧wr=wx)
    case first => as_aux_lemma =>
     by_cases hxz:z≤x
     ·have t1:decide ((x:Int) < (z:Int))=false:=by simp;omega
      have HQ:=Lib.hid (HCS.out.1 hxz)
      go_wp2_with fail
      go_meet
      exact ⟨HQ.out,rfl⟩
     ·have t1:decide ((x:Int) < (z:Int))=true:=by simp;omega
      have HQ:=Lib.hid (HCS.out.2 (by omega))
      go_wp2_with fail
      go_meet
      exact ⟨HQ.out,rfl⟩
    case rest => as_aux_lemma =>
     obtain ⟨⟨x2,b2,rfl,rfl,hle2,hx2,hat2⟩,rfl⟩:=hcut
     have HT2:=Lib.hid hat2
     obtain ⟨r,hr⟩:∃ r:Nat,(x2:Int) - (z:Int)=(r:Int)∧x2 - z=r:=⟨x2 - z,by omega,rfl⟩
     rw [hr.2] at HT2
     have HR:=Lib.hid hr
     clear hat2 hr HCS
     go_wp2_with (at_builtin;refine wpList_append1 _ rfl (.tmp 36) (.tmp 40) 149 rfl w.heap.size 123 i0 (.int .u32 0) 4 Tryz.underlying149 hi hz0 hz1 hz2 rfl _ _ _ rfl (HO.out.alloc _) ⟨wr.heap.size,0,none⟩ 1 (.int .u32 r) rfl ?c1 rfl ?c3 ?c4 ?c5 ?_)
     case c1 => simp [HR.out.1]
     case c3 => unfold maxLen;omega
     case c4 => omega
     case c5 => have:=HBL.out.size;simp;omega
     intro v1 w2 ho2 hg2 hne2 hpl2
     have n2:Below w.heap.size w w2:=(HBL.out.alloc HBL.out.size _).grown hg2 (by have:=HBL.out.size;simp;omega) (fun k hk => (HO.out.lt k hk).1)
     rw [nums_snoc] at ho2
     have HO2:=Lib.hid ho2
     have N2:=Lib.hid n2
     clear ho2 n2 hg2 hne2 hpl2
     go_wp2_with fail
     go_roundw
     case rel => exact ⟨k+1,b2,out ++ [r],by omega,by go_num,rfl,HO2.out,HT2.out,N2.out⟩
     case measure => simp [intOf] <;> omega
  ·obtain rfl:k=n:=by omega
   have hv:=minus_end la lb out br (by rw [HLA.out,HLB.out];exact hmn) HLE.out (by rw [HLA.out];exact HT.out)
   have htr:=trim_own HO.out (by omega) HT.out.2.1
   rw [hv] at htr
   have HTR:=Lib.hid htr
   clear hv htr
   go_wp2_with fail
   refine HTR.out.mono ?_
   rintro e w' ⟨⟨v2,l2,rfl,ho2,hr2⟩,rfl⟩
   have HO2:=Lib.hid ho2
   have HR2:=Lib.hid hr2
   clear ho2 hr2
   go_wp2_with fail
   go_ret
   exact ⟨_,l2,rfl,HO2.out,HR2.out,HBL.out⟩
end Go.Proofs.YtijkefflpojmhaaGreatDoor

namespace Go.Proofs.YtijkefflpojmhaaGreatDoor
open Go.RowKit
theorem nums_zero_made (n:Nat):(madeCells #[Value.int .u32 0] n).toList=nums .u32 (List.replicate n 0):=by
 apply List.ext_getElem
 ·simp [nums,size_madeCells]
 ·intro i h1 h2
  simp [nums,madeCells,Nat.mod_one]
def MulR (w:World) (la lb:List Nat) (n N:Nat) (iv:Value) (wr:World):Prop :=
 ∃ (i:Nat) (out:List Nat),i≤n∧iv = .int .i64 i∧wr.ownsRow w.heap.size 123 1 (.slice (some ⟨w.heap.size,0,none⟩) N N) N (nums .u32 out)∧TimesAt la lb out i∧Below w.heap.size w wr
def MulI (w:World) (la lb:List Nat) (i m N:Nat) (cv jv:Value) (wr:World):Prop :=
 ∃ (j c:Nat) (out:List Nat),j≤m∧jv = .int .i64 j∧cv = .int .u64 c∧wr.ownsRow w.heap.size 123 1 (.slice (some ⟨w.heap.size,0,none⟩) N N) N (nums .u32 out)∧TimesIn la lb out i j c∧Below w.heap.size w wr
theorem mul_bound {x y:Nat} (hx:x < 1000000000) (hy:y < 1000000000):x*y≤999999998000000001:=by
 have:x*y≤999999999*999999999:=Nat.mul_le_mul (by omega) (by omega)
 omega
set_option maxHeartbeats 2000000 in
set_option maxRecDepth 100000 in
theorem times_any (a b:Option Addr) (n m c d:Nat) (la lb:List Nat) (w:World) (hla:la.length=n) (hlb:lb.length=m) (hn:n≤400000) (hm:m≤400000)
  (da:∀ x ∈ la,x < Bs) (db:∀ x ∈ lb,x < Bs) (ha:Nums .u32 w a la) (hb:Nums .u32 w b lb) :
  Calls Tryz.prog 134 #[.slice a n c,.slice b m d] w (MagNew w (val la*val lb)):=by
 obtain ⟨i0,hi,hz0,hz1,hz2⟩:=info_parts infoU32
 obtain ⟨N,hN⟩:∃ N,N=n+m:=⟨_,rfl⟩
 have hNI:((n:Int)+(m:Int))=(N:Int):=by omega
 have HNN:=Lib.hid hN
 have hN1:n+m≤N:=by omega
 have hN2:N≤n+m:=by omega
 have HLA:=Lib.hid hla
 have HLB:=Lib.hid hlb
 have HA:=Lib.hid ha
 have HB:=Lib.hid hb
 have DA:=Lib.hid da
 have DB:=Lib.hid db
 clear hla hlb ha hb da db hN
 go_enter Tryz.func134,Tryz.ntmps134
 go_wp2_with (at_make;refine wpList_make_full _ rfl _ _ 149 rfl w.heap.size 123 i0 (.int .u32 0) 1 Tryz.underlying149 hi hz0 hz1 .i64 .i64 _ _ N rfl rfl ?b0 ?b1 ?b2 ?b3 ?b4 ?_)
 case b0 => omega
 case b1 => omega
 case b2 => rw [hz2];omega
 case b3 => unfold maxLen;omega
 case b4 => exact Nat.le_refl _
 intro w1 ho1 hg1
 rw [nums_zero_made] at ho1
 have hst:MulR w la lb n N (.int .i64 0) w1:=⟨0,List.replicate N 0,Nat.zero_le _,rfl,ho1,by have:=times_start la lb;rwa [HLA.out,HLB.out,← HNN.out] at this,(Below.refl _ _).grown hg1 (Nat.le_refl _) (fun k hk => by cases hk)⟩
 have HST:=Lib.hid hst
 clear ho1 hg1 hst hNI
 go_wp2_with fail
 go_loopw [20] (MulR w la lb n N) (fun i _ => n - (intOf i).toNat)
 case atStart => exact HST.out
 case round =>
  obtain ⟨w2,rfl⟩:∃ w2:World,w2=wr:=⟨_,rfl⟩
  obtain ⟨i,out,hin,rfl,ho,hat,hbl⟩:=hrel
  have HO:=Lib.hid ho
  have HT:=Lib.hid hat
  have HBL:=Lib.hid hbl
  clear ho hat hbl HST
  by_cases hlt:i < n
  ·obtain ⟨x,hx⟩:∃ x,x=la.getD i 0:=⟨_,rfl⟩
   obtain ⟨g,og,rfl,hg,hc⟩:=HA.out.below HBL.out i (by have:=HLA.out;omega)
   rw [← hx] at hc
   have hx10:x < 1000000000:=by rw [hx];exact getD_lt la i DA.out
   have HX:=Lib.hid hx
   have hst:MulI w la lb i m N (.int .u64 0) (.int .i64 0) w2:=⟨0,0,out,Nat.zero_le _,rfl,rfl,HO.out,times_in_start la lb out i HT.out,HBL.out⟩
   have HST:=Lib.hid hst
   clear hx hst HO HT HBL
   go_wp2_with fail
   go_loopw [8,27] (MulI w la lb i m N) (fun _ j _ => m - (intOf j).toNat)
   case atStart => exact HST.out
   case round =>
    obtain ⟨j,cy,out,hjm,rfl,rfl,ho,hat,hbl⟩:=hrel
    have HO:=Lib.hid ho
    have HT:=Lib.hid hat
    have HBL:=Lib.hid hbl
    have hcy:cy < 1000000000:=hat.2.2.1
    clear ho hat hbl HST
    by_cases hlt2:j < m
    ·obtain ⟨y,hy⟩:∃ y,y=lb.getD j 0:=⟨_,rfl⟩
     obtain ⟨gb,ob,rfl,hgb,hcb⟩:=HB.out.below HBL.out j (by have:=HLB.out;omega)
     rw [← hy] at hcb
     have hy10:y < 1000000000:=by rw [hy];exact getD_lt lb j DB.out
     obtain ⟨o,hoo⟩:∃ o,o=out.getD (i+j) 0:=⟨_,rfl⟩
     have ho10:o < 1000000000:=by rw [hoo];exact getD_lt out (i+j) HT.out.2.1
     have hco:wr.cell? ⟨w.heap.size,i+j,none⟩=some (.int .u32 (o:Int)):=by
      have hlen:out.length=N:=by have:=HT.out.1;rw [HLA.out,HLB.out] at this;have:=HNN.out;omega
      rw [HO.out.cellAt (i+j) (by omega),nums_get _ _ _ (by omega),← hoo]
     have hfz:wr.frozen? ⟨w.heap.size,i+j,none⟩=false:=HO.out.frozenAt (i+j)
     have hstp:=times_in_step la lb out i j cy (by have:=HLA.out;omega) (by have:=HLB.out;omega) HT.out DA.out DB.out
     rw [← HX.out,← hy,← hoo] at hstp
     obtain ⟨p,hp⟩:∃ p,p=x*y:=⟨_,rfl⟩
     have hpI:(x:Int)*(y:Int)=(p:Int):=by rw [hp];simp
     have hpb:p≤999999998000000001:=by rw [hp];exact mul_bound hx10 hy10
     rw [← hp] at hstp
     obtain ⟨r,hr⟩:∃ r,r=(p+o+cy) % Bs:=⟨_,rfl⟩
     obtain ⟨q,hq⟩:∃ q,q=(p+o+cy) / Bs:=⟨_,rfl⟩
     rw [← hr,← hq] at hstp
     rw [Bs_eq] at hr hq
     have hrI:((p:Int)+(o:Int)+(cy:Int)) % 1000000000=(r:Int):=by omega
     have hqI:((p:Int)+(o:Int)+(cy:Int)) / 1000000000=(q:Int):=by omega
     have hrb:r < 1000000000:=by omega
     have hqb:q < 1000000000:=by omega
     have HSTP:=Lib.hid hstp
     have hij:i+j < N:=by omega
     have hji:((i:Int)+(j:Int)).toNat=i+j:=by omega
     clear hy hoo hp hr hq hstp
     go_wp2_with fail
     go_roundw
     case rel => exact ⟨j+1,q,out.set (i+j) r,by omega,by go_num,by rw [hqI],by rw [← nums_set];exact (HO.out.stored (i+j) _).1,HSTP.out,HBL.out.setCell (p:=⟨w.heap.size,i+j,none⟩) (Nat.le_refl _) _⟩
     case measure => simp [intOf] <;> omega
    ·obtain rfl:j=m:=by omega
     obtain ⟨o,hoo⟩:∃ o,o=out.getD (i+j) 0:=⟨_,rfl⟩
     have ho0:o < 1:=by
      have:=HT.out.2.2.2.1 (i+j) (by rw [HLB.out];omega)
      omega
     have hco:wr.cell? ⟨w.heap.size,i+j,none⟩=some (.int .u32 (o:Int)):=by
      have hlen:out.length=N:=by have:=HT.out.1;rw [HLA.out,HLB.out] at this;have:=HNN.out;omega
      rw [HO.out.cellAt (i+j) (by omega),nums_get _ _ _ (by omega),← hoo]
     have hfz:wr.frozen? ⟨w.heap.size,i+j,none⟩=false:=HO.out.frozenAt (i+j)
     have hend:=times_in_end la lb out i cy (by have:=HLA.out;omega) (by rw [HLB.out];exact HT.out)
     rw [HLB.out,← hoo] at hend
     have HEND:=Lib.hid hend
     have hij:i+j < N:=by omega
     have hji:((i:Int)+(j:Int)).toNat=i+j:=by omega
     clear hoo hend
     go_wp2_with fail
     go_roundw
     case rel =>
      have e1:((o:Int)+(cy:Int))=((o+cy:Nat):Int):=by omega
      exact ⟨i+1,out.set (i+j) (o+cy),by omega,by go_num,by rw [← nums_set,← e1];exact (HO.out.stored (i+j) _).1,HEND.out,HBL.out.setCell (p:=⟨w.heap.size,i+j,none⟩) (Nat.le_refl _) _⟩
     case measure => simp [intOf] <;> omega
  ·obtain rfl:i=n:=by omega
   have hv:=times_end la lb out (by rw [HLA.out];exact HT.out)
   have htr:=trim_own HO.out (by omega) hv.1
   rw [hv.2] at htr
   have HTR:=Lib.hid htr
   clear hv htr
   go_wp2_with fail
   refine HTR.out.mono ?_
   rintro e w' ⟨⟨v2,l2,rfl,ho2,hr2⟩,rfl⟩
   have HO2:=Lib.hid ho2
   have HR2:=Lib.hid hr2
   clear ho2 hr2
   go_wp2_with fail
   go_ret
   exact ⟨_,l2,rfl,HO2.out,HR2.out,HBL.out⟩
end Go.Proofs.YtijkefflpojmhaaGreatDoor

namespace Go.Proofs.YtijkefflpojmhaaGreatDoor
open Go.RowKit
def ShortPost (w:World) (V d:Nat) (e:Ending) (w':World):Prop :=
 ∃ v l,e = .returned (.tuple #[v,.int .u32 ((V % d:Nat):Int)])∧w'.ownsRow w.heap.size 123 1 v l.length (nums .u32 l)∧Rep l (V / d)∧Below w.heap.size w w'
def ShR (w:World) (la:List Nat) (d n:Nat) (rv iv:Value) (wr:World):Prop :=
 ∃ (i rest:Nat) (q:List Nat),i≤n∧iv = .int .i64 ((i:Int) - 1)∧rv = .int .u64 rest∧wr.ownsRow w.heap.size 123 1 (.slice (some ⟨w.heap.size,0,none⟩) n n) n (nums .u32 q)∧ShortAt la q d i rest∧Below w.heap.size w wr
set_option maxHeartbeats 2000000 in
set_option maxRecDepth 100000 in
theorem short_any (a:Option Addr) (n c d:Nat) (la:List Nat) (w:World) (hla:la.length=n) (hn:n≤900000) (hd1:1≤d) (hd2:d≤1000000000)
  (da:∀ x ∈ la,x < Bs) (ha:Nums .u32 w a la) :
  Calls Tryz.prog 132 #[.slice a n c,.int .u32 d] w (ShortPost w (val la) d):=by
 obtain ⟨i0,hi,hz0,hz1,hz2⟩:=info_parts infoU32
 have HLA:=Lib.hid hla
 have HA:=Lib.hid ha
 have DA:=Lib.hid da
 clear hla ha da
 go_enter Tryz.func132,Tryz.ntmps132
 go_wp2_with (at_make;refine wpList_make_full _ rfl _ _ 149 rfl w.heap.size 123 i0 (.int .u32 0) 1 Tryz.underlying149 hi hz0 hz1 .i64 .i64 _ _ n rfl rfl ?b0 ?b1 ?b2 ?b3 ?b4 ?_)
 case b0 => rfl
 case b1 => rfl
 case b2 => rw [hz2];omega
 case b3 => unfold maxLen;omega
 case b4 => exact Nat.le_refl _
 intro w1 ho1 hg1
 rw [nums_zero_made] at ho1
 have hst:ShR w la d n (.int .u64 0) (.int .i64 ((n:Int) - 1)) w1:=⟨n,0,List.replicate n 0,Nat.le_refl _,rfl,rfl,ho1,by have:=short_start la d hd1;rwa [HLA.out] at this,(Below.refl _ _).grown hg1 (Nat.le_refl _) (fun k hk => by cases hk)⟩
 have HST:=Lib.hid hst
 clear ho1 hg1 hst
 go_wp2_with fail
 go_loopw [6,7] (ShR w la d n) (fun _ i _ => (intOf i+1).toNat)
 case atStart => exact HST.out
 case round =>
  obtain ⟨i,rest,q,hin,rfl,rfl,ho,hat,hbl⟩:=hrel
  have HO:=Lib.hid ho
  have HT:=Lib.hid hat
  have HBL:=Lib.hid hbl
  clear ho hat hbl HST
  by_cases hi0:1≤i
  ·obtain ⟨k,rfl⟩:∃ k,i=k+1:=⟨i - 1,by omega⟩
   rw [show (((k+1:Nat):Int) - 1)=(k:Int) by omega]
   obtain ⟨x,hx⟩:∃ x,x=la.getD k 0:=⟨_,rfl⟩
   obtain ⟨g,og,rfl,hg,hc⟩:=HA.out.below HBL.out k (by have:=HLA.out;omega)
   rw [← hx] at hc
   have hx10:x < 1000000000:=by rw [hx];exact getD_lt la k DA.out
   have hrd:rest < d:=HT.out.2.2.1
   have hstp:=short_step la q d k rest (by have:=HLA.out;omega) DA.out HT.out
   rw [← hx,Bs_eq] at hstp
   obtain ⟨vv,hvv⟩:∃ vv,vv=rest*1000000000+x:=⟨_,rfl⟩
   rw [← hvv] at hstp
   have hvI:((rest:Int)*1000000000+(x:Int))=(vv:Int):=by omega
   have hvb:vv < 1000000000*d:=by omega
   obtain ⟨qq,hqq⟩:∃ qq,qq=vv / d:=⟨_,rfl⟩
   obtain ⟨rr,hrr⟩:∃ rr,rr=vv % d:=⟨_,rfl⟩
   rw [← hqq,← hrr] at hstp
   have hqb:qq < 1000000000:=by rw [hqq];exact Nat.div_lt_of_lt_mul (by rw [Nat.mul_comm];exact hvb)
   have hrb:rr < d:=by rw [hrr];exact Nat.mod_lt _ hd1
   have hqI:(vv:Int) / (d:Int)=(qq:Int):=by rw [hqq];simp
   have hrI:(vv:Int) % (d:Int)=(rr:Int):=by rw [hrr];simp
   have HQI:=Lib.hid hqI
   have HRI:=Lib.hid hrI
   have HVI:=Lib.hid hvI
   have HSTP:=Lib.hid hstp
   have hv18:vv < 1000000000000000000:=by omega
   have wd:IntKind.u64.wrap (d:Int)=(d:Int):=IntWalk.u64_in _ (by omega)
   have wd0:((d:Int)=0)=False:=by simp;omega
   have wq:IntKind.u64.wrap ((vv:Int) / (d:Int))=(qq:Int):=by rw [HQI.out];exact IntWalk.u64_in _ (by omega)
   have wr1:IntKind.u64.wrap ((vv:Int) % (d:Int))=(rr:Int):=by rw [HRI.out];exact IntWalk.u64_in _ (by omega)
   have w32:IntKind.u32.wrap (qq:Int)=(qq:Int):=IntWalk.u32_in _ (by omega)
   have hfz:wr.frozen? ⟨w.heap.size,k,none⟩=false:=HO.out.frozenAt k
   obtain ⟨yo,hyo⟩:∃ yo:Nat,wr.cell? ⟨w.heap.size,k,none⟩=some (.int .u32 (yo:Int)):=by
    have hlen:q.length=n:=by rw [HT.out.1,HLA.out]
    exact ⟨_,by rw [HO.out.cellAt k (by omega),nums_get _ _ _ (by omega)]⟩
   clear hx hvv hqq hrr hqI hrI hvI hstp hvb
   go_upto_region 7 with (fail)
   rw [HVI.out]
   go_region
   all_goals
    clear wd wd0 wq wr1 w32 hyo hfz
    go_wp2_with fail
    go_roundw
    case rel => exact ⟨k,rr,q.set k qq,by omega,rfl,by rw [HRI.out],by rw [← nums_set];exact (HO.out.stored k _).1,HSTP.out,(HBL.out.setCell (p:=⟨w.heap.size,k,none⟩) (Nat.le_refl _) _).drew⟩
    case measure => simp [intOf] <;> omega
  ·obtain rfl:i=0:=by omega
   have hv:=short_end la q d rest HT.out
   have htr:=trim_own HO.out (by omega) HT.out.2.1
   rw [hv.1] at htr
   have HTR:=Lib.hid htr
   have hrest:=hv.2
   have hrd:rest < d:=HT.out.2.2.1
   have HRS:=Lib.hid hrest
   clear hv htr hrest
   go_wp2_with fail
   refine HTR.out.mono ?_
   rintro e w' ⟨⟨v2,l2,rfl,ho2,hr2⟩,rfl⟩
   have HO2:=Lib.hid ho2
   have HR2:=Lib.hid hr2
   clear ho2 hr2
   go_wp2_with fail
   go_ret2
   exact ⟨_,l2,by rw [← HRS.out];rfl,HO2.out,HR2.out,HBL.out⟩
def GsR (t u v y z:Nat) (qv rv:Value):Prop := ∃ q r:Nat,qv = .int .u64 q∧rv = .int .u64 r∧t*Bs+u=q*y+r∧gss t u v y z≤q∧q≤2000000000∧r < 1000000000
set_option maxHeartbeats 2000000 in
set_option maxRecDepth 100000 in
theorem guess_any (t u v y z:Nat) (w:World) (ht:t≤y) (hu:u < 1000000000) (hv:v < 1000000000) (hz:z < 1000000000) (hy1:1≤y) (hy2:y < 1000000000) :
  Calls Tryz.prog 135 #[.int .u64 t,.int .u64 u,.int .u64 v,.int .u64 y,.int .u64 z] w fun e w' => e = .returned (.int .u64 (gss t u v y z:Nat)) ∧ ∃ q,w' = w.drewN q:=by
 obtain ⟨top,htop⟩:∃ top,top=t*Bs+u:=⟨_,rfl⟩
 have e0:=htop
 rw [Bs_eq] at e0
 have hI:((t:Int)*1000000000+(u:Int))=(top:Int):=by omega
 have htb:top < 1000000000000000000:=by omega
 obtain ⟨q0,hq0⟩:∃ q,q=top / y:=⟨_,rfl⟩
 obtain ⟨r0,hr0⟩:∃ r,r=top % y:=⟨_,rfl⟩
 have hqI:(top:Int) / (y:Int)=(q0:Int):=by rw [hq0];simp
 have hrI:(top:Int) % (y:Int)=(r0:Int):=by rw [hr0];simp
 have hg0:=guess_start (t:=t) (u:=u) (v:=v) (y:=y) (z:=z) hy1 hv
 have hb0:=guess_bound (t:=t) (u:=u) (y:=y) hy1 ht hu
 rw [← htop,← hq0] at hg0 hb0
 have hq2:q0≤2000000000:=by have:=Bs_eq;omega
 have hr2:r0 < y:=by rw [hr0];exact Nat.mod_lt _ hy1
 have hst:GsR t u v y z (.int .u64 q0) (.int .u64 r0):=⟨q0,r0,rfl,rfl,by rw [← htop,hq0,hr0,Nat.mul_comm];exact (Nat.div_add_mod top y).symm,hg0,hq2,by omega⟩
 have HST:=Lib.hid hst
 have HI:=Lib.hid hI
 have wq:IntKind.u64.wrap ((top:Int) / (y:Int))=(q0:Int):=by rw [hqI];exact IntWalk.u64_in _ (by omega)
 have wr1:IntKind.u64.wrap ((top:Int) % (y:Int))=(r0:Int):=by rw [hrI];exact IntWalk.u64_in _ (by omega)
 have wy0:((y:Int)=0)=False:=by simp;omega
 have HRI:=Lib.hid hrI
 have WQ:=Lib.hid wq
 have WR:=Lib.hid wr1
 have WY:=Lib.hid wy0
 clear htop e0 hq0 hr0 hqI hrI hg0 hb0 hst hI wq wr1 wy0
 go_enter Tryz.func135,Tryz.ntmps135
 go_upto_region 2 with (fail)
 rw [HI.out]
 have wq:=WQ.out
 have wr1:=WR.out
 have wy0:=WY.out
 go_quiet (fail)
 clear wq wr1 wy0 htb hq2 hr2
 go_wp2_with fail
 rw [HRI.out]
 obtain ⟨W0,hW0⟩:∃ W0,W0=w.drewN nq:=⟨_,rfl⟩
 rw [← hW0]
 have HW0:=Lib.hid hW0
 clear hW0
 go_loop [12,13] (fun qv rv => GsR t u v y z qv rv) (fun qv _ => (intOf qv).toNat)
 case atStart => exact HST.out
 case round =>
  obtain ⟨q,r,rfl,rfl,htop,hge,hq2,hr2⟩:=hrel
  have HTOP:=Lib.hid htop
  have HGE:=Lib.hid hge
  obtain ⟨P,hP⟩:∃ P,P=q*z:=⟨_,rfl⟩
  have hPI:(q:Int)*(z:Int)=(P:Int):=by rw [hP];simp
  obtain ⟨B,hB⟩:∃ B:Bool,B=decide (1000000000≤q ∨ r*1000000000+v < P):=⟨_,rfl⟩
  have HP:=Lib.hid hP
  have HB:=Lib.hid hB
  clear hP hB htop hge HST
  go_upto_region 3 with (fail)
  go_cut [35] (fun s wx => s = .bool B∧W0=wx)
  case first => as_aux_lemma =>
   by_cases hq:1000000000≤q
   ·have e:B=true:=by rw [HB.out];simp;omega
    have E:=Lib.hid e
    have tq:decide ((1000000000:Int)≤(q:Int))=true:=by simp;omega
    have HQQ:=Lib.hid hq
    clear e hq
    go_wp2_with fail
    go_meet
    exact ⟨by rw [E.out],rfl⟩
   ·have hPb:P < 1000000000000000000:=by
     rw [HP.out]
     have:q*z≤999999999*999999999:=Nat.mul_le_mul (by omega) (by omega)
     omega
    have tq:decide ((1000000000:Int)≤(q:Int))=false:=by simp;omega
    by_cases hp:r*1000000000+v < P
    ·have e:B=true:=by rw [HB.out];simp;omega
     have E:=Lib.hid e
     have t1:decide ((r:Int)*1000000000+(v:Int) < (P:Int))=true:=by simp;omega
     have HQQ:=Lib.hid hq
     have HPP:=Lib.hid hp
     clear e hq hp
     go_wp2_with fail
     go_meet
     exact ⟨by rw [E.out],rfl⟩
    ·have e:B=false:=by rw [HB.out];simp;omega
     have E:=Lib.hid e
     have t1:decide ((r:Int)*1000000000+(v:Int) < (P:Int))=false:=by simp;omega
     have HQQ:=Lib.hid hq
     have HPP:=Lib.hid hp
     clear e hq hp
     go_wp2_with fail
     go_meet
     exact ⟨by rw [E.out],rfl⟩
  case rest => as_aux_lemma =>
   obtain ⟨rfl,rfl⟩:=hcut
   clear hPI
   cases B with
   | true =>
    have hc:1000000000≤q ∨ r*1000000000+v < P:=by have:=HB.out;simpa using this.symm
    have hd:=guess_down HTOP.out (by rw [Bs_eq,← HP.out];exact hc)
    obtain ⟨p,rfl⟩:∃ p,q=p+1:=⟨q - 1,by omega⟩
    have htop2:t*Bs+u=p*y+(r+y):=by rw [HTOP.out,Nat.add_mul];omega
    have HT2:=Lib.hid htop2
    have HD:=Lib.hid hd
    have hp1:((p+1:Nat):Int)=(p:Int)+1:=by omega
    rw [hp1]
    clear hc hd htop2 hp1
    by_cases hbr:1000000000≤r+y
    ·have heq:=Nat.le_antisymm (Nat.le_of_lt_succ HD.out) (guess_break (t:=t) (u:=u) (v:=v) (y:=y) (z:=z) hy1 ht hu hz HT2.out (by rw [Bs_eq];exact hbr))
     have HQ:=Lib.hid heq
     have tb:decide ((1000000000:Int)≤(r:Int)+(y:Int))=true:=by simp;omega
     clear heq hbr
     go_wp2_with fail
     go_ret
     exact ⟨by rw [HQ.out];rfl,nq,HW0.out⟩
    ·have tb:decide ((1000000000:Int)≤(r:Int)+(y:Int))=false:=by simp;omega
     have HBR:=Lib.hid hbr
     clear hbr
     go_wp2_with fail
     go_round
     case rel => exact ⟨p,r+y,rfl,by congr 1,HT2.out,Nat.le_of_lt_succ HD.out,by omega,by have:=HBR.out;omega⟩
     case measure => simp [intOf] <;> omega
   | false =>
    have hc:¬ (1000000000≤q ∨ r*1000000000+v < P):=by have:=HB.out;simpa using this.symm
    have heq:=Nat.le_antisymm HGE.out (guess_up (t:=t) (u:=u) (v:=v) (y:=y) (z:=z) hy1 HTOP.out (by rw [Bs_eq];omega) (by rw [Bs_eq,← HP.out];omega))
    have HQ:=Lib.hid heq
    clear hc heq
    go_wp2_with fail
    go_ret
    exact ⟨by rw [HQ.out];rfl,nq,HW0.out⟩
end Go.Proofs.YtijkefflpojmhaaGreatDoor

namespace Go.Proofs.YtijkefflpojmhaaGreatDoor
open Go.RowKit
theorem rep_ge (l:List Nat) (N:Nat) (h:Rep l N) (hne:l ≠ []):Bs ^ (l.length - 1)≤N:=by
 obtain ⟨h1,h2,h3⟩:=h
 obtain ⟨m,x,rfl⟩:∃ m x,l=m ++ [x]:=⟨l.dropLast,l.getLast hne,(List.dropLast_concat_getLast hne).symm⟩
 rw [List.getLast?_concat] at h2
 rw [val_snoc] at h3
 have hx:1≤x:=by
  rcases Nat.eq_zero_or_pos x with rfl | h
  ·exact absurd rfl h2
  ·exact h
 have:=Nat.mul_le_mul_left (Bs ^ m.length) hx
 simp;omega
theorem rep_lt (l:List Nat) (N:Nat) (h:Rep l N):N < Bs ^ l.length:=by rw [← h.2.2];exact val_lt l h.1
theorem Bs_one:1 < Bs:=by decide
theorem rep_len_of (l:List Nat) (N k:Nat) (h:Rep l N) (hk:N < Bs ^ k):l.length≤k:=by
 by_cases hne:l=[]
 ·rw [hne];simp
 ·have h1:=rep_ge l N h hne
  have h2:=(Nat.pow_lt_pow_iff_right Bs_one).1 (Nat.lt_of_le_of_lt h1 hk)
  omega
theorem rep_top (l:List Nat) (N n:Nat) (h:Rep l N) (hn:l.length=n+1):0 < l.getD n 0:=by
 have h2:=h.2.1
 rw [List.getLast?_eq_getElem?,hn,Nat.add_sub_cancel,List.getElem?_eq_getElem (by omega)] at h2
 rw [List.getD_eq_getElem?_getD,List.getElem?_eq_getElem (by omega)]
 simp at h2 ⊢
 omega
theorem rep_nil:Rep [] 0:=⟨by simp,by simp,rfl⟩
theorem scale_len (b v:List Nat) (B s n:Nat) (hb:Rep b B) (hn:b.length=n+1) (hs:s=Bs / (b.getD n 0+1)) (hv:Rep v (B*s)):v.length=n+1∧1≤s∧s < Bs:=by
 have htop:=rep_top b B n hb hn
 have hne:b ≠ []:=by intro h;rw [h] at hn;cases hn
 obtain ⟨h1,h2,h3⟩:=scale_ok (s:=s) b hb.1 hne (by rw [hn];exact hs)
 rw [hb.2.2,hn] at h3
 have h4:=rep_len_of v _ _ hv h3
 have h5:b.length≤v.length:=rep_len_le v b (B*s) B hv hb (Nat.le_mul_of_pos_right _ h1)
 refine ⟨by omega,h1,?_⟩
 rw [hs]
 have:Bs / (b.getD n 0+1)≤Bs / 2:=Nat.div_le_div_left (by omega) (by omega)
 have:=Bs_eq
 omega
theorem long_start (b u0:List Nat) (A B s na nb:Nat) (hA:A < Bs ^ na) (hb:Rep b B) (hnb:b.length=nb+1) (hs:1≤s) (hu:val u0=A*s) (hul:u0.length=na+1) (hle:nb+1≤na) :
  val (u0.drop (u0.length - (nb+1))) < B*s:=by
 refine div_top u0 _ _ (by omega) ?_
 have hne:b ≠ []:=by intro h;rw [h] at hnb;cases hnb
 have h1:=rep_ge b B hb hne
 rw [hnb,Nat.add_sub_cancel] at h1
 rw [hu,hul,show na+1 - (nb+1)=na - nb by omega]
 have h2:Bs ^ na=Bs ^ (na - nb)*Bs ^ nb:=by rw [← Nat.pow_add];congr 1;omega
 have h3:=Nat.mul_le_mul_left (Bs ^ (na - nb)) h1
 have h4:A < Bs ^ (na - nb)*B:=by rw [← h2] at h3;omega
 have h5:=(Nat.mul_lt_mul_right (a:=s) (by omega)).2 h4
 rw [Nat.mul_assoc] at h5
 exact h5
def ucp (u left:List Nat) (j i:Nat):List Nat:=u.take j ++ padL left i ++ u.drop (j+i)
theorem ucp_length (u left:List Nat) (j i:Nat) (h:j+i≤u.length):(ucp u left j i).length=u.length:=by
 unfold ucp;simp [padL_length];omega
theorem ucp_start (u left:List Nat) (j:Nat):ucp u left j 0=u:=by
 unfold ucp;simp [padL]
theorem ucp_step (u left:List Nat) (j i:Nat) (h:j+i < u.length):(ucp u left j i).set (j+i) (left.getD i 0)=ucp u left j (i+1):=by
 unfold ucp
 have hl:(u.take j ++ padL left i).length=j+i:=by simp [padL_length];omega
 rw [List.set_append_right _ _ (by omega),hl,Nat.sub_self,List.drop_eq_getElem_cons h,List.set_cons_zero,padL_succ,← Nat.add_assoc]
 simp
theorem set_set_same (l:List Nat) (i x y:Nat):(l.set i x).set i y=l.set i y:=by simp
theorem scale_bd (b:List Nat) (B s n:Nat) (hb:Rep b B) (hn:b.length=n+1) (hs:s=Bs / (b.getD n 0+1)):1≤s∧s < Bs:=by
 have htop:=rep_top b B n hb hn
 have hne:b ≠ []:=by intro h;rw [h] at hn;cases hn
 obtain ⟨h1,h2,h3⟩:=scale_ok (s:=s) b hb.1 hne (by rw [hn];exact hs)
 refine ⟨h1,?_⟩
 rw [hs]
 have:Bs / (b.getD n 0+1)≤Bs / 2:=Nat.div_le_div_left (by omega) (by omega)
 have:=Bs_eq
 omega
def MagAt (w:World) (v:Value) (N:Nat):Prop := ∃ a c l,v = .slice a l.length c∧l.length≤c∧Nums .u32 w a l∧Rep l N
theorem MagAt.below {w w':World} {v:Value} {N:Nat} (h:MagAt w v N) (hb:Below w.heap.size w w'):MagAt w' v N:=by
 obtain ⟨a,c,l,h1,h2,h3,h4⟩:=h
 exact ⟨a,c,l,h1,h2,h3.below hb,h4⟩
theorem MagAt.of_own {w:World} {B:Nat} {v:Value} {l:List Nat} {N:Nat} (h:w.ownsRow B 123 1 v l.length (nums .u32 l)) (hr:Rep l N):MagAt w v N:=by
 obtain ⟨a,c,rfl,hl,hc,hn⟩:=nums_of_owns h
 exact ⟨a,c,l,rfl,hc,hn,hr⟩
def QRPost (w:World) (A B:Nat) (e:Ending) (w':World):Prop :=
 ∃ v1 v2,e = .returned (.tuple #[v1,v2])∧MagAt w' v1 (A / B)∧MagAt w' v2 (A % B)∧Below w.heap.size w w'
set_option maxHeartbeats 1000000 in
set_option maxRecDepth 100000 in
theorem divide_small (a b:Option Addr) (n m c d A B:Nat) (la lb:List Nat) (w:World) (hla:la.length=n) (hlb:lb.length=m) (hn:n≤100000) (hm:m≤100000) (hnc:n≤c)
  (ra:Rep la A) (rb:Rep lb B) (ha:Nums .u32 w a la) (hb:Nums .u32 w b lb) (hlt:A < B) :
  Calls Tryz.prog 124 #[.slice a n c,.slice b m d] w (QRPost w A B):=by
 have hc:=mcmp_any a b n m c d A B la lb w hla hlb (by omega) (by omega) ra rb ha hb
 rw [cmpN_lt hlt] at hc
 have HC:=Lib.hid hc
 have HN:=Lib.hid ha
 have HR:=Lib.hid ra
 have HL:=Lib.hid hla
 have HLT:=Lib.hid hlt
 clear hc ha hb ra rb hla hlb hlt
 go_enter Tryz.func124,Tryz.ntmps124
 go_wp2_with fail
 refine HC.out.mono ?_
 rintro e w' ⟨rfl,q,hw⟩
 have HW:=Lib.hid hw
 clear hw
 go_wp2_with fail
 go_ret2
 refine ⟨.slice none 0 0,.slice a n c,rfl,⟨none,0,[],rfl,Nat.le_refl _,Nums.nil _ _ _,?_⟩,⟨a,c,la,by rw [HL.out],by rw [HL.out];exact hnc,by rw [HW.out];exact HN.out.drewN q,?_⟩,by rw [HW.out];exact below_drewN (Below.refl _ _) q⟩
 ·rw [Nat.div_eq_of_lt HLT.out];exact rep_nil
 ·rw [Nat.mod_eq_of_lt HLT.out];exact HR.out
theorem trim_lit (w:World) (x:Nat) (hx:x < Bs) :
  Calls Tryz.prog 133 #[.slice (some ⟨w.heap.size,0,none⟩) 1 1] (w.alloc (.cells #[.int .u32 (x:Int)] 123)) fun e w' =>
   (∃ v l,e = .returned v∧w'.ownsRow w.heap.size 123 1 v l.length (nums .u32 l)∧Rep l x)∧w.alloc (.cells #[.int .u32 (x:Int)] 123)=w':=by
 have hlit:(w.alloc (.cells #[.int .u32 (x:Int)] 123)).ownsRow w.heap.size 123 1 (.slice (some ⟨w.heap.size,0,none⟩) 1 1) 1 (nums .u32 [x]) :=
  World.ownsRow_lit w #[.int .u32 (x:Int)] 1 (Nat.le_refl _) (by unfold maxLen;omega) (by simp)
 have h:=trim_own hlit (by omega) (by simpa using hx)
 refine h.mono fun e w' ⟨⟨v,l,e1,e2,e3⟩,e4⟩ => ?_
 subst e4
 exact ⟨⟨v,l,e1,e2,by simpa [val] using e3⟩,rfl⟩
set_option maxHeartbeats 1000000 in
set_option maxRecDepth 100000 in
theorem divide_one (a b:Option Addr) (n c d A B:Nat) (la lb:List Nat) (w:World) (hla:la.length=n) (hlb:lb.length=1) (hn:n≤100000)
  (ra:Rep la A) (rb:Rep lb B) (ha:Nums .u32 w a la) (hb:Nums .u32 w b lb) (hle:B≤A) :
  Calls Tryz.prog 124 #[.slice a n c,.slice b 1 d] w (QRPost w A B):=by
 have hcm:=mcmp_any a b n 1 c d A B la lb w hla hlb (by omega) (by omega) ra rb ha hb
 obtain ⟨z,hz,hz0⟩:∃ z,z=cmpN A B∧0≤z:=⟨_,rfl,by
  rcases Nat.lt_or_ge B A with h | h
  ·rw [cmpN_gt h];omega
  ·rw [cmpN_eq (by omega)];omega⟩
 rw [← hz] at hcm
 obtain ⟨y,rfl⟩:∃ y,lb=[y]:=by
  match lb,hlb with
  | [y],_ => exact ⟨y,rfl⟩
 have hy:B=y:=by have:=rb.2.2;simpa [val] using this.symm
 subst hy
 have hy0:=rep_top [B] B 0 rb rfl
 simp at hy0
 have hyb:B < 1000000000:=rb.1 B (by simp)
 obtain ⟨gb,ob,rfl,hgb,hcb⟩:=hb 0 (by simp)
 simp only [Nat.add_zero,List.getD_cons_zero] at hcb
 have hsh:=fun q => short_any a n c B la (w.drewN q) hla (by omega) hy0 (by omega) ra.1 (ha.drewN q)
 rw [ra.2.2] at hsh
 have HC:=Lib.hid hcm
 have HS:=Lib.hid hsh
 clear hcm ha hb ra rb hla hlb hle hz hsh
 have hyb2:B < Bs:=hyb
 have HYB:=Lib.hid hyb2
 clear hyb2
 go_enter Tryz.func124,Tryz.ntmps124
 go_wp2_with fail
 refine HC.out.mono ?_
 rintro e w1 ⟨rfl,q,rfl⟩
 go_wp2_with fail
 refine (HS.out q).mono ?_
 rintro e w2 ⟨v,l,rfl,ho,hr,hb2⟩
 have M1:=Lib.hid (MagAt.of_own ho hr)
 have B2:Hid (Below w.heap.size w w2):=(below_drewN (Below.refl _ _) q).trans hb2
 have hmod:A % B < B:=Nat.mod_lt _ hy0
 obtain ⟨r,hr2⟩:∃ r,r=A % B:=⟨_,rfl⟩
 rw [← hr2] at hmod ⊢
 have HR:=Lib.hid hr2
 clear ho hr hb2 hr2
 go_wp2_with fail
 refine (trim_lit w2 r (Nat.lt_trans hmod HYB.out)).mono ?_
 rintro e w3 ⟨⟨v3,l3,rfl,ho3,hr3⟩,hw3⟩
 have B3:Hid (Below w.heap.size w w3):=by rw [← hw3];exact B2.out.alloc B2.out.size _
 have M3:=Lib.hid (MagAt.of_own ho3 hr3)
 have M13:Hid (MagAt w3 v (A / B)):=by rw [← hw3];exact M1.out.below ((Below.refl _ _).alloc (Nat.le_refl _) _)
 clear hw3 ho3 hr3
 go_wp2_with fail
 go_ret2
 exact ⟨v,v3,rfl,M13.out,by rw [← HR.out];exact M3.out,B3.out⟩
end Go.Proofs.YtijkefflpojmhaaGreatDoor

namespace Go.Proofs.YtijkefflpojmhaaGreatDoor
open Go.RowKit
def PadR (w:World) (n N:Nat) (v:Value) (wr:World):Prop :=
 ∃ u:List Nat,u.length≤n+1∧wr.ownsRow w.heap.size 123 1 v u.length (nums .u32 u)∧(∀ x ∈ u,x < Bs)∧val u=N∧Below w.heap.size w wr
def CpR (w5:World) (gu j p:Nat) (u left:List Nat) (iv:Value) (wr:World):Prop :=
 ∃ i:Nat,i≤p+3∧iv = .int .i64 i∧RowAt wr gu 123 (nums .u32 (ucp u left j i))∧w5.grownBy wr (some gu)
theorem take_drop_getD (l:List Nat) (j m k:Nat) (h:k < m):((l.drop j).take m).getD k 0=l.getD (j+k) 0:=by
 rw [List.getD_eq_getElem?_getD,List.getElem?_take_of_lt h,List.getElem?_drop,List.getD_eq_getElem?_getD]
def DvR (w:World) (gu gv gq:Nat) (u0 v:List Nat) (V p K:Nat) (iv:Value) (wr:World):Prop :=
 ∃ (i:Nat) (u q:List Nat),i≤K∧iv = .int .i64 ((i:Int) - 1)∧RowAt wr gu 123 (nums .u32 u)∧RowAt wr gv 123 (nums .u32 v)∧RowAt wr gq 123 (nums .u32 q)∧DivAt u0 u q V (p+2) i∧Below w.heap.size w wr
set_option maxHeartbeats 4000000 in
set_option maxRecDepth 100000 in
theorem divide_long (a b:Option Addr) (n p c d A B:Nat) (la lb:List Nat) (w:World) (hla:la.length=n) (hlb:lb.length=p+2) (hn:n≤100000) (hm:p≤99998)
  (ra:Rep la A) (rb:Rep lb B) (ha:Nums .u32 w a la) (hb:Nums .u32 w b lb) (hle:B≤A) :
  Calls Tryz.prog 124 #[.slice a n c,.slice b (p+2) d] w (QRPost w A B):=by
 obtain ⟨i0,hi,hz0,hz1,hz2⟩:=info_parts infoU32
 have hcm:=mcmp_any a b n (p+2) c d A B la lb w hla hlb (by omega) (by omega) ra rb ha hb
 obtain ⟨z,hz,hz0'⟩:∃ z,z=cmpN A B∧0≤z:=⟨_,rfl,by
  rcases Nat.lt_or_ge B A with h | h
  ·rw [cmpN_gt h];omega
  ·rw [cmpN_eq (by omega)];omega⟩
 rw [← hz] at hcm
 obtain ⟨y,hy⟩:∃ y,y=lb.getD (p+1) 0:=⟨_,rfl⟩
 have hyb:y < 1000000000:=by rw [hy];exact getD_lt lb _ rb.1
 obtain ⟨gb,ob,rfl,hgb,hcb⟩:=hb (p+1) (by omega)
 rw [← hy] at hcb
 obtain ⟨s,hs⟩:∃ s,s=1000000000 / (y+1):=⟨_,rfl⟩
 have hsI:(1000000000:Int) / ((y:Int)+1)=(s:Int):=by rw [hs];simp
 have hsl:=fun v hv => scale_len lb v B s (p+1) rb hlb (by rw [hs,← hy];rfl) hv
 have hsb:s≤1000000000:=by rw [hs];exact Nat.div_le_self _ _
 have hnb:p+2≤n:=by have:=rep_len_le la lb A B ra rb hle;omega
 have HSL:=Lib.hid hsl
 have HC:=Lib.hid hcm
 have RA:=Lib.hid ra
 have RB:=Lib.hid rb
 have HA:=Lib.hid ha
 have HB:=Lib.hid hb
 have HLA:=Lib.hid hla
 have HLB:=Lib.hid hlb
 have HLE:=Lib.hid hle
 obtain ⟨hs1,hs2⟩:=scale_bd lb B s (p+1) rb hlb (by rw [hs,← hy];rfl)
 have hs3:s < 1000000000:=hs2
 have hsm:(1000000000:Int) / ((y:Int)+1) % 4294967296=(s:Int):=by rw [hsI];omega
 have HSM:=Lib.hid hsm
 have HS2:=Lib.hid hs2
 have t1:(((p:Int)+2) == 1)=false:=by rw [beq_eq_false_iff_ne];omega
 clear hcm hz hs hsI hsl hsm hs2 ra rb ha hb hla hlb hle hy
 go_enter Tryz.func124,Tryz.ntmps124
 go_wp2_with fail
 refine HC.out.mono ?_
 rintro e w1 ⟨rfl,q,rfl⟩
 go_wp2_with fail
 rw [HSM.out]
 obtain ⟨W1,hW1⟩:∃ W1,W1=(w.drewN q).alloc (.cells #[.int .u32 (s:Int)] 123):=⟨_,rfl⟩
 have b1:Below w.heap.size w W1:=by rw [hW1];exact (below_drewN (Below.refl _ _) q).alloc (Nat.le_refl _) _
 have hlit:Nums .u32 W1 (some ⟨w.heap.size,0,none⟩) [s]:=by
  intro i hi
  obtain rfl:i=0:=by simpa using hi
  refine ⟨_,0,rfl,by rw [hW1];simp [World.drewN],?_⟩
  rw [hW1]
  exact (rowAt_alloc (w:=w.drewN q) (c := #[.int .u32 (s:Int)]) (t:=123) rfl rfl).cell (i:=0) (by simp)
 have htm:=times_any a (some ⟨w.heap.size,0,none⟩) n 1 c 1 la [s] W1 HLA.out rfl (by omega) (by omega) RA.out.1 (by intro x hx;rw [List.mem_singleton.1 hx];exact HS2.out) (HA.out.below b1) hlit
 rw [RA.out.2.2,show val [s]=s by simp [val]] at htm
 rw [← hW1]
 have HT:=Lib.hid htm
 have BW1:=Lib.hid b1
 have LIT1:=Lib.hid hlit
 clear b1 hlit htm hW1
 refine HT.out.mono ?_
 rintro e w2 ⟨v2,u,rfl,ho2,hr2,b2⟩
 have hB2:=BW1.out.trans (b2.mono BW1.out.size)
 have hul:u.length≤n+1:=rep_len_of u _ _ hr2 (by
  have h1:=rep_lt la A RA.out
  rw [HLA.out] at h1
  rw [Nat.pow_succ]
  exact Nat.mul_lt_mul_of_lt_of_lt h1 HS2.out)
 have hO2:w2.ownsRow w.heap.size 123 1 v2 u.length (nums .u32 u):=by
  obtain ⟨h1,h2⟩:=ho2
  refine ⟨h1,?_⟩
  rcases h2 with h | ⟨g,cap,cur,e1,e2,e3⟩
  ·exact .inl h
  ·exact .inr ⟨g,cap,cur,e1,Nat.le_trans BW1.out.size e2,e3⟩
 have hst:PadR w n (A*s) v2 w2:=⟨u,hul,hO2,hr2.1,hr2.2.2,hB2⟩
 have HST:=Lib.hid hst
 clear ho2 hr2 b2 hB2 hul hO2 hst HT
 go_wp2_with fail
 go_loopw [10] (PadR w n (A*s)) (fun v _ => n+1 - (match v with | .slice _ k _ => k | _ => 0))
 case atStart => exact HST.out
 case round =>
  obtain ⟨u,hul,ho,hd,hv,hb⟩:=hrel
  obtain ⟨au,cu,rfl,_,huc,_⟩:=nums_of_owns ho
  have HO:=Lib.hid ho
  have HD:=Lib.hid hd
  have HV:=Lib.hid hv
  have HBU:=Lib.hid hb
  obtain ⟨k,hk⟩:∃ k,k=u.length:=⟨_,rfl⟩
  rw [← hk] at HO hul huc ⊢
  have HK:=Lib.hid hk
  clear ho hd hv hb hk HST
  by_cases hlt:k≤n
  ·go_wp2_with (at_builtin;refine wpList_append1 _ rfl (.tmp 58) (.tmp 59) 149 rfl w.heap.size 123 i0 (.int .u32 0) 4 Tryz.underlying149 hi hz0 hz1 hz2 rfl _ _ _ rfl (HO.out.alloc _) ⟨wr.heap.size,0,none⟩ 1 (.int .u32 0) rfl ?c1 rfl ?c3 ?c4 ?c5 ?_)
   case c3 => unfold maxLen;omega
   case c4 => omega
   case c5 => have:=HBU.out.size;simp;omega
   intro v3 w3 ho3 hg3 hne3 hpl3
   have n3:Below w.heap.size w w3:=(HBU.out.alloc HBU.out.size _).grown hg3 (by have:=HBU.out.size;simp;omega) (fun k hk => (HO.out.lt k hk).1)
   have ho4:w3.ownsRow w.heap.size 123 1 v3 (k+1) (nums .u32 (u ++ [0])):=by rw [← nums_snoc];exact ho3
   obtain ⟨a3,c3,rfl,_,_,_⟩:=nums_of_owns ho4
   have HO4:=Lib.hid ho4
   have N3:=Lib.hid n3
   clear ho3 hg3 hne3 hpl3 ho4 n3
   go_wp2_with fail
   go_roundw
   case rel =>
    refine ⟨u ++ [0],by simp;have:=HK.out;omega,by rw [List.length_append,← HK.out];exact HO4.out,?_,by rw [val_snoc];simp [HV.out],N3.out⟩
    intro x hx
    rcases List.mem_append.1 hx with hx | hx
    ·exact HD.out x hx
    ·rw [List.mem_singleton.1 hx];exact Bs_pos
   case measure => simp;omega
  ·obtain rfl:k=n+1:=by omega
   obtain ⟨w3,rfl⟩:∃ w3:World,w3=wr:=⟨_,rfl⟩
   clear hlt hul
   go_wp2_with fail
   obtain ⟨W4,hW4⟩:∃ W4,W4=w3.alloc (.cells #[.int .u32 (s:Int)] 123):=⟨_,rfl⟩
   have b34:Below w3.heap.size w3 W4:=by rw [hW4];exact (Below.refl _ _).alloc (Nat.le_refl _) _
   have hlit2:Nums .u32 W4 (some ⟨w3.heap.size,0,none⟩) [s]:=by
    intro i hi
    obtain rfl:i=0:=by simpa using hi
    refine ⟨_,0,rfl,by rw [hW4];simp,?_⟩
    rw [hW4]
    exact (rowAt_alloc (w:=w3) (c := #[.int .u32 (s:Int)]) (t:=123) rfl rfl).cell (i:=0) (by simp)
   have b4:=HBU.out.trans (b34.mono HBU.out.size)
   have htm:=times_any (some ⟨gb,ob,none⟩) (some ⟨w3.heap.size,0,none⟩) (p+2) 1 d 1 lb [s] W4 HLB.out rfl (by omega) (by omega) RB.out.1 (by intro x hx;rw [List.mem_singleton.1 hx];exact HS2.out) (HB.out.below b4) hlit2
   rw [RB.out.2.2,show val [s]=s by simp [val]] at htm
   rw [← hW4]
   rcases rowAt_of_owns HO.out with ⟨_,h0,_⟩ | ⟨gu,cu',hu,hgu,hcu,hcum,_,hru⟩
   ·omega
   injection hu with hu1 _ hu3
   subst hu1 hu3
   have hru4:RowAt W4 gu 123 (nums .u32 u):=hru.below b34 hru.lt
   have hgu4:gu < W4.heap.size:=hru4.lt
   refine htm.mono ?_
   rintro e w5 ⟨v5,vl,rfl,ho5,hr5,b5⟩
   have hvl:vl.length=p+2:=(HSL.out vl hr5).1
   rw [hvl] at ho5
   rcases rowAt_of_owns ho5 with ⟨_,h0,_⟩ | ⟨gv,cv,rfl,hgv,hcv,hcvm,_,hrv⟩
   ·omega
   have hru5:RowAt w5 gu 123 (nums .u32 u):=hru4.below b5 hru4.lt
   have hguv:gu < gv:=Nat.lt_of_lt_of_le hgu4 hgv
   have b05:=b4.trans (b5.mono b4.size)
   have RU5:=Lib.hid hru5
   have RV5:=Lib.hid hrv
   have RR5:=Lib.hid hr5
   have B05:=Lib.hid b05
   have HVL:=Lib.hid hvl
   clear hW4 b34 hlit2 b4 htm hru4 hgu4 ho5 hr5 b5 hru5 hrv b05 hru hgv HO HBU LIT1 BW1 hvl
   obtain ⟨K,hK⟩:∃ K,K+p+1=n:=⟨n - p - 1,by omega⟩
   have hK1:K+p+1≤n:=by omega
   have hK2:n≤K+p+1:=by omega
   clear hK
   go_wp2_with (at_make;refine wpList_make_full _ rfl _ _ 149 rfl w5.heap.size 123 i0 (.int .u32 0) 1 Tryz.underlying149 hi hz0 hz1 .i64 .i64 _ _ K rfl rfl ?m0 ?m1 ?m2 ?m3 ?m4 ?_)
   case m0 => omega
   case m1 => omega
   case m2 => rw [hz2];omega
   case m3 => unfold maxLen;omega
   case m4 => exact Nat.le_refl _
   intro w6 ho6 hg6
   rw [nums_zero_made] at ho6
   rcases rowAt_of_owns ho6 with ⟨_,h0,_⟩ | ⟨gq,cq,hq6,_,_,_,_,hrq⟩
   ·omega
   injection hq6 with hq61 _ hq63
   subst hq63
   injection hq61 with hq61
   injection hq61 with hq61 _
   have hgq:w5.heap.size=gq:=hq61
   have RU6:=Lib.hid (RU5.out.kept hg6 (by simp))
   have RV6:=Lib.hid (RV5.out.kept hg6 (by simp))
   have RQ6:=Lib.hid hrq
   have B06:=Lib.hid (B05.out.grown hg6 B05.out.size (fun k hk => by cases hk))
   have hgvq:gv < gq:=by have:=RV5.out.lt;omega
   have hst2:DvR w gu gv gq u vl (B*s) p K (.int .i64 ((K:Int) - 1)) w6:=by
    have hV:val vl=B*s:=RR5.out.2.2
    have hdl:=long_start lb u A B s n (p+1) (by have:=rep_lt la A RA.out;rwa [HLA.out] at this) RB.out HLB.out hs1 HV.out HK.out.symm (by omega)
    refine ⟨K,u,List.replicate K 0,Nat.le_refl _,rfl,RU6.out,RV6.out,RQ6.out,?_,B06.out⟩
    have hds:=div_start u (B*s) (p+1+1) (by have:=HK.out;omega) HD.out hdl
    rwa [show u.length - (p+1+1)=K by have:=HK.out;omega] at hds
   have HST2:=Lib.hid hst2
   have hGQ:=Lib.hid hgq
   clear ho6 hg6 hrq hq61 RU5 RV5 B05 RU6 RV6 RQ6 B06 hst2 hgq
   rw [hGQ.out]
   go_wp2_with fail
   rw [show ((n:Int)+1 - ((p:Int)+2) - 1)=(K:Int) - 1 by omega]
   go_loopw [12] (DvR w gu gv gq u vl (B*s) p K) (fun i _ => (intOf i+1).toNat)
   case atStart => exact HST2.out
   case round =>
    clear HST2
    obtain ⟨w7,rfl⟩:∃ w7:World,w7=wr:=⟨_,rfl⟩
    obtain ⟨i,uu,q,hiK,rfl,ru,rv,rq,hat,hb⟩:=hrel
    have RU:=Lib.hid ru
    have RV:=Lib.hid rv
    have RQ:=Lib.hid rq
    have HAT:=Lib.hid hat
    have HB7:=Lib.hid hb
    have huul:uu.length=n+1:=by rw [hat.1];exact HK.out.symm
    have HUL:=Lib.hid huul
    clear ru rv rq hat hb huul
    by_cases hi0:1≤i
    ·obtain ⟨j,rfl⟩:∃ j,i=j+1:=⟨i - 1,by omega⟩
     rw [show (((j+1:Nat):Int) - 1)=(j:Int) by omega]
     have hcu:∀ k x,k < n+1→x=uu.getD k 0→w7.cell? ⟨gu,k,none⟩=some (.int .u32 (x:Int)):=fun k x hk hx => by
      rw [RU.out.cell (by rw [nums_length,HUL.out];exact hk),nums_get _ _ _ (by rw [HUL.out];exact hk),hx]
     have hcv:∀ k x,k < p+2→x=vl.getD k 0→w7.cell? ⟨gv,k,none⟩=some (.int .u32 (x:Int)):=fun k x hk hx => by
      rw [RV.out.cell (by rw [nums_length,HVL.out];exact hk),nums_get _ _ _ (by rw [HVL.out];exact hk),hx]
     obtain ⟨u2,hu2⟩:∃ x,x=uu.getD (j+(p+2)) 0:=⟨_,rfl⟩
     obtain ⟨u1,hu1⟩:∃ x,x=uu.getD (j+(p+1)) 0:=⟨_,rfl⟩
     obtain ⟨u0,hu0⟩:∃ x,x=uu.getD (j+p) 0:=⟨_,rfl⟩
     obtain ⟨y1,hy1⟩:∃ x,x=vl.getD (p+1) 0:=⟨_,rfl⟩
     obtain ⟨y0,hy0⟩:∃ x,x=vl.getD p 0:=⟨_,rfl⟩
     have c2:=hcu _ _ (by omega) hu2
     have c1:=hcu _ _ (by omega) hu1
     have c0:=hcu (j+(p+2) - 2) u0 (by omega) (by rw [hu0];congr 1)
     have d1:=hcv _ _ (by omega) hy1
     have d0:=hcv _ _ (by omega) hy0
     have bu2:u2 < 1000000000:=by rw [hu2];exact getD_lt uu _ HAT.out.2.1
     have bu1:u1 < 1000000000:=by rw [hu1];exact getD_lt uu _ HAT.out.2.1
     have bu0:u0 < 1000000000:=by rw [hu0];exact getD_lt uu _ HAT.out.2.1
     have by1:y1 < 1000000000:=by rw [hy1];exact getD_lt vl _ RR5.out.1
     have by0:y0 < 1000000000:=by rw [hy0];exact getD_lt vl _ RR5.out.1
     clear hcu hcv
     have HU2:=Lib.hid hu2
     have HU1:=Lib.hid hu1
     have HU0:=Lib.hid hu0
     have HY1:=Lib.hid hy1
     have HY0:=Lib.hid hy0
     clear hu2 hu1 hu0 hy1 hy0
     obtain ⟨hw1,hw2,hw3,hw4,hw5,hw6⟩:=div_window u uu q (B*s) (p+2) j (by have:=HK.out;omega) (by have:=RR5.out.2.2;rw [← this];exact val_pos vl RR5.out.2.1 (by intro h;have:=HVL.out;rw [h] at this;cases this)) (by have:=rep_lt vl _ RR5.out;rw [HVL.out] at this;omega) HAT.out
     have hdo:=digit_ok ((uu.drop j).take (p+2+1)) vl (p+2) hw1 HVL.out (by omega) (fun x hx => HAT.out.2.1 x (List.mem_of_mem_drop (List.mem_of_mem_take hx))) RR5.out.1 (rep_top vl _ (p+1) RR5.out HVL.out) (by rw [hw2,RR5.out.2.2];exact hw3)
     rw [hw2,RR5.out.2.2,take_drop_getD _ _ _ _ (by omega),take_drop_getD _ _ _ _ (by omega),take_drop_getD _ _ _ _ (by omega),← HU2.out,show p+2 - 1=p+1 by omega,show p+2 - 2=p by omega,← HU1.out,← HU0.out,← HY1.out,← HY0.out] at hdo
     obtain ⟨hd1,hd2,hd3⟩:=hdo
     have hy1p:1≤y1:=by rw [HY1.out];exact rep_top vl _ (p+1) RR5.out HVL.out
     have hgs:=fun q => guess_any u2 u1 u0 y1 y0 (w7.drewN q) hd3 bu1 bu0 by0 hy1p by1
     have hgl:=gss_lt u2 u1 u0 y1 y0
     obtain ⟨dg,hdg⟩:∃ dg,dg=gss u2 u1 u0 y1 y0:=⟨_,rfl⟩
     rw [← hdg] at hd1 hd2 hgl
     have hgs2:∀ q,Calls Tryz.prog 135 #[.int .u64 u2,.int .u64 u1,.int .u64 u0,.int .u64 y1,.int .u64 y0] (w7.drewN q) fun e w' => e = .returned (.int .u64 dg) ∧ ∃ m,w' = (w7.drewN q).drewN m:=fun q => by rw [hdg];exact hgs q
     have HGS:=Lib.hid hgs2
     have HW5:=Lib.hid hw5
     have HW6:=Lib.hid hw6
     have HW1:=Lib.hid hw1
     have HW2:=Lib.hid hw2
     have HD1:=Lib.hid hd1
     have HD2:=Lib.hid hd2
     have hgl2:dg < 1000000000:=hgl
     clear hgs hgs2 hdg hd1 hd2 hd3 hw1 hw2 hw3 hw4 hw5 hw6 hgl
     go_wp2_with fail
     have s1:IntKind.i64.wrap ((j:Int)+((p:Int)+2))=(j:Int)+((p:Int)+2):=IntWalk.i64_in _ (by omega)
     have s2:IntKind.i64.wrap ((j:Int)+((p:Int)+2) - 1)=(j:Int)+((p:Int)+2) - 1:=IntWalk.i64_in _ (by omega)
     have s3:IntKind.i64.wrap ((j:Int)+((p:Int)+2) - 2)=(j:Int)+((p:Int)+2) - 2:=IntWalk.i64_in _ (by omega)
     have s4:IntKind.i64.wrap ((p:Int)+2 - 1)=(p:Int)+2 - 1:=IntWalk.i64_in _ (by omega)
     have s5:IntKind.i64.wrap ((p:Int)+2 - 2)=(p:Int)+2 - 2:=IntWalk.i64_in _ (by omega)
     have v1:IntKind.u64.wrap (u2:Int)=(u2:Int):=IntWalk.u64_in _ (by omega)
     have v2:IntKind.u64.wrap (u1:Int)=(u1:Int):=IntWalk.u64_in _ (by omega)
     have v3:IntKind.u64.wrap (u0:Int)=(u0:Int):=IntWalk.u64_in _ (by omega)
     have v4:IntKind.u64.wrap (y1:Int)=(y1:Int):=IntWalk.u64_in _ (by omega)
     have v5:IntKind.u64.wrap (y0:Int)=(y0:Int):=IntWalk.u64_in _ (by omega)
     go_quiet ((go_at_call 135;exact Calls.quiet_of (HGS.out _)))
     obtain ⟨W8,hW8⟩:∃ W8,W8=w7.drewN nq:=⟨_,rfl⟩
     have hb8:Below w7.heap.size w7 W8:=by rw [hW8];exact below_drewN (Below.refl _ _) nq
     rw [← hW8]
     clear hW8 s1 s2 s3 s4 s5 v1 v2 v3 v4 v5 c0 c1 c2 d0 d1 bu2 bu1 bu0 by1 by0 hy1p
     obtain ⟨V,hV⟩:∃ V,V=B*s:=⟨_,rfl⟩
     obtain ⟨X,hX⟩:∃ X,X=val (uu.drop j):=⟨_,rfl⟩
     have hVp:0 < V:=by rw [hV,← RR5.out.2.2];exact val_pos vl RR5.out.2.1 (by intro h;have:=HVL.out;rw [h] at this;cases this)
     have hUd:∀ x ∈ (uu.drop j).take (p+2+1),x < Bs:=fun x hx => HAT.out.2.1 x (List.mem_of_mem_drop (List.mem_of_mem_take hx))
     have hX2:val ((uu.drop j).take (p+2+1))=X:=by rw [hX];exact HW2.out
     have hdd:X / V≤dg∧dg≤X / V+1:=by rw [hX,hV];exact ⟨HD1.out,HD2.out⟩
     have hDlt:X / V < Bs:=by have:=Bs_eq;omega
     have hNU:∀ W,Below w7.heap.size w7 W→Nums .u32 W (some ⟨gu,j,none⟩) ((uu.drop j).take (p+2+1)):=fun W hW e he => by
      rw [HW1.out] at he
      have hr:=RU.out.below hW RU.out.lt
      refine ⟨gu,j,rfl,hr.lt,?_⟩
      rw [hr.cell (by rw [nums_length,HUL.out];omega),nums_get _ _ _ (by rw [HUL.out];omega),take_drop_getD _ _ _ _ he]
     have hNV:∀ W,Below w7.heap.size w7 W→Nums .u32 W (some ⟨gv,0,none⟩) vl:=fun W hW e he => by
      have hr:=RV.out.below hW RV.out.lt
      refine ⟨gv,0,rfl,hr.lt,?_⟩
      rw [Nat.zero_add,hr.cell (by rw [nums_length];exact he),nums_get _ _ _ he]
     have htrU:∀ W,Below w7.heap.size w7 W→Calls Tryz.prog 133 #[.slice (some ⟨gu,j,none⟩) (p+2+1) (cu - j)] W (TrimPost W (some ⟨gu,j,none⟩) (p+2+1) (cu - j) ((uu.drop j).take (p+2+1))):=fun W hW =>
      trim_any _ _ _ _ W HW1.out (by omega) (by omega) hUd (hNU W hW)
     have htmV:∀ W a2 n2 c2 l2 x,Below w7.heap.size w7 W→l2.length=n2→n2≤400000→Rep l2 x→Nums .u32 W a2 l2→Calls Tryz.prog 134 #[.slice (some ⟨gv,0,none⟩) (p+2) cv,.slice a2 n2 c2] W (MagNew W (V*x)):=fun W a2 n2 c2 l2 x hW h1 h2 h3 h4 => by
      have:=times_any (some ⟨gv,0,none⟩) a2 (p+2) n2 cv c2 vl l2 W HVL.out h1 (by omega) h2 RR5.out.1 h3.1 (hNV W hW) h4
      rwa [RR5.out.2.2,h3.2.2,← hV] at this
     have HUD:=Lib.hid hUd
     have HX2:=Lib.hid hX2
     have HNU:=Lib.hid hNU
     have HTU:=Lib.hid htrU
     have HTV:=Lib.hid htmV
     have HDD:=Lib.hid hdd
     have HXX:=Lib.hid hX
     have HVV:=Lib.hid hV
     have HB8:=Lib.hid hb8
     clear hUd hX2 hNU hNV htrU htmV hdd hX hV hb8
     go_wp2_with fail
     refine (trim_lit W8 dg (by have:=Bs_eq;omega)).mono ?_
     rintro e w9 ⟨⟨v9,l9,rfl,ho9,hr9⟩,hw9⟩
     have hb9:Below w7.heap.size w7 w9:=by rw [← hw9];exact HB8.out.alloc HB8.out.size _
     obtain ⟨a9,c9,rfl,hl9,hc9,hn9⟩:=nums_of_owns ho9
     have hlen9:l9.length≤1:=rep_len_of l9 dg 1 hr9 (by have:=Bs_eq;simp;omega)
     have HT9:=Lib.hid (HTV.out w9 a9 l9.length c9 l9 dg hb9 rfl (by omega) hr9 hn9)
     have HB9:=Lib.hid hb9
     clear ho9 hr9 hw9 hb9 hl9 hn9
     go_wp2_with fail
     refine HT9.out.mono ?_
     rintro e w10 ⟨v10,l10,rfl,ho10,hr10,hb10⟩
     obtain ⟨a10,c10,rfl,_,hc10,hn10⟩:=nums_of_owns ho10
     have HB10:=Lib.hid (HB9.out.trans (hb10.mono HB9.out.size))
     have hlen10:l10.length≤200000:=by
      have h1:=rep_len_of l10 _ (p+2+1) hr10 (by
       have h2:=rep_lt vl _ RR5.out
       rw [HVL.out,← HVV.out] at h2
       rw [Nat.pow_succ]
       exact Nat.mul_lt_mul_of_lt_of_lt h2 (by have:=Bs_eq;omega))
      omega
     have HN10:=Lib.hid hn10
     have HR10:=Lib.hid hr10
     clear ho10 hr10 hb10 hn10 HT9
     go_wp2_with fail
     rw [show j+(p+2)+1 - j=p+2+1 by omega]
     refine (HTU.out w10 HB10.out).mono ?_
     rintro e w' ⟨⟨k,hk,rfl,hrk⟩,rfl⟩
     rw [HX2.out] at hrk
     have HRK:=Lib.hid hrk
     have hcp:=mcmp_any (some ⟨gu,j,none⟩) a10 k l10.length (cu - j) c10 X (V*dg) (((uu.drop j).take (p+2+1)).take k) l10 w10 (by rw [List.length_take,HW1.out];omega) rfl (by omega) (by omega) hrk HR10.out ((HNU.out w10 HB10.out).take k) HN10.out
     have HCP:=Lib.hid hcp
     clear hrk hcp
     go_wp2_with fail
     obtain ⟨cz,hcz⟩:∃ cz,cz=cmpN X (V*dg):=⟨_,rfl⟩
     have HCP2:=HCP.out
     rw [← hcz] at HCP2
     refine HCP2.mono ?_
     rintro e w11 ⟨rfl,q11,hw11⟩
     have hb11:Below w7.heap.size w7 w11:=by rw [hw11];exact below_drewN HB10.out q11
     have HN11:Hid (Nums .u32 w11 a10 l10):=by rw [hw11];exact HN10.out.drewN q11
     have HB11:=Lib.hid hb11
     have HCZ:=Lib.hid hcz
     clear hcz hw11 hb11 HCP HCP2 HN10 HB8 HB9 HGS
     obtain ⟨D,hD⟩:∃ D,D=X / V:=⟨_,rfl⟩
     have hdgD:(dg=D∧0≤cz∧V*dg=V*D) ∨ (dg=D+1∧cz < 0):=by
      have h1:=HDD.out
      rw [← hD] at h1
      have h2:=Nat.div_mul_le_self X V
      rw [← hD,Nat.mul_comm] at h2
      rcases Nat.lt_or_ge X (V*dg) with h3 | h3
      ·right
       refine ⟨?_,by rw [HCZ.out,cmpN_lt h3];omega⟩
       rcases Nat.lt_or_ge D dg with h4 | h4
       ·omega
       ·exfalso
        have:=Nat.mul_le_mul_left V h4
        omega
      ·left
       have h4:dg≤D:=by rw [hD];exact (Nat.le_div_iff_mul_le hVp).2 (by rw [Nat.mul_comm];exact h3)
       have h5:dg=D:=by omega
       refine ⟨h5,?_,by rw [h5]⟩
       rw [HCZ.out]
       rcases Nat.lt_or_ge (V*dg) X with h6 | h6
       ·rw [cmpN_gt h6];omega
       ·rw [cmpN_eq (by omega)];omega
     have HDG:=Lib.hid hdgD
     have HDX:=Lib.hid hD
     have hDb:D < 1000000000:=by rw [hD];have:=Bs_eq;omega
     clear hdgD hD hDlt
     go_upto_if 131 with (fail)
     go_cut [13,14] (fun d13 p14 wx => d13 = .int .u64 (D:Int)∧MagAt wx p14 (V*D)∧Below w7.heap.size w7 wx)
     case first => as_aux_lemma =>
      rcases HDG.out with ⟨h1,h2,h3⟩ | ⟨h1,h2⟩
      ·have t2:decide (cz < 0)=false:=by simp;omega
       have H1:=Lib.hid h1
       have H3:=Lib.hid h3
       clear h1 h3
       go_wp2_with fail
       go_meet
       exact ⟨by rw [H1.out],⟨a10,c10,l10,rfl,hc10,HN11.out,by rw [← H3.out];exact HR10.out⟩,HB11.out⟩
      ·have t2:decide (cz < 0)=true:=by simp;omega
       subst h1
       have e1:(((D+1:Nat):Int))=(D:Int)+1:=by omega
       rw [e1]
       clear e1
       go_wp2_with fail
       refine (trim_lit w11 D (by have:=Bs_eq;omega)).mono ?_
       rintro e w12 ⟨⟨v12,l12,rfl,ho12,hr12⟩,hw12⟩
       have hb12:Below w7.heap.size w7 w12:=by rw [← hw12];exact HB11.out.alloc HB11.out.size _
       obtain ⟨a12,c12,rfl,hl12,hc12,hn12⟩:=nums_of_owns ho12
       have hlen12:l12.length≤1:=rep_len_of l12 D 1 hr12 (by have:=Bs_eq;simp;omega)
       have HT12:=Lib.hid (HTV.out w12 a12 l12.length c12 l12 D hb12 rfl (by omega) hr12 hn12)
       have HB12:=Lib.hid hb12
       clear ho12 hr12 hw12 hb12 hl12 hn12
       go_wp2_with fail
       refine HT12.out.mono ?_
       rintro e w13 ⟨v13,l13,rfl,ho13,hr13,hb13⟩
       have HM13:=Lib.hid (MagAt.of_own ho13 hr13)
       have HB13:=Lib.hid (HB12.out.trans (hb13.mono HB12.out.size))
       clear ho13 hr13 hb13
       go_wp2_with fail
       go_meet
       exact ⟨rfl,HM13.out,HB13.out⟩
     case rest => as_aux_lemma =>
      obtain ⟨rfl,hm14,hb14⟩:=hcut
      obtain ⟨w14,hw14⟩:∃ w14:World,w14=wc:=⟨_,rfl⟩
      subst hw14
      obtain ⟨a14,c14,l14,rfl,hc14,hn14,hr14⟩:=hm14
      have HB14:=Lib.hid hb14
      have HN14:=Lib.hid hn14
      have HR14:=Lib.hid hr14
      have hlen14:l14.length≤200000:=by
       have h1:=rep_len_of l14 _ (p+2+1) hr14 (by
        have h2:=rep_lt vl _ RR5.out
        rw [HVL.out,← HVV.out] at h2
        rw [Nat.pow_succ]
        exact Nat.mul_lt_mul_of_lt_of_lt h2 (by have:=Bs_eq;omega))
       omega
      clear hb14 hn14 hr14 HCZ HDG HN11 HB11 HRK
      go_wp2_with fail
      rw [show j+(p+2)+1 - j=p+2+1 by omega]
      refine (HTU.out w14 HB14.out).mono ?_
      rintro e w' ⟨⟨k2,hk2,rfl,hrk⟩,rfl⟩
      rw [HX2.out] at hrk
      have hXV:X=V*D+X % V:=by rw [HDX.out];exact (Nat.div_add_mod X V).symm
      have hmn:=minus_any (some ⟨gu,j,none⟩) a14 k2 l14.length (cu - j) c14 (((uu.drop j).take (p+2+1)).take k2) l14 w14 (by rw [List.length_take,HW1.out];omega) rfl (by omega) (by
       have h1:=rep_len_le _ _ X (V*D) hrk HR14.out (by omega)
       rwa [List.length_take,HW1.out,show min k2 (p+2+1)=k2 by omega] at h1) hrk.1 HR14.out.1 (by rw [hrk.2.2,HR14.out.2.2];omega) ((HNU.out w14 HB14.out).take k2) HN14.out
      rw [hrk.2.2,HR14.out.2.2,show X - V*D=X % V by omega] at hmn
      have HMN:=Lib.hid hmn
      clear hrk hmn hXV
      go_wp2_with fail
      refine HMN.out.mono ?_
      rintro e w15 ⟨v15,L,rfl,ho15,hrL,hb15⟩
      obtain ⟨aL,cL,rfl,_,hcL,_⟩:=nums_of_owns ho15
      have HB15:=Lib.hid (HB14.out.trans (hb15.mono HB14.out.size))
      have HO15:=Lib.hid ho15
      have HRL:=Lib.hid hrL
      have hLl:L.length≤200000:=by
       have h1:=rep_len_of L _ (p+2) hrL (by
        have h2:=rep_lt vl _ RR5.out
        rw [HVL.out,← HVV.out] at h2
        exact Nat.lt_trans (Nat.mod_lt _ hVp) h2)
       omega
      have hgu14:gu < w14.heap.size:=Nat.lt_of_lt_of_le RU.out.lt HB14.out.size
      clear ho15 hrL hb15 HMN HN14 HR14 HB14
      have hru15:=RU.out.below HB15.out RU.out.lt
      have hst3:CpR w15 gu j p uu L (.int .i64 0) w15:=⟨0,Nat.zero_le _,rfl,by rw [ucp_start];exact hru15,only_refl _ _⟩
      have HST3:=Lib.hid hst3
      clear hst3 hru15
      obtain ⟨kL,hkL⟩:∃ kL,kL=L.length:=⟨_,rfl⟩
      rw [← hkL] at HO15 hLl hcL ⊢
      have HKL:=Lib.hid hkL
      clear hkL
      go_wp2_with fail
      go_loopw [152] (CpR w15 gu j p uu L) (fun i _ => p+3 - (intOf i).toNat)
      case atStart => exact HST3.out
      case round =>
       obtain ⟨w16,rfl⟩:∃ w16:World,w16=wr:=⟨_,rfl⟩
       obtain ⟨i,hi3,rfl,hru,hgw⟩:=hrel
       have RU16:=Lib.hid hru
       have GW:=Lib.hid hgw
       clear hru hgw HST3
       have hbw:Below w.heap.size w w16:=(HB7.out.trans (HB15.out.mono HB7.out.size)).grown GW.out (by have:=HB7.out.size;have:=HB15.out.size;omega) (fun k hk => by injection hk with hk;omega)
       have HBW:=Lib.hid hbw
       clear hbw
       by_cases hlt:i < p+3
       ·have hji:j+i < n+1:=by omega
        have hul2:(ucp uu L j i).length=n+1:=by rw [ucp_length _ _ _ _ (by rw [HUL.out];omega)];exact HUL.out
        obtain ⟨xo,hxo⟩:∃ xo:Nat,w16.cell? ⟨gu,j+i,none⟩=some (.int .u32 (xo:Int)) :=
         ⟨_,by rw [RU16.out.cell (by rw [nums_length];omega),nums_get _ _ _ (by omega)]⟩
        have hfz:w16.frozen? ⟨gu,j+i,none⟩=false:=RU16.out.frozen (j+i)
        have hstep:=ucp_step uu L j i (by rw [HUL.out];omega)
        have HSTEP:=Lib.hid hstep
        clear hstep hul2
        have hset:∀ x:Nat,RowAt (w16.setCell ⟨gu,j+i,none⟩ (.int .u32 (x:Int))) gu 123 (nums .u32 ((ucp uu L j i).set (j+i) x)):=fun x => by
         rw [← nums_set];exact RU16.out.set (j+i) _
        have HSET:=Lib.hid hset
        clear hset
        by_cases hiL:i < kL
        ·have hnL:Nums .u32 w16 aL L:=by
          have:=HO15.out.kept GW.out (.inr (fun h => by have:=(HO15.out.lt gu h).1;omega))
          obtain ⟨aL',cL',e1,_,_,e2⟩:=nums_of_owns this
          injection e1 with e1 _ _
          rw [e1];exact e2
         obtain ⟨gL,oL,rfl,hgL,hcl⟩:=hnL i (by have:=HKL.out;omega)
         have hgne:gL ≠ gu:=by
          intro h
          subst h
          rcases rowAt_of_owns HO15.out with ⟨h0,_⟩ | ⟨g',c',e1,hb',_⟩
          ·injection h0 with h0;cases h0
          ·injection e1 with e1 _ _;injection e1 with e1;injection e1 with e1 _;omega
         obtain ⟨x,hx⟩:∃ x,x=L.getD i 0:=⟨_,rfl⟩
         rw [← hx] at hcl
         have hcl2:(w16.setCell ⟨gu,j+i,none⟩ (.int .u32 0)).cell? ⟨gL,oL+i,none⟩=some (.int .u32 (x:Int)):=by
          rw [World.cell?_setCell_other _ _ _ _ (by intro h;injection h with h;exact hgne h.symm)];exact hcl
         have hc2:(w16.setCell ⟨gu,j+i,none⟩ (.int .u32 0)).cell? ⟨gu,j+i,none⟩=some (.int .u32 0):=World.cell?_setCell_same' _ _ _ (by rw [hxo];rfl)
         have hfz2:(w16.setCell ⟨gu,j+i,none⟩ (.int .u32 0)).frozen? ⟨gu,j+i,none⟩=false:=by rw [World.frozen?_setCell];exact hfz
         have HX3:=Lib.hid hx
         clear hx hnL hcl
         go_wp2_with fail
         go_roundw
         case rel =>
          refine ⟨i+1,by omega,by go_num,?_,only_setCell (only_setCell GW.out (.inl rfl) _) (.inl rfl) _⟩
          have h1:=(HSET.out 0).set (j+i) (.int .u32 (x:Int))
          rw [nums_set,set_set_same,HX3.out,HSTEP.out] at h1
          rw [HX3.out]
          exact h1
         case measure => simp [intOf] <;> omega
        ·have hx0:L.getD i 0=0:=getD_out (by have:=HKL.out;omega)
         have HX0:=Lib.hid hx0
         clear hx0
         go_wp2_with fail
         go_roundw
         case rel =>
          refine ⟨i+1,by omega,by go_num,?_,only_setCell GW.out (.inl rfl) _⟩
          have h1:=HSET.out 0
          have h2:=HSTEP.out
          rw [HX0.out] at h2
          rw [h2] at h1
          exact h1
         case measure => simp [intOf] <;> omega
       ·obtain rfl:i=p+3:=by omega
        have hrq:=(RQ.out.below HB15.out RQ.out.lt).kept GW.out (by intro h;injection h with h;omega)
        have hrv:=(RV.out.below HB15.out RV.out.lt).kept GW.out (by intro h;injection h with h;omega)
        have hql:q.length=K:=by have:=HAT.out.2.2.1;have:=HK.out;omega
        have hjq:j < K:=by omega
        obtain ⟨qo,hqo⟩:∃ qo:Nat,w16.cell? ⟨gq,j,none⟩=some (.int .u32 (qo:Int)) :=
         ⟨_,by rw [hrq.cell (by rw [nums_length];omega),nums_get _ _ _ (by omega)]⟩
        have hfz:w16.frozen? ⟨gq,j,none⟩=false:=hrq.frozen j
        have hds:=div_step u uu q L (B*s) (p+2) j (by have:=HK.out;omega) (by rw [← HVV.out];exact hVp) (by have:=rep_lt vl _ RR5.out;rw [HVL.out] at this;omega) HAT.out (by rw [← HXX.out,← HVV.out];exact HRL.out)
        rw [← HXX.out,← HVV.out,← HDX.out] at hds
        have hds2:DivAt u (ucp uu L j (p+3)) (q.set j D) (B*s) (p+2) j:=by rw [← HVV.out];exact hds
        have HDS:=Lib.hid hds2
        have HRQ:=Lib.hid hrq
        have HRV:=Lib.hid hrv
        clear hrq hrv hql hds hds2
        go_wp2_with fail
        go_roundw
        case rel =>
         refine ⟨j,ucp uu L j (p+3),q.set j D,by omega,rfl,RU16.out.other (by show gu ≠ gq;omega) _,HRV.out.other (by show gv ≠ gq;omega) _,?_,HDS.out,HBW.out.setCell (p:=⟨gq,j,none⟩) (by show w.heap.size≤gq;omega) _⟩
         rw [← nums_set]
         exact HRQ.out.set j _
        case measure => simp [intOf] <;> omega
    ·obtain rfl:i=0:=by omega
     have hend:=div_end u uu q (B*s) (p+2) HAT.out
     have hnu:Nums .u32 w7 (some ⟨gu,0,none⟩) uu:=fun e he => ⟨gu,0,rfl,RU.out.lt,by rw [Nat.zero_add,RU.out.cell (by rw [nums_length];exact he),nums_get _ _ _ he]⟩
     have hql:q.length=K:=by have:=HAT.out.2.2.1;have:=HK.out;omega
     have hnq:∀ W,Below w7.heap.size w7 W→Nums .u32 W (some ⟨gq,0,none⟩) q:=fun W hW e he => by
      have hr:=RQ.out.below hW RQ.out.lt
      exact ⟨gq,0,rfl,hr.lt,by rw [Nat.zero_add,hr.cell (by rw [nums_length];exact he),nums_get _ _ _ he]⟩
     have htu:=trim_any (some ⟨gu,0,none⟩) (n+1) cu uu w7 HUL.out (by omega) (by omega) HAT.out.2.1 hnu
     have HTU:=Lib.hid htu
     have HNU:=Lib.hid hnu
     have HNQ:=Lib.hid hnq
     have HQL:=Lib.hid hql
     have HEND:=Lib.hid hend
     clear htu hnu hnq hql hend
     go_wp2_with fail
     refine HTU.out.mono ?_
     rintro e w' ⟨⟨k,hk,rfl,hrk⟩,rfl⟩
     have hsh:=short_any (some ⟨gu,0,none⟩) k cu s (uu.take k) w7 (by rw [List.length_take,HUL.out];omega) (by omega) hs1 (by omega) hrk.1 (HNU.out.take k)
     rw [hrk.2.2] at hsh
     have HSH:=Lib.hid hsh
     clear hrk hsh
     go_wp2_with fail
     refine HSH.out.mono ?_
     rintro e w8 ⟨v8,l8,rfl,ho8,hr8,hb8⟩
     have M8:=Lib.hid (MagAt.of_own ho8 hr8)
     have HB8:=Lib.hid hb8
     have htq:=trim_any (some ⟨gq,0,none⟩) K K q w8 HQL.out (by omega) (Nat.le_refl _) HAT.out.2.2.2.1 (HNQ.out w8 hb8)
     have HTQ:=Lib.hid htq
     clear ho8 hr8 hb8 htq
     go_wp2_with fail
     refine HTQ.out.mono ?_
     rintro e w' ⟨⟨k3,hk3,rfl,hrk3⟩,rfl⟩
     have HR3:=Lib.hid hrk3
     clear hrk3
     go_wp2_with fail
     go_ret2
     have hun:=unscale A B s hs1
     have e1:val u=A*s:=HV.out
     refine ⟨.slice (some ⟨gq,0,none⟩) k3 K,v8,rfl,⟨some ⟨gq,0,none⟩,K,q.take k3,by rw [List.length_take,HQL.out];congr 1;omega,by rw [List.length_take,HQL.out];omega,(HNQ.out w8 HB8.out).take k3,?_⟩,?_,HB7.out.trans (HB8.out.mono HB7.out.size)⟩
     ·have:=HR3.out
      rw [HEND.out.2,e1,hun.1] at this
      exact this
     ·have:=M8.out
      rw [HEND.out.1,e1,hun.2] at this
      exact this
end Go.Proofs.YtijkefflpojmhaaGreatDoor
