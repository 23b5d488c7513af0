/-
  A contract that is well-formed: the reference's Formed, walked. No condition but the size. The reference's Check of a contract. No condition but CtIn. The map of the parts as it is laid. No condition.
-/
import Derived.Test.YtijkefflpojmhaaGreatDoorZam
namespace Go.Proofs.YtijkefflpojmhaaGreatDoor
open Go.RowKit
theorem formX_no {x:Ct} {k:Nat} (hk:k < x.sub.length) (h:formX x.sub[k]=false):formX x=false:=by
 rw [formX_is,show x.sub.all formX=false from by
  rw [List.all_eq_false]
  exact ⟨_,List.getElem_mem hk,by rw [h];simp⟩]
 rfl
theorem formX_all {x:Ct} (h:∀ i (hi:i < x.sub.length),formX x.sub[i]=true):formX x=nodeX x:=by
 rw [formX_is,show x.sub.all formX=true from by
  rw [List.all_eq_true]
  intro y hy
  obtain ⟨i,hi,rfl⟩:=List.getElem_of_mem hy
  exact h i hi]
 rfl
set_option maxHeartbeats 8000000 in
set_option maxRecDepth 100000 in
theorem rformed_any {Wg:World}:∀ (n:Nat) (x:Ct) (cs:List Value) (w:World),CtIn n x cs w Wg→Calls Tryz.prog 34 #[.agg cs.toArray] w (BelB w (formX x)):=by
 intro n
 induction n with
 | zero => intro x cs w h;exact h.at_.elim
 | succ n ih =>
  intro x cs w h
  obtain ⟨ea,el,ec,da,dl,dc,a,len,cap,rfl,hex,hds,hlen,hsub⟩:=h.at_
  have hdl:=hds.1
  have hd200:=h.dates
  have hlb:len≤1000:=by have:=h.len;omega
  have hel:x.expr.sub.length=el:=by
   obtain ⟨a',l',c',he,hl,_⟩:=hex
   injection he with _ he;injection he with _ he;injection he with _ he;injection he with _ he;injection he with he _
   injection he with _ he _
   rw [hl,he]
  obtain ⟨R,hR⟩:∃ R,R=formX x:=⟨_,rfl⟩
  rw [← hR]
  have HRR:=Lib.hid hR
  have HIN:=Lib.hid h
  have HI:=Lib.hid ih
  have HS:=Lib.hid hsub
  have HLEN:=Lib.hid hlen
  have HDS:=Lib.hid hds
  clear ih hsub hlen hex hds hR h
  show Calls Tryz.prog 34 #[.agg #[.int .u8 x.kind,.string x.frm,.string x.too,.string x.name,.int .u8 x.expr.kind,.string x.expr.rat,.string x.expr.name,.int .i64 x.expr.date,.slice ea el ec,.int .i64 x.date,.slice da dl dc,.slice a len cap]] w _
  go_enter Tryz.func34,Tryz.ntmps34
  go_wp2_with fail
  obtain ⟨W0,hW0⟩:∃ W0,W0=w.alloc (.cells #[.int .u8 x.kind,.string x.frm,.string x.too,.string x.name,.int .u8 x.expr.kind,.string x.expr.rat,.string x.expr.name,.int .i64 x.expr.date,.slice ea el ec,.int .i64 x.date,.slice da dl dc,.slice a len cap] 29):=⟨_,rfl⟩
  have hbx:W0.heap[w.heap.size]? = some (.cells #[.int .u8 x.kind,.string x.frm,.string x.too,.string x.name,.int .u8 x.expr.kind,.string x.expr.rat,.string x.expr.name,.int .i64 x.expr.date,.slice ea el ec,.int .i64 x.date,.slice da dl dc,.slice a len cap] 29):=by rw [hW0];exact heap_alloc_new w _
  have hB0:Below w.heap.size w W0:=by rw [hW0];exact own_below w _
  have hsz:w.heap.size < W0.heap.size:=(Array.getElem?_eq_some_iff.1 hbx).1
  have HCC:Hid (∀ W,Below W0.heap.size W0 W→_):=fun W hW => ctBox ((hW.block _ hsz).trans hbx)
  have HIN0:=Lib.hid (HIN.out.below hB0)
  rw [← hW0]
  have HB0:=Lib.hid hB0
  clear hW0 hbx hB0
  go_loopw [3] (fun iv wr => ∃ k:Nat,k≤len∧iv = .int .i64 (k:Int)∧Below W0.heap.size W0 wr∧Hid (∀ i (hi:i < x.sub.length),i < k→formX x.sub[i]=true)) (fun iv _ => len - (intOf iv).toNat)
  case atStart => exact ⟨0,Nat.zero_le _,rfl,Below.refl _ _,Lib.hid fun i _ hi => absurd hi (Nat.not_lt_zero _)⟩
  case round =>
   obtain ⟨w1,rfl⟩:∃ w1:World,w1=wr:=⟨_,rfl⟩
   obtain ⟨k,hk,rfl,hb,HOK⟩:=hrel
   have HBW:=Lib.hid (HB0.out.trans (hb.mono HB0.out.size))
   obtain ⟨c0,c1,c2,c3,c4,c5,c6,c7,c8,c9,ca,cb⟩:=HCC.out w1 hb
   have HB:=Lib.hid hb
   clear hb
   by_cases hlt:k < len
   ·have hlt2:k < x.sub.length:=by rw [HLEN.out];exact hlt
    rcases HS.out with h0 | ⟨g,o,ha,hg,hel2⟩
    ·omega
    ·subst ha
     obtain ⟨y,hy,eap,elp,ecp,dap,dlp,dcp,ap,lenp,capp,⟨e0,e1,e2,e3,e4,e5,e6,e7,e8,e9,ea_,eb_⟩,hx1⟩:=CtAt.elem hg HBW.out hlt2 hel2
     have hym:y ∈ x.sub:=by rw [hy];exact List.getElem_mem _
     have hys:=Ct.sub_size hym
     have hyin:CtIn n y [.int .u8 y.kind,.string y.frm,.string y.too,.string y.name,.int .u8 y.expr.kind,.string y.expr.rat,.string y.expr.name,.int .i64 y.expr.date,.slice eap elp ecp,.int .i64 y.date,.slice dap dlp dcp,.slice ap lenp capp] w1 Wg:=by
      obtain ⟨q1,⟨_,_,q2⟩,q3,⟨d,q4,q5⟩,q6,q7⟩:=HIN.out
      refine ⟨CtAt.below HBW.out hx1,q2 y hym,by omega,?_,q6,q7.trans (HBW.out.mono q7.size)⟩
      match d,q5 with
      | d+1,⟨_,_,q⟩ => exact ⟨d,by omega,q y hym⟩
     have HC:=Lib.hid (HI.out y _ w1 hyin)
     obtain ⟨b,hb⟩:∃ b,b=formX y:=⟨_,rfl⟩
     rw [← hb] at HC
     have hbk:b=formX x.sub[k]:=by rw [hb,hy]
     have HBK:=Lib.hid hbk
     have hk0:(0:Int)≤(k:Int):=by omega
     have hk1:(k:Int) < (len:Int):=by omega
     clear hx1 hym hys hy hyin hb hel2 hbk
     go_wp2_with fail
     refine HC.out.mono ?_
     rintro e w2 ⟨rfl,hb2⟩
     have HB2:=Lib.hid (HB.out.trans (hb2.mono HB.out.size))
     have HBW2:=Lib.hid (HB0.out.trans (HB2.out.mono HB0.out.size))
     clear hb2 c0 c1 c2 c3 c4 c5 c6 c7 c8 c9 ca cb e0 e1 e2 e3 e4 e5 e6 e7 e8 e9 ea_ eb_
     cases b with
     | false =>
      have e:R=false:=by rw [HRR.out];exact formX_no hlt2 HBK.out.symm
      have E:=Lib.hid e
      clear e
      go_wp2_with fail
      go_ret
      exact ⟨by rw [E.out];rfl,HBW2.out⟩
     | true =>
      have HOK1:Hid (∀ i (hi:i < x.sub.length),i < k+1→formX x.sub[i]=true):=fun i hi h => by
       by_cases h2:i=k
       ·subst h2;exact HBK.out.symm
       ·exact HOK.out i hi (by omega)
      go_wp2_with fail
      go_roundw
      case rel => exact ⟨k+1,hlt,by go_num,HB2.out,HOK1⟩
      case measure => simp [intOf] <;> omega
   ·have hx:R=nodeX x:=by rw [HRR.out];exact formX_all fun i hi => HOK.out i hi (by have:=HLEN.out;omega)
    have HX:=Lib.hid hx
    obtain ⟨nobody,qnobody⟩:∃ b,x.frm.toList.isEmpty=b:=⟨_,rfl⟩
    obtain ⟨noTo,qnoTo⟩:∃ b,x.too.toList.isEmpty=b:=⟨_,rfl⟩
    obtain ⟨noName,qnoName⟩:∃ b,x.name.toList.isEmpty=b:=⟨_,rfl⟩
    obtain ⟨noDate,qnoDate⟩:∃ b,(x.date == 0)=b:=⟨_,rfl⟩
    obtain ⟨noDays,qnoDays⟩:∃ b,((dl:Int) == 0)=b:=⟨_,rfl⟩
    obtain ⟨n0,qn0⟩:∃ b,((len:Int) == 0)=b:=⟨_,rfl⟩
    obtain ⟨n1,qn1⟩:∃ b,((len:Int) == 1)=b:=⟨_,rfl⟩
    obtain ⟨n2,qn2⟩:∃ b,((len:Int) == 2)=b:=⟨_,rfl⟩
    obtain ⟨ne,qne⟩:∃ b,(!(x.frm.toList == x.too.toList))=b:=⟨_,rfl⟩
    obtain ⟨noExpr,qnoExpr⟩:∃ b,b=bareX x.expr:=⟨_,rfl⟩
    obtain ⟨days,qdays⟩:∃ b,b=daysX x.dates:=⟨_,rfl⟩
    obtain ⟨number,qnumber⟩:∃ b,b=numX x.expr:=⟨_,rfl⟩
    obtain ⟨truth,qtruth⟩:∃ b,b=truX x.expr:=⟨_,rfl⟩
    obtain ⟨party,qparty⟩:∃ b,b=nmB x.frm.data.toList:=⟨_,rfl⟩
    obtain ⟨word,qword⟩:∃ b,b=nmB x.name.data.toList:=⟨_,rfl⟩
    obtain ⟨nTo,qnTo⟩:∃ b,b=nmB x.too.data.toList:=⟨_,rfl⟩
    obtain ⟨day,qday⟩:∃ b,b=dayOk x.date:=⟨_,rfl⟩
    have HX2:Hid (R=nodeB x.kind n0 n1 n2 party nTo ne word nobody noTo noName noDate noDays noExpr days number truth day):=by
     show R=_
     rw [HX.out]
     unfold nodeX
     rw [qnobody,qnoTo,qnoName,qnoDate,hdl,HLEN.out,qnoDays,qn0,qn1,qn2,qne,← qnoExpr,← qdays,← qnumber,← qtruth,← qparty,← qword,← qnTo,← qday]
    have HBARE:Hid (∀ W,Calls Tryz.prog 58 #[.agg #[.int .u8 x.expr.kind,.string x.expr.rat,.string x.expr.name,.int .i64 x.expr.date,.slice ea el ec]] W (BelB W noExpr)):=fun W => by rw [qnoExpr];exact rbare_any x.expr ea el ec W hel
    have HDAYS:Hid (∀ W,Below W0.heap.size W0 W→Calls Tryz.prog 62 #[.slice da dl dc] W (BelB W days)):=fun W hW => by rw [qdays];exact rdays_any x.dates da dl dc W (HDS.out.below (HB0.out.trans (hW.mono HB0.out.size))) (by omega)
    have HNUM:Hid (∀ W,Below W0.heap.size W0 W→Calls Tryz.prog 63 #[.agg #[.int .u8 x.expr.kind,.string x.expr.rat,.string x.expr.name,.int .i64 x.expr.date,.slice ea el ec]] W (BelB W number)):=fun W hW => by rw [qnumber];exact rnumber_any (n+1) x.expr _ W Wg (HIN0.out.below hW).expr
    have HTRU:Hid (∀ W,Below W0.heap.size W0 W→Calls Tryz.prog 64 #[.agg #[.int .u8 x.expr.kind,.string x.expr.rat,.string x.expr.name,.int .i64 x.expr.date,.slice ea el ec]] W (BelB W truth)):=fun W hW => by rw [qtruth];exact rtruth_any (n+1) x.expr _ W Wg (HIN0.out.below hW).expr
    have HNF:Hid (∀ W,Calls Tryz.prog 61 #[.string x.frm] W (fun e w' => e = .returned (.bool party) ∧ ∃ m,w' = W.drewN m)):=fun W => by rw [qparty];exact (rname_any x.frm W).mono fun _ _ ⟨h1,h2⟩ => ⟨h1,0,h2.symm⟩
    have HNN:Hid (∀ W,Calls Tryz.prog 61 #[.string x.name] W (fun e w' => e = .returned (.bool word) ∧ ∃ m,w' = W.drewN m)):=fun W => by rw [qword];exact (rname_any x.name W).mono fun _ _ ⟨h1,h2⟩ => ⟨h1,0,h2.symm⟩
    have HNT:Hid (∀ W,Calls Tryz.prog 61 #[.string x.too] W (fun e w' => e = .returned (.bool nTo)∧W=w')):=fun W => by rw [qnTo];exact rname_any x.too W
    have HDAY:Hid (∀ W,Calls Tryz.prog 65 #[.int .i64 x.date] W (fun e w' => e = .returned (.bool day)∧W=w')):=fun W => by rw [qday];exact rdayok_any x.date W
    clear qnoExpr qdays qnumber qtruth qparty qword qnTo qday HOK hx HX
    go_wp2_with fail
    go_quiet (first | (go_at_call 61;first | with_reducible exact Calls.quiet_of (HNF.out _) | with_reducible exact Calls.quiet_of (HNN.out _)))
    go_wp2_with fail
    refine (HBARE.out _).mono ?_
    rintro e w2 ⟨rfl,hb⟩
    have HB2:=Lib.hid ((below_drewN HB.out _).trans (hb.mono (by simpa using HB.out.size)))
    clear hb c0 c1 c2 c3 c4 c5 c6 c7 c8 c9 ca cb
    obtain ⟨c0,c1,c2,c3,c4,c5,c6,c7,c8,c9,ca,cb⟩:=HCC.out w2 HB2.out
    go_wp2_with fail
    refine (HDAYS.out _ HB2.out).mono ?_
    rintro e w3 ⟨rfl,hb⟩
    have HB3:=Lib.hid (HB2.out.trans (hb.mono HB2.out.size))
    clear hb c0 c1 c2 c3 c4 c5 c6 c7 c8 c9 ca cb
    obtain ⟨c0,c1,c2,c3,c4,c5,c6,c7,c8,c9,ca,cb⟩:=HCC.out w3 HB3.out
    go_wp2_with fail
    refine (HNUM.out _ HB3.out).mono ?_
    rintro e w4 ⟨rfl,hb⟩
    have HB4:=Lib.hid (HB3.out.trans (hb.mono HB3.out.size))
    clear hb c0 c1 c2 c3 c4 c5 c6 c7 c8 c9 ca cb
    obtain ⟨c0,c1,c2,c3,c4,c5,c6,c7,c8,c9,ca,cb⟩:=HCC.out w4 HB4.out
    go_wp2_with fail
    refine (HTRU.out _ HB4.out).mono ?_
    rintro e w5 ⟨rfl,hb⟩
    have HB5:=Lib.hid (HB4.out.trans (hb.mono HB4.out.size))
    have HB6:=Lib.hid (HB0.out.trans (HB5.out.mono HB0.out.size))
    clear hb c0 c1 c2 c3 c4 c5 c6 c7 c8 c9 ca cb
    obtain ⟨c0,c1,c2,c3,c4,c5,c6,c7,c8,c9,ca,cb⟩:=HCC.out w5 HB5.out
    clear HBARE HDAYS HNUM HTRU HNF HNN HI HS HIN HIN0 HRR HDS HCC HB HB2 HB3 HB4 c3 c4 c5 c6 c7 c8 ca cb
    go_upto_region 18 with (fail)
    by_cases hk1:x.kind=1
    ·have e:R=(n0 && nobody && noTo && noName && noDate && noDays && noExpr):=by rw [HX2.out,hk1];rfl
     have E:=Lib.hid e
     have t1:(x.kind == 1)=true:=by rw [hk1];rfl
     clear e HX2
     cases n0 with
     | false =>
      go_wp2_with fail
      go_ret
      exact ⟨by rw [E.out];rfl,HB6.out⟩
     | true =>
      cases nobody with
      | false =>
       go_wp2_with fail
       go_ret
       exact ⟨by rw [E.out];rfl,HB6.out⟩
      | true =>
       cases noTo with
       | false =>
        go_wp2_with fail
        go_ret
        exact ⟨by rw [E.out];rfl,HB6.out⟩
       | true =>
        cases noName with
        | false =>
         go_wp2_with fail
         go_ret
         exact ⟨by rw [E.out];rfl,HB6.out⟩
        | true =>
         cases noDate with
         | false =>
          go_wp2_with fail
          go_ret
          exact ⟨by rw [E.out];rfl,HB6.out⟩
         | true =>
          cases noDays with
          | false =>
           go_wp2_with fail
           go_ret
           exact ⟨by rw [E.out];rfl,HB6.out⟩
          | true =>
           cases noExpr with
           | false =>
            go_wp2_with fail
            go_ret
            exact ⟨by rw [E.out];rfl,HB6.out⟩
           | true =>
            go_wp2_with fail
            go_ret
            exact ⟨by rw [E.out];rfl,HB6.out⟩
    by_cases hk2:x.kind=2
    ·have e:R=(n0 && party && nTo && ne && word && number && noDate && noDays):=by rw [HX2.out,hk2];rfl
     have E:=Lib.hid e
     have t1:(x.kind == 1)=false:=by rw [hk2];rfl
     have t2:(x.kind == 2)=true:=by rw [hk2];rfl
     clear e HX2
     cases n0 with
     | false =>
      go_wp2_with fail
      go_ret
      exact ⟨by rw [E.out];rfl,HB6.out⟩
     | true =>
      cases party with
      | false =>
       go_wp2_with fail
       go_ret
       exact ⟨by rw [E.out];rfl,HB6.out⟩
      | true =>
       cases nTo with
       | false =>
        go_wp2_with fail
        refine (HNT.out _).mono ?_
        rintro e w6 ⟨rfl,rfl⟩
        go_wp2_with fail
        go_ret
        exact ⟨by rw [E.out];rfl,HB6.out⟩
       | true =>
        cases ne with
        | false =>
         go_wp2_with fail
         refine (HNT.out _).mono ?_
         rintro e w6 ⟨rfl,rfl⟩
         go_wp2_with fail
         go_ret
         exact ⟨by rw [E.out];rfl,HB6.out⟩
        | true =>
         cases word with
         | false =>
          go_wp2_with fail
          refine (HNT.out _).mono ?_
          rintro e w6 ⟨rfl,rfl⟩
          go_wp2_with fail
          go_ret
          exact ⟨by rw [E.out];rfl,HB6.out⟩
         | true =>
          cases number with
          | false =>
           go_wp2_with fail
           refine (HNT.out _).mono ?_
           rintro e w6 ⟨rfl,rfl⟩
           go_wp2_with fail
           go_ret
           exact ⟨by rw [E.out];rfl,HB6.out⟩
          | true =>
           cases noDate with
           | false =>
            go_wp2_with fail
            refine (HNT.out _).mono ?_
            rintro e w6 ⟨rfl,rfl⟩
            go_wp2_with fail
            go_ret
            exact ⟨by rw [E.out];rfl,HB6.out⟩
           | true =>
            cases noDays with
            | false =>
             go_wp2_with fail
             refine (HNT.out _).mono ?_
             rintro e w6 ⟨rfl,rfl⟩
             go_wp2_with fail
             go_ret
             exact ⟨by rw [E.out];rfl,HB6.out⟩
            | true =>
             go_wp2_with fail
             refine (HNT.out _).mono ?_
             rintro e w6 ⟨rfl,rfl⟩
             go_wp2_with fail
             go_ret
             exact ⟨by rw [E.out];rfl,HB6.out⟩
    by_cases hk3:x.kind=3
    ·have e:R=(n2 && nobody && noTo && noName && noDate && noDays && noExpr):=by rw [HX2.out,hk3];rfl
     have E:=Lib.hid e
     have t1:(x.kind == 1)=false:=by rw [hk3];rfl
     have t2:(x.kind == 2)=false:=by rw [hk3];rfl
     have t3:(x.kind == 3)=true:=by rw [hk3];rfl
     clear e HX2
     cases n2 with
     | false =>
      go_wp2_with fail
      go_ret
      exact ⟨by rw [E.out];rfl,HB6.out⟩
     | true =>
      cases nobody with
      | false =>
       go_wp2_with fail
       go_ret
       exact ⟨by rw [E.out];rfl,HB6.out⟩
      | true =>
       cases noTo with
       | false =>
        go_wp2_with fail
        go_ret
        exact ⟨by rw [E.out];rfl,HB6.out⟩
       | true =>
        cases noName with
        | false =>
         go_wp2_with fail
         go_ret
         exact ⟨by rw [E.out];rfl,HB6.out⟩
        | true =>
         cases noDate with
         | false =>
          go_wp2_with fail
          go_ret
          exact ⟨by rw [E.out];rfl,HB6.out⟩
         | true =>
          cases noDays with
          | false =>
           go_wp2_with fail
           go_ret
           exact ⟨by rw [E.out];rfl,HB6.out⟩
          | true =>
           cases noExpr with
           | false =>
            go_wp2_with fail
            go_ret
            exact ⟨by rw [E.out];rfl,HB6.out⟩
           | true =>
            go_wp2_with fail
            go_ret
            exact ⟨by rw [E.out];rfl,HB6.out⟩
    by_cases hk4:x.kind=4
    ·have e:R=(n1 && nobody && noTo && noName && noDate && noDays && number):=by rw [HX2.out,hk4];rfl
     have E:=Lib.hid e
     have t1:(x.kind == 1)=false:=by rw [hk4];rfl
     have t2:(x.kind == 2)=false:=by rw [hk4];rfl
     have t3:(x.kind == 3)=false:=by rw [hk4];rfl
     have t4:(x.kind == 4)=true:=by rw [hk4];rfl
     clear e HX2
     cases n1 with
     | false =>
      go_wp2_with fail
      go_ret
      exact ⟨by rw [E.out];rfl,HB6.out⟩
     | true =>
      cases nobody with
      | false =>
       go_wp2_with fail
       go_ret
       exact ⟨by rw [E.out];rfl,HB6.out⟩
      | true =>
       cases noTo with
       | false =>
        go_wp2_with fail
        go_ret
        exact ⟨by rw [E.out];rfl,HB6.out⟩
       | true =>
        cases noName with
        | false =>
         go_wp2_with fail
         go_ret
         exact ⟨by rw [E.out];rfl,HB6.out⟩
        | true =>
         cases noDate with
         | false =>
          go_wp2_with fail
          go_ret
          exact ⟨by rw [E.out];rfl,HB6.out⟩
         | true =>
          cases noDays with
          | false =>
           go_wp2_with fail
           go_ret
           exact ⟨by rw [E.out];rfl,HB6.out⟩
          | true =>
           cases number with
           | false =>
            go_wp2_with fail
            go_ret
            exact ⟨by rw [E.out];rfl,HB6.out⟩
           | true =>
            go_wp2_with fail
            go_ret
            exact ⟨by rw [E.out];rfl,HB6.out⟩
    by_cases hk5:x.kind=5
    ·have e:R=(n2 && nobody && noTo && noName && noDate && noDays && truth):=by rw [HX2.out,hk5];rfl
     have E:=Lib.hid e
     have t1:(x.kind == 1)=false:=by rw [hk5];rfl
     have t2:(x.kind == 2)=false:=by rw [hk5];rfl
     have t3:(x.kind == 3)=false:=by rw [hk5];rfl
     have t4:(x.kind == 4)=false:=by rw [hk5];rfl
     have t5:(x.kind == 5)=true:=by rw [hk5];rfl
     clear e HX2
     cases n2 with
     | false =>
      go_wp2_with fail
      go_ret
      exact ⟨by rw [E.out];rfl,HB6.out⟩
     | true =>
      cases nobody with
      | false =>
       go_wp2_with fail
       go_ret
       exact ⟨by rw [E.out];rfl,HB6.out⟩
      | true =>
       cases noTo with
       | false =>
        go_wp2_with fail
        go_ret
        exact ⟨by rw [E.out];rfl,HB6.out⟩
       | true =>
        cases noName with
        | false =>
         go_wp2_with fail
         go_ret
         exact ⟨by rw [E.out];rfl,HB6.out⟩
        | true =>
         cases noDate with
         | false =>
          go_wp2_with fail
          go_ret
          exact ⟨by rw [E.out];rfl,HB6.out⟩
         | true =>
          cases noDays with
          | false =>
           go_wp2_with fail
           go_ret
           exact ⟨by rw [E.out];rfl,HB6.out⟩
          | true =>
           cases truth with
           | false =>
            go_wp2_with fail
            go_ret
            exact ⟨by rw [E.out];rfl,HB6.out⟩
           | true =>
            go_wp2_with fail
            go_ret
            exact ⟨by rw [E.out];rfl,HB6.out⟩
    by_cases hk6:x.kind=6
    ·have e:R=(n1 && nobody && noTo && noName && day && noDays && noExpr):=by rw [HX2.out,hk6];rfl
     have E:=Lib.hid e
     have t1:(x.kind == 1)=false:=by rw [hk6];rfl
     have t2:(x.kind == 2)=false:=by rw [hk6];rfl
     have t3:(x.kind == 3)=false:=by rw [hk6];rfl
     have t4:(x.kind == 4)=false:=by rw [hk6];rfl
     have t5:(x.kind == 5)=false:=by rw [hk6];rfl
     have t6:(x.kind == 6)=true:=by rw [hk6];rfl
     clear e HX2
     cases n1 with
     | false =>
      go_wp2_with fail
      go_ret
      exact ⟨by rw [E.out];rfl,HB6.out⟩
     | true =>
      cases nobody with
      | false =>
       go_wp2_with fail
       go_ret
       exact ⟨by rw [E.out];rfl,HB6.out⟩
      | true =>
       cases noTo with
       | false =>
        go_wp2_with fail
        go_ret
        exact ⟨by rw [E.out];rfl,HB6.out⟩
       | true =>
        cases noName with
        | false =>
         go_wp2_with fail
         go_ret
         exact ⟨by rw [E.out];rfl,HB6.out⟩
        | true =>
         cases day with
         | false =>
          go_wp2_with fail
          refine (HDAY.out _).mono ?_
          rintro e w6 ⟨rfl,rfl⟩
          go_wp2_with fail
          go_ret
          exact ⟨by rw [E.out];rfl,HB6.out⟩
         | true =>
          cases noDays with
          | false =>
           go_wp2_with fail
           refine (HDAY.out _).mono ?_
           rintro e w6 ⟨rfl,rfl⟩
           go_wp2_with fail
           go_ret
           exact ⟨by rw [E.out];rfl,HB6.out⟩
          | true =>
           cases noExpr with
           | false =>
            go_wp2_with fail
            refine (HDAY.out _).mono ?_
            rintro e w6 ⟨rfl,rfl⟩
            go_wp2_with fail
            go_ret
            exact ⟨by rw [E.out];rfl,HB6.out⟩
           | true =>
            go_wp2_with fail
            refine (HDAY.out _).mono ?_
            rintro e w6 ⟨rfl,rfl⟩
            go_wp2_with fail
            go_ret
            exact ⟨by rw [E.out];rfl,HB6.out⟩
    by_cases hk7:x.kind=7
    ·have e:R=(n2 && party && noTo && word && noDate && noDays && noExpr):=by rw [HX2.out,hk7];rfl
     have E:=Lib.hid e
     have t1:(x.kind == 1)=false:=by rw [hk7];rfl
     have t2:(x.kind == 2)=false:=by rw [hk7];rfl
     have t3:(x.kind == 3)=false:=by rw [hk7];rfl
     have t4:(x.kind == 4)=false:=by rw [hk7];rfl
     have t5:(x.kind == 5)=false:=by rw [hk7];rfl
     have t6:(x.kind == 6)=false:=by rw [hk7];rfl
     have t7:(x.kind == 7)=true:=by rw [hk7];rfl
     clear e HX2
     cases n2 with
     | false =>
      go_wp2_with fail
      go_ret
      exact ⟨by rw [E.out];rfl,HB6.out⟩
     | true =>
      cases party with
      | false =>
       go_wp2_with fail
       go_ret
       exact ⟨by rw [E.out];rfl,HB6.out⟩
      | true =>
       cases noTo with
       | false =>
        go_wp2_with fail
        go_ret
        exact ⟨by rw [E.out];rfl,HB6.out⟩
       | true =>
        cases word with
        | false =>
         go_wp2_with fail
         go_ret
         exact ⟨by rw [E.out];rfl,HB6.out⟩
        | true =>
         cases noDate with
         | false =>
          go_wp2_with fail
          go_ret
          exact ⟨by rw [E.out];rfl,HB6.out⟩
         | true =>
          cases noDays with
          | false =>
           go_wp2_with fail
           go_ret
           exact ⟨by rw [E.out];rfl,HB6.out⟩
          | true =>
           cases noExpr with
           | false =>
            go_wp2_with fail
            go_ret
            exact ⟨by rw [E.out];rfl,HB6.out⟩
           | true =>
            go_wp2_with fail
            go_ret
            exact ⟨by rw [E.out];rfl,HB6.out⟩
    by_cases hk8:x.kind=8
    ·have e:R=(n1 && party && noTo && word && noDate && days && noExpr):=by rw [HX2.out,hk8];rfl
     have E:=Lib.hid e
     have t1:(x.kind == 1)=false:=by rw [hk8];rfl
     have t2:(x.kind == 2)=false:=by rw [hk8];rfl
     have t3:(x.kind == 3)=false:=by rw [hk8];rfl
     have t4:(x.kind == 4)=false:=by rw [hk8];rfl
     have t5:(x.kind == 5)=false:=by rw [hk8];rfl
     have t6:(x.kind == 6)=false:=by rw [hk8];rfl
     have t7:(x.kind == 7)=false:=by rw [hk8];rfl
     have t8:(x.kind == 8)=true:=by rw [hk8];rfl
     clear e HX2
     cases n1 with
     | false =>
      go_wp2_with fail
      go_ret
      exact ⟨by rw [E.out];rfl,HB6.out⟩
     | true =>
      cases party with
      | false =>
       go_wp2_with fail
       go_ret
       exact ⟨by rw [E.out];rfl,HB6.out⟩
      | true =>
       cases noTo with
       | false =>
        go_wp2_with fail
        go_ret
        exact ⟨by rw [E.out];rfl,HB6.out⟩
       | true =>
        cases word with
        | false =>
         go_wp2_with fail
         go_ret
         exact ⟨by rw [E.out];rfl,HB6.out⟩
        | true =>
         cases noDate with
         | false =>
          go_wp2_with fail
          go_ret
          exact ⟨by rw [E.out];rfl,HB6.out⟩
         | true =>
          cases days with
          | false =>
           go_wp2_with fail
           go_ret
           exact ⟨by rw [E.out];rfl,HB6.out⟩
          | true =>
           cases noExpr with
           | false =>
            go_wp2_with fail
            go_ret
            exact ⟨by rw [E.out];rfl,HB6.out⟩
           | true =>
            go_wp2_with fail
            go_ret
            exact ⟨by rw [E.out];rfl,HB6.out⟩
    by_cases hk9:x.kind=9
    ·have e:R=(n1 && nobody && noTo && noName && noDate && days && truth):=by rw [HX2.out,hk9];rfl
     have E:=Lib.hid e
     have t1:(x.kind == 1)=false:=by rw [hk9];rfl
     have t2:(x.kind == 2)=false:=by rw [hk9];rfl
     have t3:(x.kind == 3)=false:=by rw [hk9];rfl
     have t4:(x.kind == 4)=false:=by rw [hk9];rfl
     have t5:(x.kind == 5)=false:=by rw [hk9];rfl
     have t6:(x.kind == 6)=false:=by rw [hk9];rfl
     have t7:(x.kind == 7)=false:=by rw [hk9];rfl
     have t8:(x.kind == 8)=false:=by rw [hk9];rfl
     have t9:(x.kind == 9)=true:=by rw [hk9];rfl
     clear e HX2
     cases n1 with
     | false =>
      go_wp2_with fail
      go_ret
      exact ⟨by rw [E.out];rfl,HB6.out⟩
     | true =>
      cases nobody with
      | false =>
       go_wp2_with fail
       go_ret
       exact ⟨by rw [E.out];rfl,HB6.out⟩
      | true =>
       cases noTo with
       | false =>
        go_wp2_with fail
        go_ret
        exact ⟨by rw [E.out];rfl,HB6.out⟩
       | true =>
        cases noName with
        | false =>
         go_wp2_with fail
         go_ret
         exact ⟨by rw [E.out];rfl,HB6.out⟩
        | true =>
         cases noDate with
         | false =>
          go_wp2_with fail
          go_ret
          exact ⟨by rw [E.out];rfl,HB6.out⟩
         | true =>
          cases days with
          | false =>
           go_wp2_with fail
           go_ret
           exact ⟨by rw [E.out];rfl,HB6.out⟩
          | true =>
           cases truth with
           | false =>
            go_wp2_with fail
            go_ret
            exact ⟨by rw [E.out];rfl,HB6.out⟩
           | true =>
            go_wp2_with fail
            go_ret
            exact ⟨by rw [E.out];rfl,HB6.out⟩
    by_cases hk10:x.kind=10
    ·have e:R=(n1 && nobody && noTo && noName && noDate && days && truth):=by rw [HX2.out,hk10];rfl
     have E:=Lib.hid e
     have t1:(x.kind == 1)=false:=by rw [hk10];rfl
     have t2:(x.kind == 2)=false:=by rw [hk10];rfl
     have t3:(x.kind == 3)=false:=by rw [hk10];rfl
     have t4:(x.kind == 4)=false:=by rw [hk10];rfl
     have t5:(x.kind == 5)=false:=by rw [hk10];rfl
     have t6:(x.kind == 6)=false:=by rw [hk10];rfl
     have t7:(x.kind == 7)=false:=by rw [hk10];rfl
     have t8:(x.kind == 8)=false:=by rw [hk10];rfl
     have t9:(x.kind == 9)=false:=by rw [hk10];rfl
     have t10:(x.kind == 10)=true:=by rw [hk10];rfl
     clear e HX2
     cases n1 with
     | false =>
      go_wp2_with fail
      go_ret
      exact ⟨by rw [E.out];rfl,HB6.out⟩
     | true =>
      cases nobody with
      | false =>
       go_wp2_with fail
       go_ret
       exact ⟨by rw [E.out];rfl,HB6.out⟩
      | true =>
       cases noTo with
       | false =>
        go_wp2_with fail
        go_ret
        exact ⟨by rw [E.out];rfl,HB6.out⟩
       | true =>
        cases noName with
        | false =>
         go_wp2_with fail
         go_ret
         exact ⟨by rw [E.out];rfl,HB6.out⟩
        | true =>
         cases noDate with
         | false =>
          go_wp2_with fail
          go_ret
          exact ⟨by rw [E.out];rfl,HB6.out⟩
         | true =>
          cases days with
          | false =>
           go_wp2_with fail
           go_ret
           exact ⟨by rw [E.out];rfl,HB6.out⟩
          | true =>
           cases truth with
           | false =>
            go_wp2_with fail
            go_ret
            exact ⟨by rw [E.out];rfl,HB6.out⟩
           | true =>
            go_wp2_with fail
            go_ret
            exact ⟨by rw [E.out];rfl,HB6.out⟩
    have e:R=false:=by
     rw [HX2.out]
     exact nodeB_no (by omega) ..
    have E:=Lib.hid e
    have t1:(x.kind == 1)=false:=by simpa using hk1
    have t2:(x.kind == 2)=false:=by simpa using hk2
    have t3:(x.kind == 3)=false:=by simpa using hk3
    have t4:(x.kind == 4)=false:=by simpa using hk4
    have t5:(x.kind == 5)=false:=by simpa using hk5
    have t6:(x.kind == 6)=false:=by simpa using hk6
    have t7:(x.kind == 7)=false:=by simpa using hk7
    have t8:(x.kind == 8)=false:=by simpa using hk8
    have t9:(x.kind == 9)=false:=by simpa using hk9
    have t10:(x.kind == 10)=false:=by simpa using hk10
    clear e HX2
    go_wp2_with fail
    go_ret
    exact ⟨by rw [E.out];rfl,HB6.out⟩
end Go.Proofs.YtijkefflpojmhaaGreatDoor

namespace Go.Proofs.YtijkefflpojmhaaGreatDoor
open Go.RowKit
def chkC (x:Ct):Int:=if 500 < x.csz ∨ 60 < x.cdp then 4 else if formX x then 0 else 8
theorem CtIn.sm9 {n:Nat} {x:Ct} {cs:List Value} {w Wg:World} (h:CtIn n x cs w Wg):∃ d,d≤900∧CSm d x:=by
 obtain ⟨d,hd,h⟩:=h.small
 exact ⟨d,by omega,h⟩
set_option maxHeartbeats 2000000 in
set_option maxRecDepth 100000 in
theorem rcchk_any (n:Nat) (x:Ct) (cs:List Value) (w Wg:World) (h:CtIn n x cs w Wg):Calls Tryz.prog 15 #[.agg cs.toArray] w (IntP w (chkC x)):=by
 have hsh:=h.at_.shape
 obtain ⟨ea,el,ec,da,dl,dc,a,len,cap,rfl,_⟩:=hsh
 show Calls Tryz.prog 15 #[.agg #[.int .u8 x.kind,.string x.frm,.string x.too,.string x.name,.int .u8 x.expr.kind,.string x.expr.rat,.string x.expr.name,.int .i64 x.expr.date,.slice ea el ec,.int .i64 x.date,.slice da dl dc,.slice a len cap]] w _
 obtain ⟨W0,hW0⟩:∃ W0,W0=w.alloc (.cells #[.int .u8 x.kind,.string x.frm,.string x.too,.string x.name,.int .u8 x.expr.kind,.string x.expr.rat,.string x.expr.name,.int .i64 x.expr.date,.slice ea el ec,.int .i64 x.date,.slice da dl dc,.slice a len cap] 29):=⟨_,rfl⟩
 have hB0:Below w.heap.size w W0:=by rw [hW0];exact own_below w _
 have hbx:W0.heap[w.heap.size]? = some (.cells #[.int .u8 x.kind,.string x.frm,.string x.too,.string x.name,.int .u8 x.expr.kind,.string x.expr.rat,.string x.expr.name,.int .i64 x.expr.date,.slice ea el ec,.int .i64 x.date,.slice da dl dc,.slice a len cap] 29):=by rw [hW0];exact heap_alloc_new w _
 have h0:=h.below hB0
 have hcz:=Ct.csz_le x
 have hxz:=h.size
 have HC:∀ W,Below W0.heap.size W0 W→_:=fun W hW => ctBox ((hW.block _ (Array.getElem?_eq_some_iff.1 hbx).1).trans hbx)
 have HSZ:Hid (∀ W,Below W0.heap.size W0 W→Calls Tryz.prog 32 #[.agg #[.int .u8 x.kind,.string x.frm,.string x.too,.string x.name,.int .u8 x.expr.kind,.string x.expr.rat,.string x.expr.name,.int .i64 x.expr.date,.slice ea el ec,.int .i64 x.date,.slice da dl dc,.slice a len cap]] W (IntP W (x.csz:Int))):=fun W hW => rcsize_any n x _ W (CtAt.below hW h0.at_) h.size h.sm9
 have HDP:Hid (∀ W,Below W0.heap.size W0 W→Calls Tryz.prog 33 #[.agg #[.int .u8 x.kind,.string x.frm,.string x.too,.string x.name,.int .u8 x.expr.kind,.string x.expr.rat,.string x.expr.name,.int .i64 x.expr.date,.slice ea el ec,.int .i64 x.date,.slice da dl dc,.slice a len cap]] W (IntP W (x.cdp:Int))):=fun W hW => rcdepth_any n x _ W (CtAt.below hW h0.at_) h.size h.sm9
 have HST:Hid (∀ W,Below W0.heap.size W0 W→Calls Tryz.prog 34 #[.agg #[.int .u8 x.kind,.string x.frm,.string x.too,.string x.name,.int .u8 x.expr.kind,.string x.expr.rat,.string x.expr.name,.int .i64 x.expr.date,.slice ea el ec,.int .i64 x.date,.slice da dl dc,.slice a len cap]] W (BelB W (formX x))):=fun W hW => rformed_any n x _ W (h0.below hW)
 have hcd:x.cdp≤1000:=by
  obtain ⟨d,h9,hd⟩:=h.sm9
  have:=hd.cdp;omega
 obtain ⟨R,hR⟩:∃ R,R=chkC x:=⟨_,rfl⟩
 rw [← hR]
 have HW0:=Lib.hid hW0
 have HB0:=Lib.hid hB0
 have HCC:=Lib.hid HC
 obtain ⟨c0,c1,c2,c3,c4,c5,c6,c7,c8,c9,ca,cb⟩:=HC W0 (Below.refl _ _)
 obtain ⟨sz,hsz⟩:∃ q,q=x.csz:=⟨_,rfl⟩
 obtain ⟨dp,hdp⟩:∃ q,q=x.cdp:=⟨_,rfl⟩
 obtain ⟨fo,hfo⟩:∃ q,q=formX x:=⟨_,rfl⟩
 have hcx:R=if 500 < sz ∨ 60 < dp then 4 else if fo then 0 else 8:=by rw [hR,hsz,hdp,hfo];rfl
 have hszb:sz≤1000:=by omega
 have hdpb:dp≤1000:=by omega
 rw [← hsz] at HSZ
 rw [← hdp] at HDP
 rw [← hfo] at HST
 have HCX:=Lib.hid hcx
 clear hR hW0 hB0 HC h0 h hbx hsz hdp hfo hcx hcz hxz hcd
 go_enter Tryz.func15,Tryz.ntmps15
 go_wp2_with fail
 rw [← HW0.out]
 refine (HSZ.out _ (Below.refl _ _)).mono ?_
 rintro e w1 ⟨rfl,hb⟩
 have HB1:=Lib.hid hb
 have HB:=Lib.hid (HB0.out.trans (hb.mono HB0.out.size))
 clear hb c0 c1 c2 c3 c4 c5 c6 c7 c8 c9 ca cb
 obtain ⟨c0,c1,c2,c3,c4,c5,c6,c7,c8,c9,ca,cb⟩:=HCC.out w1 HB1.out
 by_cases h5:500 < sz
 ·have e:R=4:=by rw [HCX.out,if_pos (.inl h5)]
  have E:=Lib.hid e
  have d5:decide ((500:Int) < (sz:Int))=true:=decide_eq_true (by omega)
  clear e
  go_wp2_with fail
  go_ret
  exact ⟨by rw [E.out];rfl,HB.out⟩
 have d5:decide ((500:Int) < (sz:Int))=false:=decide_eq_false (by omega)
 go_wp2_with fail
 refine (HDP.out _ HB1.out).mono ?_
 rintro e w2 ⟨rfl,hb⟩
 have HB2:=Lib.hid (HB1.out.trans (hb.mono HB1.out.size))
 have HBB:=Lib.hid (HB.out.trans (hb.mono HB.out.size))
 clear hb c0 c1 c2 c3 c4 c5 c6 c7 c8 c9 ca cb
 obtain ⟨c0,c1,c2,c3,c4,c5,c6,c7,c8,c9,ca,cb⟩:=HCC.out w2 HB2.out
 by_cases h6:60 < dp
 ·have e:R=4:=by rw [HCX.out,if_pos (.inr h6)]
  have E:=Lib.hid e
  have d6:decide ((60:Int) < (dp:Int))=true:=decide_eq_true (by omega)
  clear e
  go_wp2_with fail
  go_ret
  exact ⟨by rw [E.out];rfl,HBB.out⟩
 have d6:decide ((60:Int) < (dp:Int))=false:=decide_eq_false (by omega)
 have e:R=if fo then 0 else 8:=by rw [HCX.out,if_neg (by omega)]
 have E:=Lib.hid e
 clear e
 go_wp2_with fail
 refine (HST.out _ HB2.out).mono ?_
 rintro e w3 ⟨rfl,hb⟩
 have HB3:=Lib.hid (HBB.out.trans (hb.mono HBB.out.size))
 clear hb
 cases fo with
 | true =>
  go_wp2_with fail
  go_ret
  exact ⟨by rw [E.out];rfl,HB3.out⟩
 | false =>
  go_wp2_with fail
  go_ret
  exact ⟨by rw [E.out];rfl,HB3.out⟩
end Go.Proofs.YtijkefflpojmhaaGreatDoor

namespace Go.Proofs.YtijkefflpojmhaaGreatDoor
open Go.RowKit Go.ChangeShapes Go.WideShapes Go.Deep
def ptsL (k:Int):Option Int :=
 if k=1 then some 0 else if k=2 then some 15 else if k=3 then some 256 else if k=4 then some 136 else if k=5 then some 272 else if k=6 then some 160 else if k=7 then some 261 else if k=8 then some 197 else if k=9 then some 208 else if k=10 then some 208 else none
def PtsAt (w:World):Prop := ∃ bm,w.cell? ⟨0,0,none⟩=some (.map (some bm)) ∧ ∀ k:Int,0≤k→k≤255 →
 (ptsL k=none → ∀ W,Below w.heap.size w W→(Instr.lookup 74 (.map (some bm)) (.int .u8 k) true).run Tryz.prog W = .ok (.tuple #[.int .i64 0,.bool false]) W) ∧
 (∀ p,ptsL k=some p → ∀ W,Below w.heap.size w W→(Instr.lookup 74 (.map (some bm)) (.int .u8 k) true).run Tryz.prog W = .ok (.tuple #[.int .i64 p,.bool true]) W)
theorem gParts : Tryz.prog.globalNamed "novation/contract.parts" = some 0 := by kernel_rfl
theorem tParts:(Tryz.prog.globals[0]?).map (·.type)=some 74:=by kernel_rfl
set_option maxRecDepth 100000 in
theorem pts_key {H:Type} (k:Int):(ptsL k=none→(Rows.laid_novation_contract_parts (H:=H)).atKey (.int .u8 k) .nil = .nil)∧(∀ p,ptsL k=some p→(Rows.laid_novation_contract_parts (H:=H)).atKey (.int .u8 k) .nil = .lit (.int .i64 p)):=by
 by_cases h1:k=1
 ·subst h1
  exact ⟨fun h => by simp [ptsL] at h,fun p h => by simp [ptsL] at h;subst h;rfl⟩
 by_cases h2:k=2
 ·subst h2
  exact ⟨fun h => by simp [ptsL] at h,fun p h => by simp [ptsL] at h;subst h;rfl⟩
 by_cases h3:k=3
 ·subst h3
  exact ⟨fun h => by simp [ptsL] at h,fun p h => by simp [ptsL] at h;subst h;rfl⟩
 by_cases h4:k=4
 ·subst h4
  exact ⟨fun h => by simp [ptsL] at h,fun p h => by simp [ptsL] at h;subst h;rfl⟩
 by_cases h5:k=5
 ·subst h5
  exact ⟨fun h => by simp [ptsL] at h,fun p h => by simp [ptsL] at h;subst h;rfl⟩
 by_cases h6:k=6
 ·subst h6
  exact ⟨fun h => by simp [ptsL] at h,fun p h => by simp [ptsL] at h;subst h;rfl⟩
 by_cases h7:k=7
 ·subst h7
  exact ⟨fun h => by simp [ptsL] at h,fun p h => by simp [ptsL] at h;subst h;rfl⟩
 by_cases h8:k=8
 ·subst h8
  exact ⟨fun h => by simp [ptsL] at h,fun p h => by simp [ptsL] at h;subst h;rfl⟩
 by_cases h9:k=9
 ·subst h9
  exact ⟨fun h => by simp [ptsL] at h,fun p h => by simp [ptsL] at h;subst h;rfl⟩
 by_cases h10:k=10
 ·subst h10
  exact ⟨fun h => by simp [ptsL] at h,fun p h => by simp [ptsL] at h;subst h;rfl⟩
 refine ⟨fun _ => ?_,fun p h => ?_⟩
 ·simp [Rows.laid_novation_contract_parts,DataW.atKey,Lit.sameKey,Ne.symm h1,Ne.symm h2,Ne.symm h3,Ne.symm h4,Ne.symm h5,Ne.symm h6,Ne.symm h7,Ne.symm h8,Ne.symm h9,Ne.symm h10]
 ·unfold ptsL at h
  rw [if_neg h1,if_neg h2,if_neg h3,if_neg h4,if_neg h5,if_neg h6,if_neg h7,if_neg h8,if_neg h9,if_neg h10] at h
  cases h
set_option maxRecDepth 100000 in
theorem int_formed {v:Value} {k:Int} (hl:v.cells.toList=[.int .i64 k]) (hf:v.formed Tryz.prog 3=true):v = .int .i64 k:=by
 unfold Value.formed at hf
 rw [Tryz.underlying3] at hf
 have hl2:∀ u:Value,u.cells.toList=[.int .i64 k]→u.cells = #[u]→u = .int .i64 k:=fun u h1 h2 => by
  rw [h2] at h1
  simpa using h1
 cases v <;> first | exact hl2 _ hl rfl | simp at hf
theorem zeroPts (w:World):(zeroValue 3).run Tryz.prog w = .ok (.int .i64 0) w:=by kernel_rfl
set_option maxRecDepth 100000 in
theorem laidPts {laid rest : List (String × DataW Unit)} (hl : laid = ("novation/contract.parts", Rows.laid_novation_contract_parts) :: rest) {W : World} (h : laidMet Tryz.prog laid W) : PtsAt W := by
 subst hl
 obtain ⟨ps,⟨g0,t0,cs0,f0,p0,q0,hg0,ht0,hv0,hd0,_,_⟩,_,_⟩:=h
 obtain rfl:=Option.some.inj (gParts.symm.trans hg0)
 obtain rfl:=Option.some.inj (tParts.symm.trans ht0)
 rcases Go.WideElems.open_map Tryz.underlying74 hd0 with ⟨_,hx⟩ | ⟨bm,es,clock,m,rfl,hcs,hb,_,F,hx⟩
 ·simp [Rows.laid_novation_contract_parts] at hx
 simp only [Prod.mk.injEq] at hx
 have hcell:W.cell? ⟨0,0,none⟩=some (.map (some bm)):=by
  have:=World.var?_cell hg0 hv0 0
  rw [Array.eq_one_of_toList hcs] at this
  simpa using this
 have hbl:bm < W.heap.size:=(Array.getElem?_eq_some_iff.1 hb).1
 refine ⟨bm,hcell,fun k hk0 hk1 => ?_⟩
 have hkey:keyOf Tryz.prog 5 (.int .u8 k)=some (.int .u8 k):=Maps.keyOf_int_mk Tryz.underlying5 (by
  have h0:IntKind.u8.min=0:=rfl
  have h1:IntKind.u8.max=255:=rfl
  simp [Lit.wf];omega)
 have look:∀ W',Below W.heap.size W W' → _:=fun W' hW' => Maps.fit_look (w:=W') true (Maps.int_keyed Tryz.underlying5) Tryz.underlying74 (zeroPts W') ((hW'.block _ hbl).trans hb) F hkey
 refine ⟨fun hs W' hW' => ?_,fun p hs W' hW' => ?_⟩
 ·rcases look W' hW' with ⟨hr,_,_⟩ | ⟨e0,y,_,_,_,hR,hat,_⟩
  ·simpa using hr
  ·have h2:=hat .nil
   rw [← hx.1,(pts_key k).1 hs] at h2
   unfold Go.WideElems.elemAt at hR
   split at hR
   ·obtain ⟨n,e1,e2,_⟩:=DataW.trod_int Tryz.underlying3 hR
    rw [e2] at h2
    cases h2
   ·cases hR
 ·rcases look W' hW' with ⟨_,_,hat⟩ | ⟨e0,y,hm0,hk0',hr,hR,hat,_⟩
  ·have h2:=hat .nil
   rw [← hx.1,(pts_key k).2 p hs] at h2
   cases h2
  ·have h2:=hat .nil
   rw [← hx.1,(pts_key k).2 p hs] at h2
   unfold Go.WideElems.elemAt at hR
   split at hR
   ·rename_i hfm
    obtain ⟨n,e1,e2,_⟩:=DataW.trod_int Tryz.underlying3 hR
    rw [e2] at h2
    simp only [DataW.lit.injEq,Lit.int.injEq,true_and] at h2
    subst h2
    have hval:e0.val = .int .i64 p:=int_formed e1 hfm
    rw [hval] at hr
    simpa using hr
   ·cases hR
end Go.Proofs.YtijkefflpojmhaaGreatDoor
