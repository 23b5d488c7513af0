/-
  Both Check of an expression, walked. No condition but the size. Keywords: the reference's Words and Keyword walked. No condition. Quoted names: the reference's name and Quote. No condition. Quoted names: the reference's name and Quote as one function each; the program's list of keywords. No condition. The program's halving over its list of keywords finds what the reference finds. No condition, no program. The program's Keyword: the library's BinarySearch by the shelf's contract. No condition. Quoted names: the program's name and Quote. No condition. Leap years and the lengths of months walked: the program's and the reference's. Condition: years up to 10000. The parts of a date walked: the program's and the reference's. No condition. The text of a date walked: the program's and the reference's. No condition. The text of a day: the program's day and the reference's, of a day from 0 to 99999. No condition. The signs of the operators. No condition. The reference's sum: is an expression a sum or a difference. No condition. The text of an expression, as the program writes it and as the reference does: one and the same. No condition, no program. The reference's part, of a text that Expr gives. No condition but the text's length. The collector of a text (printer.out): its block, its buffer; copyCheck, WriteString, Len and String of a Builder that lies at its head. No condition but lengths. (*out).put and (*out).text walked. No condition but lengths. The words of the kinds: the map that the program makes, its look-ups. No condition. (*out).expr walked: of an operator. No condition but lengths. (*out).expr walked: of an operator that binds too weakly: in parentheses (the second one is put by a deferred call). No condition but lengths.
-/
import Derived.Test.YtijkefflpojmhaaGreatDoorZag
import Derived.Test.YtijkefflpojmhaaGreatDoorZah
import Derived.Test.YtijkefflpojmhaaGreatDoorZai
import Derived.Test.YtijkefflpojmhaaGreatDoorZaj
import Derived.Test.YtijkefflpojmhaaGreatDoorZaa
import Derived.Test.YtijkefflpojmhaaGreatDoorZaf
import Derived.Shelf.Spec.SearchS
import Derived.Test.YtijkefflpojmhaaGreatDoorRows
import Derived.IntWalk
import Derived.Laws.Rows
import Derived.Test.YtijkefflpojmhaaGreatDoorZac
import Derived.Lib.FrozenHead2
import Derived.Lib.OthersKept
import Derived.Lib.UnsafeStr
import Derived.Lib.MakeNoZero
import Derived.Laws.Externs
import Derived.Maps.Own
import Derived.Defers
namespace Go.Proofs.YtijkefflpojmhaaGreatDoor
open Go.RowKit
theorem rsort_any:∀ n,RsC n:=by
 intro n
 induction n with
 | zero => intro x cs w h;exact h.elim
 | succ n ih =>
  intro x cs w h hz hsm
  obtain ⟨k,r,nm,d,l⟩:=x
  show Calls Tryz.prog 81 #[.agg cs.toArray] w (IntP w (srtP k r nm d (l.map Ex.srt)))
  by_cases h1:k=1
  ·subst h1;exact rsort_1 ih r nm d l cs w h hz hsm
  by_cases h2:k=2
  ·subst h2;exact rsort_2 ih r nm d l cs w h hz hsm
  by_cases h3:k=3
  ·subst h3;exact rsort_3 ih r nm d l cs w h hz hsm
  by_cases h4:k < 4
  ·exact rsort_lo ih k h4 h1 h2 h3 r nm d l cs w h hz hsm
  by_cases h8:k≤8
  ·exact rsort_r ih k (by omega) h8 r nm d l cs w h hz hsm
  by_cases h9:k=9
  ·subst h9;exact rsort_9 ih r nm d l cs w h hz hsm
  by_cases h11:k=11
  ·subst h11;exact rsort_11 ih r nm d l cs w h hz hsm
  by_cases h12:k=12
  ·subst h12;exact rsort_12 ih r nm d l cs w h hz hsm
  by_cases h13:k=13
  ·subst h13;exact rsort_13 ih r nm d l cs w h hz hsm
  by_cases h14:k=14
  ·subst h14;exact rsort_14 ih r nm d l cs w h hz hsm
  by_cases h15:k=15
  ·subst h15;exact rsort_15 ih r nm d l cs w h hz hsm
  exact rsort_hi ih k (by omega) r nm d l cs w h hz hsm
def chkX (x:Ex):Int:=if 500 < x.size ∨ 60 < x.depth then 4 else if x.srt=0 then 8 else 0
structure ExIn (n:Nat) (x:Ex) (cs:List Value) (w Wg:World):Prop where
 at_:ExAt n w cs x
 kok:KOk n x
 size:x.size≤1000
 small:SmX 80 x
 shp:ShpAt Wg
 old:Below Wg.heap.size Wg w
theorem ExIn.below {n:Nat} {x:Ex} {cs:List Value} {w w' Wg:World} (h:ExIn n x cs w Wg) (hb:Below w.heap.size w w'):ExIn n x cs w' Wg :=
 ⟨ExAt.below hb h.at_,h.kok,h.size,h.small,h.shp,h.old.trans (hb.mono h.old.size)⟩
set_option maxHeartbeats 2000000 in
set_option maxRecDepth 100000 in
theorem rchkx_any (n:Nat) (x:Ex) (cs:List Value) (w Wg:World) (h:ExIn n x cs w Wg):Calls Tryz.prog 80 #[.agg cs.toArray] w (IntP w (chkX x)):=by
 have hsh:=h.at_.shape
 obtain ⟨a,len,cap,rfl,_⟩:=hsh
 obtain ⟨W0,hW0⟩:∃ W0,W0=w.alloc (.cells #[.int .u8 x.kind,.string x.rat,.string x.name,.int .i64 x.date,.slice a len cap] 25):=⟨_,rfl⟩
 have hB0:Below w.heap.size w W0:=by rw [hW0];exact own_below w _
 have hbx:W0.heap[w.heap.size]? = some (.cells #[.int .u8 x.kind,.string x.rat,.string x.name,.int .i64 x.date,.slice a len cap] 25):=by rw [hW0];exact heap_alloc_new w _
 have h0:=h.below hB0
 have hdp:=SmX.depth h.small
 have HC:∀ W,Below W0.heap.size W0 W→_:=fun W hW => exCells ((hW.block _ (Array.getElem?_eq_some_iff.1 hbx).1).trans hbx)
 have HSZ:Hid (∀ W,Below W0.heap.size W0 W→Calls Tryz.prog 59 #[.agg #[.int .u8 x.kind,.string x.rat,.string x.name,.int .i64 x.date,.slice a len cap]] W (IntP W (x.size:Int))):=fun W hW => rsizex_any n x _ W (ExAt.below hW h0.at_) h.size
 have HDP:Hid (∀ W,Below W0.heap.size W0 W→Calls Tryz.prog 60 #[.agg #[.int .u8 x.kind,.string x.rat,.string x.name,.int .i64 x.date,.slice a len cap]] W (IntP W (x.depth:Int))):=fun W hW => rdepth_any n x _ W (ExAt.below hW h0.at_) h.size (by omega)
 have HST:Hid (∀ W,Below W0.heap.size W0 W→Calls Tryz.prog 81 #[.agg #[.int .u8 x.kind,.string x.rat,.string x.name,.int .i64 x.date,.slice a len cap]] W (IntP W x.srt)):=fun W hW => by
  have:=rsort_any n x _ W (ExAt.below hW h0.at_) h.size ⟨_,h.small⟩
  rwa [← Ex.srt_is] at this
 obtain ⟨R,hR⟩:∃ R,R=chkX x:=⟨_,rfl⟩
 rw [← hR]
 have HRR:=Lib.hid hR
 have HW0:=Lib.hid hW0
 have HB0:=Lib.hid hB0
 have HCC:=Lib.hid HC
 obtain ⟨c0,c1,c2,c3,c4⟩:=HC W0 (Below.refl _ _)
 obtain ⟨sz,hsz⟩:∃ q,q=x.size:=⟨_,rfl⟩
 obtain ⟨dp,hdpe⟩:∃ q,q=x.depth:=⟨_,rfl⟩
 obtain ⟨st,hst⟩:∃ q,q=x.srt:=⟨_,rfl⟩
 have hcx:R=if 500 < sz ∨ 60 < dp then 4 else if st=0 then 8 else 0:=by rw [hR,hsz,hdpe,hst];rfl
 have hszb:sz≤1000:=by rw [hsz];exact h.size
 rw [← hsz] at HSZ
 rw [← hdpe] at HDP hdp
 rw [← hst] at HST
 have HCX:=Lib.hid hcx
 clear hR hW0 hB0 HC h0 h hbx hsz hdpe hst hcx
 by_cases h5:500 < sz
 ·have e:R=4:=by rw [HCX.out,if_pos (.inl h5)]
  have E:=Lib.hid e
  clear e
  go_enter Tryz.func80,Tryz.ntmps80
  go_wp2_with fail
  rw [← HW0.out]
  refine (HSZ.out _ (Below.refl _ _)).mono ?_
  rintro e w1 ⟨rfl,hb⟩
  have HB:=Lib.hid (HB0.out.trans (hb.mono HB0.out.size))
  clear hb c0 c1 c2 c3 c4
  have d5:decide ((500:Int) < (sz:Int))=true:=by simp;omega
  go_wp2_with fail
  go_ret
  exact ⟨by rw [E.out];rfl,HB.out⟩
 ·by_cases h6:60 < dp
  ·have e:R=4:=by rw [HCX.out,if_pos (.inr h6)]
   have E:=Lib.hid e
   clear e
   go_enter Tryz.func80,Tryz.ntmps80
   go_wp2_with fail
   rw [← HW0.out]
   refine (HSZ.out _ (Below.refl _ _)).mono ?_
   rintro e w1 ⟨rfl,hb⟩
   have HB1:=Lib.hid hb
   clear hb c0 c1 c2 c3 c4
   obtain ⟨c0,c1,c2,c3,c4⟩:=HCC.out w1 HB1.out
   have d5:decide ((500:Int) < (sz:Int))=false:=by simp;omega
   go_wp2_with fail
   refine (HDP.out _ HB1.out).mono ?_
   rintro e w2 ⟨rfl,hb⟩
   have HB:=Lib.hid (HB0.out.trans ((HB1.out.trans (hb.mono HB1.out.size)).mono HB0.out.size))
   clear hb c0 c1 c2 c3 c4
   have d6:decide ((60:Int) < (dp:Int))=true:=by simp;omega
   go_wp2_with fail
   go_ret
   exact ⟨by rw [E.out];rfl,HB.out⟩
  ·have e:R=if st=0 then 8 else 0:=by rw [HCX.out,if_neg (by omega)]
   have E:=Lib.hid e
   clear e
   go_enter Tryz.func80,Tryz.ntmps80
   go_wp2_with fail
   rw [← HW0.out]
   refine (HSZ.out _ (Below.refl _ _)).mono ?_
   rintro e w1 ⟨rfl,hb⟩
   have HB1:=Lib.hid hb
   clear hb c0 c1 c2 c3 c4
   obtain ⟨c0,c1,c2,c3,c4⟩:=HCC.out w1 HB1.out
   have d5:decide ((500:Int) < (sz:Int))=false:=by simp;omega
   go_wp2_with fail
   refine (HDP.out _ HB1.out).mono ?_
   rintro e w2 ⟨rfl,hb⟩
   have HB2:=Lib.hid (HB1.out.trans (hb.mono HB1.out.size))
   clear hb c0 c1 c2 c3 c4
   obtain ⟨c0,c1,c2,c3,c4⟩:=HCC.out w2 HB2.out
   have d6:decide ((60:Int) < (dp:Int))=false:=by simp;omega
   go_wp2_with fail
   refine (HST.out _ HB2.out).mono ?_
   rintro e w3 ⟨rfl,hb⟩
   have HB:=Lib.hid (HB0.out.trans ((HB2.out.trans (hb.mono HB2.out.size)).mono HB0.out.size))
   clear hb c0 c1 c2 c3 c4
   by_cases h0:st=0
   ·have q:((st:Int) == 0)=true:=ieq_true h0
    have e:R=8:=by rw [E.out,if_pos h0]
    have E2:=Lib.hid e
    clear e h0
    go_wp2_with fail
    go_ret
    exact ⟨by rw [E2.out];rfl,HB.out⟩
   ·have q:((st:Int) == 0)=false:=ieq_false h0
    have e:R=0:=by rw [E.out,if_neg h0]
    have E2:=Lib.hid e
    clear e h0
    go_wp2_with fail
    go_ret
    exact ⟨by rw [E2.out];rfl,HB.out⟩
set_option maxHeartbeats 2000000 in
set_option maxRecDepth 100000 in
theorem pchkx_any (n:Nat) (x:Ex) (cs:List Value) (w Wg:World) (h:ExIn n x cs w Wg):Calls Tryz.prog 72 #[.agg cs.toArray] w (IntP w (chkX x)):=by
 have hsh:=h.at_.shape
 obtain ⟨a,len,cap,rfl,_⟩:=hsh
 obtain ⟨W0,hW0⟩:∃ W0,W0=w.alloc (.cells #[.int .u8 x.kind,.string x.rat,.string x.name,.int .i64 x.date,.slice a len cap] 25):=⟨_,rfl⟩
 have hB0:Below w.heap.size w W0:=by rw [hW0];exact own_below w _
 have hbx:W0.heap[w.heap.size]? = some (.cells #[.int .u8 x.kind,.string x.rat,.string x.name,.int .i64 x.date,.slice a len cap] 25):=by rw [hW0];exact heap_alloc_new w _
 have h0:=h.below hB0
 have hdp:=SmX.depth h.small
 have HC:∀ W,Below W0.heap.size W0 W→_:=fun W hW => exCells ((hW.block _ (Array.getElem?_eq_some_iff.1 hbx).1).trans hbx)
 have HSZ:Hid (∀ W,Below W0.heap.size W0 W→Calls Tryz.prog 42 #[.agg #[.int .u8 x.kind,.string x.rat,.string x.name,.int .i64 x.date,.slice a len cap]] W (IntP W (x.size:Int))):=fun W hW => psizex_any n x _ W (ExAt.below hW h0.at_) h.size
 obtain ⟨M,hM⟩:∃ M,M=min x.depth 61:=⟨_,rfl⟩
 have HDP:Hid (∀ W,Below W0.heap.size W0 W→Calls Tryz.prog 85 #[.agg #[.int .u8 x.kind,.string x.rat,.string x.name,.int .i64 x.date,.slice a len cap],.int .i64 60] W (IntP W (M:Int))):=fun W hW => by
  have q:=pdepth_any n x _ 60 W (ExAt.below hW h0.at_) h.size (by omega) (by omega)
  rw [hM];exact q
 have HST:Hid (∀ W,Below W0.heap.size W0 W→Calls Tryz.prog 73 #[.agg #[.int .u8 x.kind,.string x.rat,.string x.name,.int .i64 x.date,.slice a len cap]] W (U8P W x.srt)):=fun W hW => by
  have:=psort_any h.shp n x _ W (ExAt.below hW h0.at_) h.kok h.size ⟨_,h.small⟩ (h0.old.trans (hW.mono h0.old.size))
  rwa [← Ex.srt_is] at this
 obtain ⟨R,hR⟩:∃ R,R=chkX x:=⟨_,rfl⟩
 rw [← hR]
 have HRR:=Lib.hid hR
 have HW0:=Lib.hid hW0
 have HB0:=Lib.hid hB0
 have HCC:=Lib.hid HC
 obtain ⟨c0,c1,c2,c3,c4⟩:=HC W0 (Below.refl _ _)
 obtain ⟨sz,hsz⟩:∃ q,q=x.size:=⟨_,rfl⟩
 obtain ⟨dp,hdpe⟩:∃ q,q=x.depth:=⟨_,rfl⟩
 obtain ⟨st,hst⟩:∃ q,q=x.srt:=⟨_,rfl⟩
 have hcx:R=if 500 < sz ∨ 60 < dp then 4 else if st=0 then 8 else 0:=by rw [hR,hsz,hdpe,hst];rfl
 have hszb:sz≤1000:=by rw [hsz];exact h.size
 rw [← hsz] at HSZ
 rw [← hdpe] at hdp hM
 have HM:=Lib.hid hM
 have hM61:M≤61:=by omega
 rw [← hst] at HST
 have HCX:=Lib.hid hcx
 clear hM hR hW0 hB0 HC h0 h hbx hsz hdpe hst hcx
 by_cases h5:500 < sz
 ·have e:R=4:=by rw [HCX.out,if_pos (.inl h5)]
  have E:=Lib.hid e
  clear e
  go_enter Tryz.func72,Tryz.ntmps72
  go_wp2_with fail
  rw [← HW0.out]
  refine (HSZ.out _ (Below.refl _ _)).mono ?_
  rintro e w1 ⟨rfl,hb⟩
  have HB:=Lib.hid (HB0.out.trans (hb.mono HB0.out.size))
  clear hb c0 c1 c2 c3 c4
  have d5:decide ((500:Int) < (sz:Int))=true:=by simp;omega
  go_wp2_with fail
  go_ret
  exact ⟨by rw [E.out];rfl,HB.out⟩
 ·by_cases h6:60 < dp
  ·have e:R=4:=by rw [HCX.out,if_pos (.inr h6)]
   have E:=Lib.hid e
   clear e
   go_enter Tryz.func72,Tryz.ntmps72
   go_wp2_with fail
   rw [← HW0.out]
   refine (HSZ.out _ (Below.refl _ _)).mono ?_
   rintro e w1 ⟨rfl,hb⟩
   have HB1:=Lib.hid hb
   clear hb c0 c1 c2 c3 c4
   obtain ⟨c0,c1,c2,c3,c4⟩:=HCC.out w1 HB1.out
   have d5:decide ((500:Int) < (sz:Int))=false:=by simp;omega
   go_wp2_with fail
   refine (HDP.out _ HB1.out).mono ?_
   rintro e w2 ⟨rfl,hb⟩
   have HB:=Lib.hid (HB0.out.trans ((HB1.out.trans (hb.mono HB1.out.size)).mono HB0.out.size))
   clear hb c0 c1 c2 c3 c4
   have d6:decide ((60:Int) < (M:Int))=true:=by have:=HM.out;simp;omega
   go_wp2_with fail
   go_ret
   exact ⟨by rw [E.out];rfl,HB.out⟩
  ·have e:R=if st=0 then 8 else 0:=by rw [HCX.out,if_neg (by omega)]
   have E:=Lib.hid e
   clear e
   go_enter Tryz.func72,Tryz.ntmps72
   go_wp2_with fail
   rw [← HW0.out]
   refine (HSZ.out _ (Below.refl _ _)).mono ?_
   rintro e w1 ⟨rfl,hb⟩
   have HB1:=Lib.hid hb
   clear hb c0 c1 c2 c3 c4
   obtain ⟨c0,c1,c2,c3,c4⟩:=HCC.out w1 HB1.out
   have d5:decide ((500:Int) < (sz:Int))=false:=by simp;omega
   go_wp2_with fail
   refine (HDP.out _ HB1.out).mono ?_
   rintro e w2 ⟨rfl,hb⟩
   have HB2:=Lib.hid (HB1.out.trans (hb.mono HB1.out.size))
   clear hb c0 c1 c2 c3 c4
   obtain ⟨c0,c1,c2,c3,c4⟩:=HCC.out w2 HB2.out
   have d6:decide ((60:Int) < (M:Int))=false:=by have:=HM.out;simp;omega
   go_wp2_with fail
   refine (HST.out _ HB2.out).mono ?_
   rintro e w3 ⟨rfl,hb⟩
   have HB:=Lib.hid (HB0.out.trans ((HB2.out.trans (hb.mono HB2.out.size)).mono HB0.out.size))
   clear hb c0 c1 c2 c3 c4
   by_cases h0:st=0
   ·have q:((st:Int) == 0)=true:=ieq_true h0
    have e:R=8:=by rw [E.out,if_pos h0]
    have E2:=Lib.hid e
    clear e h0
    go_wp2_with fail
    go_ret
    exact ⟨by rw [E2.out];rfl,HB.out⟩
   ·have q:((st:Int) == 0)=false:=ieq_false h0
    have e:R=0:=by rw [E.out,if_neg h0]
    have E2:=Lib.hid e
    clear e h0
    go_wp2_with fail
    go_ret
    exact ⟨by rw [E2.out];rfl,HB.out⟩
end Go.Proofs.YtijkefflpojmhaaGreatDoor

namespace Go.Proofs.YtijkefflpojmhaaGreatDoor
open Go.RowKit
def kwL:List (List UInt8):=[[110,111,116,104,105,110,103],[112,97,121,115],[116,111],[98,111,116,104],[115,99,97,108,101],[105,102],[101,108,115,101],[111,110],[99,104,111,105,99,101],[98,121],[99,97,108,108],[117,110,116,105,108],[119,104,101,110],[109,97,120],[109,105,110],[110,111,119],[99,97,115,101],[108,101,115,115],[101,113,117,97,108],[97,110,100],[111,114],[110,111,116]]
def kwB (l:List UInt8):Bool:=decide (l ∈ kwL)
def kwS (k:Nat):ByteArray:=⟨(kwL[k]?.getD []).toArray⟩
def kwO:Array Value:=((List.range 22).map fun k => Value.string (kwS k)).toArray
set_option maxRecDepth 100000 in
theorem rwords_any (w:World):Calls Tryz.prog 82 #[] w fun e w' => e = .returned (.slice (some ⟨w.heap.size,0,none⟩) 22 22)∧w' = w.alloc (.cells kwO 9):=by
 go_enter Tryz.func82,Tryz.ntmps82
 go_wp2_with fail
 go_ret
 exact ⟨rfl,rfl⟩
theorem kwS_cell (w:World) (k:Nat) (hk:k < 22):(w.alloc (.cells kwO 9)).cell? ⟨w.heap.size,k,none⟩=some (.string (kwS k)):=by
 have h:(w.alloc (.cells kwO 9)).heap[w.heap.size]? = some (.cells kwO 9):=by show (w.heap.push _)[w.heap.size]? = _;simp
 rw [exCell h k]
 unfold kwO
 simp [hk]
theorem kw_at {s:ByteArray} {k:Nat} (hk:k < 22) (h:kwS k=s):kwB s.data.toList=true:=by
 subst h
 have:kwL[k]?.getD [] ∈ kwL:=by
  rw [List.getElem?_eq_getElem (show k < kwL.length from hk)]
  exact List.getElem_mem _
 exact decide_eq_true this
theorem kw_no {s:ByteArray} (h:∀ k,k < 22→kwS k ≠ s):kwB s.data.toList=false:=by
 refine decide_eq_false fun hm => ?_
 obtain ⟨k,hk,e⟩:=List.getElem_of_mem hm
 refine h k hk (Go.WideShapes.bytes_inj ?_)
 show kwL[k]?.getD []=_
 rw [List.getElem?_eq_getElem hk]
 exact e
set_option maxHeartbeats 1000000 in
theorem rkeyword_any (s:ByteArray) (w:World):Calls Tryz.prog 66 #[.string s] w (BelB w (kwB s.data.toList)):=by
 obtain ⟨b,hb⟩:∃ b,b=kwB s.data.toList:=⟨_,rfl⟩
 rw [← hb]
 have HBB:=Lib.hid hb
 have HW:=Lib.hid (fun W => rwords_any W)
 have HCELL:=Lib.hid (fun k hk => kwS_cell w k hk)
 have HB:=Lib.hid (own_below w (.cells kwO 9))
 clear hb
 go_enter Tryz.func66,Tryz.ntmps66
 go_wp2_with fail
 refine (HW.out _).mono ?_
 rintro e w' ⟨rfl,rfl⟩
 obtain ⟨W1,hW1⟩:∃ W1,W1=w.alloc (.cells kwO 9):=⟨_,rfl⟩
 rw [← hW1] at HCELL HB ⊢
 clear hW1
 go_wp2_with fail
 go_loop [4] (fun v => ∃ k:Nat,k≤22∧v = .int .i64 (k:Int)∧Hid (∀ j,j < k→kwS j ≠ s)) (fun v => 22 - (intOf v).toNat)
 case atStart => exact ⟨0,Nat.zero_le _,rfl,Lib.hid (fun j h => absurd h (Nat.not_lt_zero _))⟩
 case round =>
  obtain ⟨k,hk,rfl,HK⟩:=hrel
  by_cases hlt:k < 22
  ·have hc:=HCELL.out k hlt
   obtain ⟨K,hKK⟩:∃ K,K=kwS k:=⟨_,rfl⟩
   rw [← hKK] at hc
   by_cases he:K=s
   ·have e1:(K.toList == s.toList)=true:=by rw [he];exact beq_self_eq_true _
    have HT:Hid (b=true):=HBB.out.trans (kw_at hlt (by rw [← hKK];exact he))
    have HEq:=Lib.hid he
    clear he hKK
    go_wp2_with fail
    go_ret
    exact ⟨ret_bool HT.out.symm,HB.out⟩
   ·have e1:(K.toList == s.toList)=false:=by
     rw [beq_eq_false_iff_ne,ByteArray.toList_eq,ByteArray.toList_eq]
     exact fun e => he (Go.WideShapes.bytes_inj e)
    have HX:Hid (∀ j,j < k+1→kwS j ≠ s):=fun j hj => by
     by_cases e:j=k
     ·subst e;rw [← hKK];exact he
     ·exact HK.out j (by omega)
    clear he hKK
    go_wp2_with fail
    go_round
    case rel => exact ⟨k+1,hlt,by go_num,HX⟩
    case measure => simp [intOf] <;> omega
  ·obtain rfl:k=22:=by omega
   have HF:Hid (b=false):=HBB.out.trans (kw_no HK.out)
   go_wp2_with fail
   go_ret
   exact ⟨ret_bool HF.out.symm,HB.out⟩
end Go.Proofs.YtijkefflpojmhaaGreatDoor

namespace Go.Proofs.YtijkefflpojmhaaGreatDoor
open Go.RowKit
theorem kw_short {s:ByteArray} (h:kwB s.data.toList=true):s.size≤40:=by
 have h1:s.data.toList ∈ kwL:=of_decide_eq_true h
 have h2:∀ l ∈ kwL,l.length≤40:=by decide
 have:=h2 _ h1
 simpa using this
set_option maxHeartbeats 1000000 in
theorem rqname_kw (s:ByteArray) (w:World) (hk:kwB s.data.toList=true):Calls Tryz.prog 35 #[.string s] w (fun e w' => e = .returned (.string (ByteArray.mk #[34] ++ s ++ ByteArray.mk #[34]))∧Below w.heap.size w w'):=by
 have HK:=Lib.hid (rkeyword_any s)
 have hz:=kw_short hk
 rw [hk] at HK
 clear hk
 go_enter Tryz.func35,Tryz.ntmps35
 go_wp2_with fail
 refine (HK.out _).mono ?_
 rintro e w' ⟨rfl,hb⟩
 have HBL:=Lib.hid hb
 clear hb
 go_wp2_with fail
 go_ret
 exact ⟨rfl,HBL.out⟩
set_option maxHeartbeats 1000000 in
theorem rqname_no (s:ByteArray) (w:World) (hk:kwB s.data.toList=false):Calls Tryz.prog 35 #[.string s] w (fun e w' => e = .returned (.string s)∧Below w.heap.size w w'):=by
 have HK:=Lib.hid (rkeyword_any s)
 rw [hk] at HK
 clear hk
 go_enter Tryz.func35,Tryz.ntmps35
 go_wp2_with fail
 refine (HK.out _).mono ?_
 rintro e w' ⟨rfl,hb⟩
 have HBL:=Lib.hid hb
 clear hb
 go_wp2_with fail
 go_ret
 exact ⟨rfl,HBL.out⟩
end Go.Proofs.YtijkefflpojmhaaGreatDoor

namespace Go.Proofs.YtijkefflpojmhaaGreatDoor
open Go.RowKit
def qn (s:ByteArray):ByteArray:=if kwB s.data.toList=true then ByteArray.mk #[34] ++ s ++ ByteArray.mk #[34] else s
theorem rqname_any (s:ByteArray) (w:World):Calls Tryz.prog 35 #[.string s] w (fun e w' => e = .returned (.string (qn s))∧Below w.heap.size w w'):=by
 unfold qn
 by_cases h:kwB s.data.toList=true
 ·rw [if_pos h];exact rqname_kw s w h
 ·rw [if_neg h];exact rqname_no s w (by simpa using h)
def kqL:List (List UInt8):=[[97,110,100],[98,111,116,104],[98,121],[99,97,108,108],[99,97,115,101],[99,104,111,105,99,101],[101,108,115,101],[101,113,117,97,108],[105,102],[108,101,115,115],[109,97,120],[109,105,110],[110,111,116],[110,111,116,104,105,110,103],[110,111,119],[111,110],[111,114],[112,97,121,115],[115,99,97,108,101],[116,111],[117,110,116,105,108],[119,104,101,110]]
def kqS (k:Nat):ByteArray:=⟨(kqL[k]?.getD []).toArray⟩
def kqO:Array Value:=((List.range 22).map fun k => Value.string (kqS k)).toArray
set_option maxRecDepth 100000 in
theorem pwords_any (w:World):Calls Tryz.prog 78 #[] w fun e w' => e = .returned (.slice (some ⟨w.heap.size,0,none⟩) 22 22)∧w' = w.alloc (.cells kqO 9):=by
 go_enter Tryz.func78,Tryz.ntmps78
 go_wp2_with fail
 go_ret
 exact ⟨rfl,rfl⟩
theorem kqS_cell (w:World) (k:Nat) (hk:k < 22):(w.alloc (.cells kqO 9)).cell? ⟨w.heap.size,k,none⟩=some (.string (kqS k)):=by
 have h:(w.alloc (.cells kqO 9)).heap[w.heap.size]? = some (.cells kqO 9):=by show (w.heap.push _)[w.heap.size]? = _;simp
 rw [exCell h k]
 unfold kqO
 simp [hk]
theorem kq_kw (l:List UInt8):kwB l=decide (l ∈ kqL):=by
 have h1:∀ x ∈ kwL,x ∈ kqL:=by decide
 have h2:∀ x ∈ kqL,x ∈ kwL:=by decide
 unfold kwB
 exact decide_eq_decide.2 ⟨h1 l,h2 l⟩
end Go.Proofs.YtijkefflpojmhaaGreatDoor

namespace Go.Proofs.YtijkefflpojmhaaGreatDoor
open Go.RowKit
theorem kq_less:∀ t,t < 22 → ∀ j,j < 22→Op.bytesLess (kqL[t]?.getD []) (kqL[j]?.getD [])=decide (t < j):=by decide +kernel
theorem halve {less:Nat→Bool} {n k:Nat} (h1:∀ t,t < k→less t=true) (h2:∀ t,k≤t→t < n→less t=false):∀ f lo hi:Nat,hi - lo≤f→lo≤k→k≤hi→hi≤n→Lib.bsGo less f lo hi=k:=by
 intro f
 induction f with
 | zero => intro lo hi a b c d;show lo=k;omega
 | succ f ih =>
  intro lo hi a b c d
  rw [Lib.bsGo]
  split
  ·cases hm:less ((lo+hi) / 2) with
   | true =>
    have:(lo+hi) / 2 < k:=Nat.lt_of_not_le fun h => by
     rw [h2 _ h (by omega)] at hm;exact Bool.noConfusion hm
    rw [if_pos rfl]
    exact ih _ _ (by omega) (by omega) c d
   | false =>
    have:k≤(lo+hi) / 2:=Nat.le_of_not_lt fun h => by
     rw [h1 _ h] at hm;exact Bool.noConfusion hm
    rw [if_neg Bool.false_ne_true]
    exact ih _ _ (by omega) b this (by omega)
  ·omega
theorem kq_found (s:ByteArray):decide (Lib.bsGo (fun t => Op.bytesLess (kqS t).toList s.toList) 22 0 22 < 22∧kqS (Lib.bsGo (fun t => Op.bytesLess (kqS t).toList s.toList) 22 0 22)=s)=kwB s.data.toList:=by
 rw [kq_kw]
 refine decide_eq_decide.2 ⟨fun h => ?_,fun h => ?_⟩
 ·obtain ⟨h1,h2⟩:=h
  revert h1 h2
  generalize Lib.bsGo (fun t => Op.bytesLess (kqS t).toList s.toList) 22 0 22=I
  intro h1 h2
  rw [← h2]
  show kqL[I]?.getD [] ∈ kqL
  rw [List.getElem?_eq_getElem (show I < kqL.length from h1)]
  exact List.getElem_mem _
 ·obtain ⟨j,hj,e⟩:=List.getElem_of_mem h
  have hj':j < 22:=hj
  have hs:kqS j=s:=by
   apply Go.WideShapes.bytes_inj
   show kqL[j]?.getD []=_
   rw [List.getElem?_eq_getElem hj]
   exact e
  have hl:∀ t,t < 22→Op.bytesLess (kqS t).toList s.toList=decide (t < j):=fun t ht => by
   rw [← hs,ByteArray.toList_eq,ByteArray.toList_eq]
   exact kq_less t ht j hj'
  have hk:Lib.bsGo (fun t => Op.bytesLess (kqS t).toList s.toList) 22 0 22=j :=
   halve (n:=22) (fun t ht => (hl t (by omega)).trans (decide_eq_true ht)) (fun t a b => (hl t b).trans (decide_eq_false (by omega))) 22 0 22 (by omega) (by omega) (by omega) (by omega)
  rw [hk]
  exact ⟨hj',hs⟩
end Go.Proofs.YtijkefflpojmhaaGreatDoor

namespace Go.Proofs
open Go.Shelf
def Tryz.laysQ26_ren:Go.Shelf.Ren:=⟨fun | 26 => 77 | 33 => 90 | 34 => 91 | 38 => 102 | n => n,fun | 0 => 0 | 3 => 3 | 4 => 4 | 9 => 9 | 24 => 79 | 40 => 116 | n => n,fun | n => n⟩
theorem Tryz.laysQ26:Go.Proofs.Lays2.n26 Tryz.prog Tryz.laysQ26_ren := {
 mixed:=by kernel_rfl
 f26:=Tryz.func77.trans (congrArg some (by kernel_rfl))
 f33:=Tryz.func90.trans (congrArg some (by kernel_rfl))
 f34:=Tryz.func91.trans (congrArg some (by kernel_rfl))
 f38:=Tryz.func102.trans (congrArg some (by kernel_rfl))
 t0:=Tryz.underlying0
 a0:=Tryz.isAgg0
 z0:=Tryz.sizeOf0
 v0:=Tryz.zeroValue0
 t3:=Tryz.underlying3
 a3:=Tryz.isAgg3
 z3:=Tryz.sizeOf3
 v3:=Tryz.zeroValue3
 t4:=Tryz.underlying4
 a4:=Tryz.isAgg4
 z4:=Tryz.sizeOf4
 v4:=Tryz.zeroValue4
 t9:=Tryz.underlying9
 a9:=Tryz.isAgg9
 z9:=Tryz.sizeOf9
 v9:=Tryz.zeroValue9
 t24:=Tryz.underlying79
 a24:=Tryz.isAgg79
 z24:=Tryz.sizeOf79
 v24:=Tryz.zeroValue79
 t40:=Tryz.underlying116
 a40:=Tryz.isAgg116
 z40:=Tryz.sizeOf116
 v40:=Tryz.zeroValue116 }
end Go.Proofs
namespace Go.Proofs.YtijkefflpojmhaaGreatDoor
open Go.RowKit
set_option maxHeartbeats 1000000 in
theorem pkeyword_any (s:ByteArray) (w:World):Calls Tryz.prog 55 #[.string s] w (BelB w (kwB s.data.toList)):=by
 have HW:=Lib.hid (fun W => pwords_any W)
 have HB:=Lib.hid (own_below w (.cells kqO 9))
 have HS:Hid (Calls Tryz.prog 77 #[.slice (some ⟨w.heap.size,0,none⟩) 22 22,.string s] (w.alloc (.cells kqO 9)) fun e w' => ∃ I:Int,e = .returned (.tuple #[.int .i64 I,.bool (kwB s.data.toList)]) ∧ ∃ q,w' = (w.alloc (.cells kqO 9)).drewN q):=by
  refine Lib.hid (Calls.mono (Any2.slices_BinarySearch_string Tryz.laysQ26 w.heap.size 0 22 22 kqS s _ (by decide) (fun j hj => by rw [Nat.zero_add];exact kqS_cell w j hj)) ?_)
  rintro e w' ⟨h1,h2⟩
  exact ⟨_,by rw [h1,kq_found],h2⟩
 obtain ⟨b,hb⟩:∃ b,b=kwB s.data.toList:=⟨_,rfl⟩
 rw [← hb] at HS ⊢
 clear hb
 go_enter Tryz.func55,Tryz.ntmps55
 go_wp2_with fail
 refine (HW.out _).mono ?_
 rintro e w' ⟨rfl,rfl⟩
 obtain ⟨W1,hW1⟩:∃ W1,W1=w.alloc (.cells kqO 9):=⟨_,rfl⟩
 rw [← hW1] at HS HB ⊢
 clear hW1
 go_wp2_with fail
 refine HS.out.mono ?_
 rintro e w' ⟨I,rfl,q,rfl⟩
 have HD:=Lib.hid (below_drewN HB.out q)
 go_wp2_with fail
 go_ret
 exact ⟨rfl,HD.out⟩
end Go.Proofs.YtijkefflpojmhaaGreatDoor

namespace Go.Proofs.YtijkefflpojmhaaGreatDoor
open Go.RowKit
set_option maxHeartbeats 1000000 in
theorem pqname_kw (s:ByteArray) (w:World) (hk:kwB s.data.toList=true):Calls Tryz.prog 27 #[.string s] w (fun e w' => e = .returned (.string (ByteArray.mk #[34] ++ s ++ ByteArray.mk #[34]))∧Below w.heap.size w w'):=by
 have HK:=Lib.hid (pkeyword_any s)
 have hz:=kw_short hk
 rw [hk] at HK
 clear hk
 go_enter Tryz.func27,Tryz.ntmps27
 go_wp2_with fail
 refine (HK.out _).mono ?_
 rintro e w' ⟨rfl,hb⟩
 have HBL:=Lib.hid hb
 clear hb
 go_wp2_with fail
 go_ret
 exact ⟨rfl,HBL.out⟩
set_option maxHeartbeats 1000000 in
theorem pqname_no (s:ByteArray) (w:World) (hk:kwB s.data.toList=false):Calls Tryz.prog 27 #[.string s] w (fun e w' => e = .returned (.string s)∧Below w.heap.size w w'):=by
 have HK:=Lib.hid (pkeyword_any s)
 rw [hk] at HK
 clear hk
 go_enter Tryz.func27,Tryz.ntmps27
 go_wp2_with fail
 refine (HK.out _).mono ?_
 rintro e w' ⟨rfl,hb⟩
 have HBL:=Lib.hid hb
 clear hb
 go_wp2_with fail
 go_ret
 exact ⟨rfl,HBL.out⟩
theorem pqname_any (s:ByteArray) (w:World):Calls Tryz.prog 27 #[.string s] w (fun e w' => e = .returned (.string (qn s))∧Below w.heap.size w w'):=by
 unfold qn
 by_cases h:kwB s.data.toList=true
 ·rw [if_pos h];exact pqname_kw s w h
 ·rw [if_neg h];exact pqname_no s w (by simpa using h)
end Go.Proofs.YtijkefflpojmhaaGreatDoor

namespace Go.Proofs.YtijkefflpojmhaaGreatDoor
open Go.RowKit
set_option maxHeartbeats 1000000 in
set_option maxRecDepth 100000 in
theorem leap_any (y:Nat) (w:World) (hy:y≤10000):Calls Tryz.prog 101 #[.int .i64 (y:Int)] w (RetB w (leapB y)):=by
 have hb:leapB y=(((y:Int) % 4 == 0) && (((y:Int) % 100 != 0) || ((y:Int) % 400 == 0))):=by
  unfold leapB
  rw [Bool.eq_iff_iff]
  simp
  omega
 rw [hb]
 obtain ⟨b1,h1⟩:∃ b,((y:Int) % 4 == 0)=b:=⟨_,rfl⟩
 obtain ⟨b2,h2⟩:∃ b,((y:Int) % 100 != 0)=b:=⟨_,rfl⟩
 obtain ⟨b3,h3⟩:∃ b,((y:Int) % 400 == 0)=b:=⟨_,rfl⟩
 rw [h1,h2,h3]
 clear hb
 cases b1 <;> cases b2 <;> cases b3
 all_goals
  go_enter Tryz.func101,Tryz.ntmps101
  go_wp2
  go_ret
  exact ⟨rfl,rfl⟩
set_option maxHeartbeats 1000000 in
set_option maxRecDepth 100000 in
theorem rleap_any (y:Nat) (w:World) (hy:y≤10000):Calls Tryz.prog 112 #[.int .i64 (y:Int)] w (RetB w (leapB y)):=by
 have hb:leapB y=(((y:Int) % 400 == 0) || (!((y:Int) % 100 == 0) && ((y:Int) % 4 == 0))):=by
  unfold leapB
  rw [Bool.eq_iff_iff]
  simp
  omega
 rw [hb]
 obtain ⟨b1,h1⟩:∃ b,((y:Int) % 4 == 0)=b:=⟨_,rfl⟩
 obtain ⟨b2,h2⟩:∃ b,((y:Int) % 100 == 0)=b:=⟨_,rfl⟩
 obtain ⟨b3,h3⟩:∃ b,((y:Int) % 400 == 0)=b:=⟨_,rfl⟩
 rw [h1,h2,h3]
 clear hb
 cases b1 <;> cases b2 <;> cases b3
 all_goals
  go_enter Tryz.func112,Tryz.ntmps112
  go_wp2
  go_ret
  exact ⟨rfl,rfl⟩
theorem longN_2 (y:Nat):longN y 2=if leapB y=true then 29 else 28:=rfl
set_option maxHeartbeats 1000000 in
set_option maxRecDepth 100000 in
theorem long_any' (y m:Nat) (w:World) (hy:y≤10000) (h1:1≤m) (h2:m≤12):Calls Tryz.prog 97 #[.int .i64 (y:Int),.int .i64 (m:Int)] w (RetI w (longN y m:Int)):=by
 have hm:m=1 ∨ m=2 ∨ m=3 ∨ m=4 ∨ m=5 ∨ m=6 ∨ m=7 ∨ m=8 ∨ m=9 ∨ m=10 ∨ m=11 ∨ m=12:=by omega
 rcases hm with rfl | rfl | rfl | rfl | rfl | rfl | rfl | rfl | rfl | rfl | rfl | rfl
 case inr.inl =>
  have HL:=Lib.hid (fun W => rleap_any y W hy)
  rw [longN_2]
  obtain ⟨b,hb⟩:∃ b,b=leapB y:=⟨_,rfl⟩
  rw [← hb] at HL ⊢
  clear hb
  cases b
  ·go_enter Tryz.func97,Tryz.ntmps97
   go_wp2_with fail
   refine (HL.out _).mono ?_
   rintro e w' ⟨rfl,rfl⟩
   go_wp2
   go_ret
   exact ⟨rfl,rfl⟩
  ·go_enter Tryz.func97,Tryz.ntmps97
   go_wp2_with fail
   refine (HL.out _).mono ?_
   rintro e w' ⟨rfl,rfl⟩
   go_wp2
   go_ret
   exact ⟨rfl,rfl⟩
 all_goals
  go_enter Tryz.func97,Tryz.ntmps97
  go_wp2
  go_ret
  exact ⟨rfl,rfl⟩
set_option maxHeartbeats 1000000 in
set_option maxRecDepth 100000 in
theorem leaps_any (y:Nat) (w:World) (hy:y≤10000):Calls Tryz.prog 100 #[.int .i64 (y:Int)] w (RetI w (leapsN y:Int)):=by
 obtain ⟨a,ha⟩:∃ a,a=y / 4:=⟨_,rfl⟩
 obtain ⟨b,hb⟩:∃ b,b=y / 100:=⟨_,rfl⟩
 obtain ⟨c,hc⟩:∃ c,c=y / 400:=⟨_,rfl⟩
 have ha':(y:Int) / 4=(a:Int):=by omega
 have hb':(y:Int) / 100=(b:Int):=by omega
 have hc':(y:Int) / 400=(c:Int):=by omega
 have hl:(leapsN y:Int)=(a:Int) - (b:Int)+(c:Int):=by unfold leapsN;omega
 have l1:b≤a:=by omega
 have l2:a≤10000:=by omega
 have l3:c≤10000:=by omega
 rw [hl]
 clear hl ha hb hc
 go_enter Tryz.func100,Tryz.ntmps100
 go_wp2
 go_ret
 exact ⟨rfl,rfl⟩
set_option maxHeartbeats 1000000 in
set_option maxRecDepth 100000 in
theorem first_any' (y:Nat) (w:World) (h1:1900≤y) (hy:y≤10000):Calls Tryz.prog 88 #[.int .i64 (y:Int)] w (RetI w (yd y:Int)):=by
 obtain ⟨k,rfl⟩:∃ k,y=k+1:=⟨y - 1,by omega⟩
 have hl:=leaps_ge (y:=k) (by omega)
 have H1:=Lib.hid (fun W => leaps_any k W (by omega))
 have H2:=Lib.hid (fun W => leaps_any 1899 W (by omega))
 have e2:(leapsN 1899:Int)=460:=by decide
 have hu:leapsN k≤10000:=by unfold leapsN;omega
 obtain ⟨L,hL⟩:∃ L,L=leapsN k:=⟨_,rfl⟩
 have hy':(yd (k+1):Int)=365*((k:Int)+1 - 1900)+(L:Int) - 460:=by unfold yd;rw [Nat.add_sub_cancel,← hL];omega
 rw [hy']
 rw [← hL] at H1 hl hu
 rw [e2] at H2
 have ek:((k+1:Nat):Int)=(k:Int)+1:=by omega
 rw [ek]
 clear hy' hL e2 ek
 go_enter Tryz.func88,Tryz.ntmps88
 go_wp2_with fail
 refine (H1.out _).mono ?_
 rintro e w' ⟨rfl,rfl⟩
 go_wp2_with fail
 refine (H2.out _).mono ?_
 rintro e w' ⟨rfl,rfl⟩
 go_wp2
 go_ret
 exact ⟨rfl,rfl⟩
end Go.Proofs.YtijkefflpojmhaaGreatDoor

namespace Go.Proofs.YtijkefflpojmhaaGreatDoor
open Go.RowKit
def inB (n a b:Int):Bool:=decide (a≤n) && decide (n≤b)
def PartsPost (w:World) (y m d e0:Int) (e:Ending) (w':World):Prop:=e = .returned (.tuple #[.int .i64 y,.int .i64 m,.int .i64 d,.int .i64 e0])∧Below w.heap.size w w'
def lensV (y:Nat):Array Value := #[.int .i64 0,.int .i64 31,.int .i64 (longN y 2:Int),.int .i64 31,.int .i64 30,.int .i64 31,.int .i64 30,.int .i64 31,.int .i64 31,.int .i64 30,.int .i64 31,.int .i64 30,.int .i64 31]
theorem lensV_get (y m:Nat) (h1:1≤m) (h2:m≤12):(lensV y)[m]? = some (.int .i64 (longN y m:Int)):=by
 have hm:m=1 ∨ m=2 ∨ m=3 ∨ m=4 ∨ m=5 ∨ m=6 ∨ m=7 ∨ m=8 ∨ m=9 ∨ m=10 ∨ m=11 ∨ m=12:=by omega
 rcases hm with rfl | rfl | rfl | rfl | rfl | rfl | rfl | rfl | rfl | rfl | rfl | rfl <;> rfl
set_option maxHeartbeats 1000000 in
set_option maxRecDepth 100000 in
theorem lengths_any (y:Nat) (w:World) (hy:y≤10000):Calls Tryz.prog 89 #[.int .i64 (y:Int)] w fun e w' => e = .returned (.agg (lensV y))∧Below w.heap.size w w':=by
 have HL:=Lib.hid (fun W => leap_any y W hy)
 unfold lensV
 rw [longN_2]
 obtain ⟨b,hb⟩:∃ b,b=leapB y:=⟨_,rfl⟩
 rw [← hb] at HL ⊢
 clear hb
 cases b
 ·go_enter Tryz.func89,Tryz.ntmps89
  go_wp2_with fail
  refine (HL.out _).mono ?_
  rintro e w' ⟨rfl,rfl⟩
  go_wp2
  refine bodyPost_ret (results_cell_row rfl _ _ w.heap.size 114 _ (0,0) _ rfl (heap_two _ _ _) Tryz.underlying114 rfl rfl) rfl ?_
  exact ⟨rfl,(own_below _ _).trans ((own_below _ _).mono (by simp))⟩
 ·go_enter Tryz.func89,Tryz.ntmps89
  go_wp2_with fail
  refine (HL.out _).mono ?_
  rintro e w' ⟨rfl,rfl⟩
  go_wp2
  refine bodyPost_ret (results_cell_row rfl _ _ w.heap.size 114 _ (0,0) _ rfl (heap_two _ _ _) Tryz.underlying114 rfl rfl) rfl ?_
  exact ⟨rfl,(own_below _ _).trans ((own_below _ _).mono (by simp))⟩
theorem first_is (y:Nat) (h1:1900≤y) (hy:y≤9999):Hid (∀ W,Calls Tryz.prog 88 #[.int .i64 ((y:Int)+1)] W (RetI W (yd (y+1):Int))):=fun W => by
 have:=first_any' (y+1) W (by omega) (by omega)
 rwa [show ((y+1:Nat):Int)=(y:Int)+1 by omega] at this
def YrR (day:Nat) (v:Value):Prop := ∃ y:Nat,v = .int .i64 (y:Int)∧1900≤y∧yd y≤day
def MoR (day y:Nat) (mv dv:Value):Prop := ∃ m d:Nat,mv = .int .i64 (m:Int)∧dv = .int .i64 (d:Int)∧MonAt day y m d
set_option maxHeartbeats 2000000 in
set_option maxRecDepth 100000 in
theorem parts_ok (day Y M D:Nat) (w:World) (hd:day≤99999) (h:DateIs day Y M D):Calls Tryz.prog 75 #[.int .i64 (day:Int)] w (PartsPost w Y M D 0):=by
 have HU:=Lib.hid h
 obtain ⟨k,hk⟩:∃ k,k=day / 366:=⟨_,rfl⟩
 have hkI:(day:Int) / 366=(k:Int):=by omega
 have hst:YrR day (.int .i64 (1900+(k:Int))):=⟨1900+k,by congr 1,by omega,by rw [hk];exact prog_year_start day⟩
 have HST:=Lib.hid hst
 have hk2:k≤1000:=by omega
 clear h hk hst
 go_enter Tryz.func75,Tryz.ntmps75
 go_wp2_with fail
 go_loop [2] (YrR day) (fun v => 3000 - (intOf v).toNat)
 case atStart => exact HST.out
 case round =>
  obtain ⟨y,rfl,hy,hyd⟩:=hrel
  have hy2:y≤2174:=by have:=yd_ge hy;omega
  have HF:=first_is y hy (by omega)
  obtain ⟨Y1,hY1⟩:∃ Y1,Y1=yd (y+1):=⟨_,rfl⟩
  rw [← hY1] at HF
  by_cases hlt:Y1≤day
  ·have HN:Hid (YrR day (.int .i64 ((y:Int)+1))):=⟨y+1,by congr 1,by omega,by rw [← hY1];exact hlt⟩
   clear hY1 hyd HST
   go_wp2_with fail
   refine (HF.out _).mono ?_
   rintro e w' ⟨rfl,rfl⟩
   go_wp2_with fail
   go_round
   case rel => exact HN.out
   case measure => simp [intOf];omega
  ·have hm0:=mon_start hy hyd (by rw [← hY1];omega)
   have HF2:=Lib.hid (fun W => first_any' y W hy (by omega))
   have hL:=fun W => lengths_any y W (by omega)
   unfold lensV at hL
   have HL:=Lib.hid hL
   clear hL
   obtain ⟨Y0,hY0⟩:∃ Y0,Y0=yd y:=⟨_,rfl⟩
   rw [← hY0] at HF2 hm0 hyd
   have hM0:Hid (MoR day y (.int .i64 1) (.int .i64 ((day:Int) - (Y0:Int)+1))):=⟨1,day - Y0+1,rfl,by congr 1;omega,hm0⟩
   have hc:∀ W:World,∀ m:Nat,1≤m→m≤12→(W.alloc (.cells (lensV y) 114)).cell? ⟨W.heap.size,m,none⟩=some (.int .i64 (longN y m:Int)):=fun W m a1 a2 => by
    rw [RowAt.cell (rowAt_alloc (t:=114) (c:=lensV y) rfl rfl) (by show m < 13;omega)]
    simpa using lensV_get y m a1 a2
   have HC:=Lib.hid hc
   clear hY1 hY0 hm0 HST hc
   go_wp2_with fail
   refine (HF.out _).mono ?_
   rintro e w' ⟨rfl,rfl⟩
   go_wp2_with fail
   refine (HF2.out _).mono ?_
   rintro e w' ⟨rfl,rfl⟩
   go_wp2_with fail
   refine (HL.out _).mono ?_
   rintro e w2 ⟨rfl,b2⟩
   have B2:=Lib.hid b2
   clear b2
   go_wp2_with fail
   go_loop [3,4] (MoR day y) (fun _ v => (intOf v).toNat)
   case atStart => exact hM0.out
   case round =>
    obtain ⟨m,d,rfl,rfl,hm⟩:=hrel
    obtain ⟨n,hn⟩:∃ n,n=longN y m:=⟨_,rfl⟩
    have hc:=HC.out w2 m hm.2.1 hm.2.2.1
    unfold lensV at hc
    rw [← hn] at hc
    have hm12:=hm.2.2.1
    by_cases hlt:n < d
    ·obtain ⟨hs,hlt12⟩:=mon_step hm (by rw [← hn];exact hlt)
     rw [← hn] at hs
     have hn28:28≤n:=by rw [hn];exact longN_ge _ _
     have hd99:d≤100000:=by have:=hm.2.2.2.2.1;omega
     have HS:Hid (MoR day y (.int .i64 ((m:Int)+1)) (.int .i64 ((d:Int) - (n:Int)))):=⟨m+1,d - n,by congr 1,by congr 1;omega,hs⟩
     clear hn hm hs HC hM0
     go_wp2_with fail
     go_round
     case rel => exact HS.out
     case measure => simp [intOf];omega
    ·obtain ⟨e1,e2,e3⟩:=HU.out.unique (mon_end hm (by rw [← hn];omega))
     have E1:=Lib.hid e1
     have E2:=Lib.hid e2
     have E3:=Lib.hid e3
     clear hn hm HC hM0 e1 e2 e3
     go_wp2_with fail
     refine bodyPost_ret (results_tmp4 rfl _ _ _) rfl ?_
     refine ⟨?_,(B2.out.alloc (Nat.le_trans (by simp) B2.out.size) _)⟩
     rw [E1.out,E2.out,E3.out]
     rfl
set_option maxRecDepth 100000 in
theorem in3_any (n a b:Int) (w:World):Calls Tryz.prog 111 #[.int .i64 n,.int .i64 a,.int .i64 b] w (RetB w (inB n a b)):=by
 unfold inB
 cases h1:decide (a≤n) <;> cases h2:decide (n≤b)
 all_goals
  go_enter Tryz.func111,Tryz.ntmps111
  go_wp2
  go_ret
  exact ⟨rfl,rfl⟩
set_option maxRecDepth 100000 in
theorem rday_any (n:Int) (w:World):Calls Tryz.prog 96 #[.int .i64 n] w (RetB w (inB n 0 99999)):=by
 have H:=Lib.hid (fun W => in3_any n 0 99999 W)
 go_enter Tryz.func96,Tryz.ntmps96
 go_wp2_with fail
 refine (H.out _).mono ?_
 rintro e w' ⟨rfl,rfl⟩
 go_wp2
 go_ret
 exact ⟨rfl,rfl⟩
theorem rday_is {n:Int} {b:Bool} (h:inB n 0 99999=b):Hid (∀ W,Calls Tryz.prog 96 #[.int .i64 n] W (RetB W b)):=fun W => h ▸ rday_any n W
def RpR (day:Nat) (rv yv mv:Value):Prop := ∃ y m r:Nat,yv = .int .i64 (y:Int)∧mv = .int .i64 (m:Int)∧rv = .int .i64 (r:Int)∧RefAt day y m r
theorem longR_is (y m n:Nat) (hy:y≤10000) (h1:1≤m) (h2:m≤12) (hn:n=longN y m):Hid (∀ W,Calls Tryz.prog 97 #[.int .i64 (y:Int),.int .i64 (m:Int)] W (RetI W (n:Int))):=fun W => hn ▸ long_any' y m W hy h1 h2
set_option maxHeartbeats 2000000 in
set_option maxRecDepth 100000 in
theorem rparts_ok (day Y M D:Nat) (w:World) (hd:day≤99999) (h:DateIs day Y M D):Calls Tryz.prog 83 #[.int .i64 (day:Int)] w (PartsPost w Y M D 0):=by
 have HU:=Lib.hid h
 have HD:=rday_is (n:=(day:Int)) (b:=true) (by unfold inB;simp;omega)
 have HST:Hid (RpR day (.int .i64 (day:Int)) (.int .i64 1900) (.int .i64 1)):=⟨1900,1,day,rfl,rfl,rfl,ref_start day⟩
 clear h
 go_enter Tryz.func83,Tryz.ntmps83
 go_wp2_with fail
 refine (HD.out _).mono ?_
 rintro e w' ⟨rfl,rfl⟩
 go_wp2_with fail
 go_loop [0,6,7] (RpR day) (fun v _ _ => (intOf v).toNat)
 case atStart => exact HST.out
 case round =>
  obtain ⟨y,m,r,rfl,rfl,rfl,hr⟩:=hrel
  obtain ⟨hy2,hr2⟩:=hr.small hd
  obtain ⟨n,hn⟩:∃ n,n=longN y m:=⟨_,rfl⟩
  have HL:=longR_is y m n (by omega) hr.2.1 hr.2.2.1 hn
  have hn28:28≤n:=by rw [hn];exact longN_ge _ _
  have hn31:n≤31:=by rw [hn];exact longN_le _ _
  by_cases hlt:n≤r
  ·by_cases hm:m < 12
   ·have hs:=ref_month hr (by rw [← hn];exact hlt) hm
    rw [← hn] at hs
    have HS:Hid (RpR day (.int .i64 ((r:Int) - (n:Int))) (.int .i64 (y:Int)) (.int .i64 ((m:Int)+1))):=⟨y,m+1,r - n,rfl,by congr 1,by congr 1;omega,hs⟩
    clear hn hr hs HST HD
    go_wp2_with fail
    refine (HL.out _).mono ?_
    rintro e w' ⟨rfl,rfl⟩
    go_wp2_with fail
    refine (HL.out _).mono ?_
    rintro e w' ⟨rfl,rfl⟩
    go_wp2_with fail
    go_round
    case rel => exact HS.out
    case measure => simp [intOf];omega
   ·have e12:m=12:=by have:=hr.2.2.1;omega
    subst e12
    have hs:=ref_year hr (by rw [← hn];exact hlt)
    rw [← hn] at hs
    have HS:Hid (RpR day (.int .i64 ((r:Int) - (n:Int))) (.int .i64 ((y:Int)+1)) (.int .i64 1)):=⟨y+1,1,r - n,by congr 1,rfl,by congr 1;omega,hs⟩
    clear hn hr hs HST HD
    go_wp2_with fail
    refine (HL.out _).mono ?_
    rintro e w' ⟨rfl,rfl⟩
    go_wp2_with fail
    refine (HL.out _).mono ?_
    rintro e w' ⟨rfl,rfl⟩
    go_wp2_with fail
    go_round
    case rel => exact HS.out
    case measure => simp [intOf];omega
  ·obtain ⟨e1,e2,e3⟩:=HU.out.unique (ref_end hr (by rw [← hn];omega))
   have E1:=Lib.hid e1
   have E2:=Lib.hid e2
   have E3:=Lib.hid e3
   clear hn hr HST HD e1 e2 e3
   go_wp2_with fail
   refine (HL.out _).mono ?_
   rintro e w' ⟨rfl,rfl⟩
   go_wp2_with fail
   refine bodyPost_ret (results_tmp4 rfl _ _ _) rfl ?_
   refine ⟨?_,Below.refl _ _⟩
   rw [E1.out,E2.out,E3.out]
   rfl
end Go.Proofs.YtijkefflpojmhaaGreatDoor

namespace Go.Proofs.YtijkefflpojmhaaGreatDoor
open Go.RowKit
theorem dig_val {d:Nat} (h:d < 10):Value.int .u8 ((48:Int)+(d:Int)) = .int .u8 ((UInt8.ofNat (48+d)).toNat:Int):=by
 congr 1
 rw [UInt8.toNat_ofNat'];omega
def DigsPost (B:Nat) (w:World) (l:List UInt8) (e:Ending) (w':World):Prop := ∃ v',e = .returned v' ∧ w'.ownsRow B 5 1 v' l.length (bytesV l)∧Below B w w'
set_option maxHeartbeats 2000000 in
set_option maxRecDepth 100000 in
theorem digits_many (k:Nat):∀ (B:Nat) (v:Value) (l:List UInt8) (n:Nat) (many:Int) (w:World),n≤100000→k≤10→l.length≤1000→B≤w.heap.size→many=(k:Int)+1→w.ownsRow B 5 1 v l.length (bytesV l) →
  Calls Tryz.prog 76 #[v,.int .i64 (n:Int),.int .i64 many] w (DigsPost B w (l ++ figB n (k+1))):=by
 obtain ⟨i0,hi,hz0,hz1,hz2⟩:=info_parts infoU8
 induction k with
 | zero =>
  intro B v l n many w hn hk hl hB hm ho
  obtain ⟨d,hd⟩:∃ d,d=n % 10:=⟨_,rfl⟩
  have hdI:(n:Int) % 10=(d:Int):=by omega
  have hdb:d < 10:=by omega
  have HF:Hid (l ++ figB n (0+1)=l ++ [UInt8.ofNat (48+d)]):=by rw [hd];rfl
  have HO:=Lib.hid ho
  obtain ⟨m,hm'⟩:∃ m,m=l.length:=⟨_,rfl⟩
  have HO':=HO.out
  rw [← hm'] at HO' hl
  have HO2:=Lib.hid HO'
  have HM:=Lib.hid hm'
  subst hm
  clear ho HO HO' hd hm'
  rw [HF.out]
  go_enter Tryz.func76,Tryz.ntmps76
  go_wp2_with (at_builtin;refine wpList_append1 _ rfl (.tmp 15) (.tmp 20) 45 rfl B 5 i0 (.int .u8 0) 1 Tryz.underlying45 hi hz0 hz1 hz2 rfl _ _ _ rfl (HO2.out.alloc _) ⟨w.heap.size,0,none⟩ 1 (.int .u8 ((48:Int)+(d:Int))) rfl ?c1 rfl ?c3 ?c4 ?c5 ?_)
  case c1 => simp
  case c3 => unfold maxLen;omega
  case c4 => omega
  case c5 => simp;omega
  intro v3 w3 ho3 hg3 hne3 hpl3
  have n3:Below B w w3:=((Below.refl B w).alloc hB _).grown hg3 (by simp;omega) (fun k hk => (HO2.out.lt k hk).1)
  rw [dig_val hdb,bytesV_snoc] at ho3
  have HO3:=Lib.hid ho3
  have N3:=Lib.hid n3
  clear ho3 hg3 hne3 hpl3 n3
  go_wp2_with fail
  go_ret
  exact ⟨_,rfl,by rw [List.length_append,← HM.out];exact HO3.out,N3.out⟩
 | succ k ih =>
  intro B v l n many w hn hk hl hB hm ho
  obtain ⟨d,hd⟩:∃ d,d=n % 10:=⟨_,rfl⟩
  obtain ⟨q,hq⟩:∃ q,q=n / 10:=⟨_,rfl⟩
  have hdI:(n:Int) % 10=(d:Int):=by omega
  have hqI:(n:Int) / 10=(q:Int):=by omega
  have hdb:d < 10:=by omega
  have HF:Hid (l ++ figB n (k+1+1)=(l ++ figB q (k+1)) ++ [UInt8.ofNat (48+d)]):=by rw [hd,hq];show l ++ (figB (n / 10) (k+1) ++ _)=_;rw [List.append_assoc]
  have HI:=Lib.hid (ih B v l q (many - 1) w (by omega) (by omega) hl hB (by omega) ho)
  obtain ⟨m,hm'⟩:∃ m,m=(l ++ figB q (k+1)).length:=⟨_,rfl⟩
  have hml:m=l.length+(k+1):=by rw [hm',List.length_append,figB_len]
  have t1:decide ((1:Int) < many)=true:=by simp;omega
  have hmb:1≤many∧many≤100:=by omega
  have HM:=Lib.hid hm'
  clear ho hd hq hm hm' ih
  rw [HF.out]
  go_enter Tryz.func76,Tryz.ntmps76
  go_wp2_with fail
  refine HI.out.mono ?_
  rintro e w1 ⟨v1,rfl,ho1,b1⟩
  rw [← HM.out] at ho1
  have HO1:=Lib.hid ho1
  have B1:=Lib.hid b1
  clear ho1 b1 HI
  go_wp2_with (at_builtin;refine wpList_append1 _ rfl (.tmp 15) (.tmp 20) 45 rfl B 5 i0 (.int .u8 0) 1 Tryz.underlying45 hi hz0 hz1 hz2 rfl _ _ _ rfl (HO1.out.alloc _) ⟨w1.heap.size,0,none⟩ 1 (.int .u8 ((48:Int)+(d:Int))) rfl ?c1 rfl ?c3 ?c4 ?c5 ?_)
  case c1 => simp
  case c3 => unfold maxLen;omega
  case c4 => omega
  case c5 => have:=B1.out.size;simp;omega
  intro v3 w3 ho3 hg3 hne3 hpl3
  have n3:Below B w w3:=(B1.out.alloc (Nat.le_trans hB B1.out.size) _).grown hg3 (by have:=B1.out.size;simp;omega) (fun k hk => (HO1.out.lt k hk).1)
  rw [dig_val hdb,bytesV_snoc] at ho3
  have HO3:=Lib.hid ho3
  have N3:=Lib.hid n3
  clear ho3 hg3 hne3 hpl3 n3
  go_wp2_with fail
  go_ret
  exact ⟨_,rfl,by rw [List.length_append,← HM.out,hml];exact HO3.out,N3.out⟩
theorem dtext_len (Y M D:Nat):([] ++ figB Y 4 ++ [45] ++ figB M 2 ++ [45] ++ figB D 2:List UInt8)=dateB Y M D:=by simp [dateB]
set_option maxHeartbeats 2000000 in
set_option maxRecDepth 100000 in
theorem dtext_ok (day Y M D:Nat) (w:World) (hd:day≤99999) (h:DateIs day Y M D):Calls Tryz.prog 54 #[.int .i64 (day:Int)] w (SEPost w (dateB Y M D) 0):=by
 obtain ⟨i0,hi,hz0,hz1,hz2⟩:=info_parts infoU8
 have HP:=Lib.hid (fun W => parts_ok day Y M D W hd h)
 obtain ⟨hY,hD⟩:=h.small hd
 have hM:M≤12:=h.2.2.1
 obtain ⟨L1,hL1⟩:∃ L1,L1=[] ++ figB Y 4:=⟨_,rfl⟩
 obtain ⟨L2,hL2⟩:∃ L2,L2=L1 ++ [45]:=⟨_,rfl⟩
 obtain ⟨L3,hL3⟩:∃ L3,L3=L2 ++ figB M 2:=⟨_,rfl⟩
 obtain ⟨L4,hL4⟩:∃ L4,L4=L3 ++ [45]:=⟨_,rfl⟩
 obtain ⟨L5,hL5⟩:∃ L5,L5=L4 ++ figB D 2:=⟨_,rfl⟩
 have l1:L1.length=4:=by rw [hL1,List.nil_append,figB_len]
 have l2:L2.length=5:=by rw [hL2,List.length_append,l1];rfl
 have l3:L3.length=7:=by rw [hL3,List.length_append,l2,figB_len]
 have l4:L4.length=8:=by rw [hL4,List.length_append,l3];rfl
 have HL:Hid (dateB Y M D=L5):=by show _=_;rw [hL5,hL4,hL3,hL2,hL1];exact (dtext_len Y M D).symm
 have HB1:Hid (bytesV L1 ++ [.int .u8 45]=bytesV L2):=by rw [hL2,← bytesV_snoc];rfl
 have HB2:Hid (bytesV L3 ++ [.int .u8 45]=bytesV L4):=by rw [hL4,← bytesV_snoc];rfl
 have H1:Hid (∀ W:World,w.heap.size≤W.heap.size→Calls Tryz.prog 76 #[.slice none 0 0,.int .i64 (Y:Int),.int .i64 4] W (DigsPost w.heap.size W L1)):=fun W hW => by
  rw [hL1];exact digits_many 3 w.heap.size (.slice none 0 0) [] Y 4 W (by omega) (by omega) (by simp) hW rfl (World.ownsRow_nil _ _ _ _)
 have H2:Hid (∀ (W:World) (v:Value),w.heap.size≤W.heap.size→W.ownsRow w.heap.size 5 1 v 5 (bytesV L2)→Calls Tryz.prog 76 #[v,.int .i64 (M:Int),.int .i64 2] W (DigsPost w.heap.size W L3)):=fun W v hW ho => by
  rw [hL3];exact digits_many 1 w.heap.size v L2 M 2 W (by omega) (by omega) (by omega) hW rfl (by rw [l2];exact ho)
 have H3:Hid (∀ (W:World) (v:Value),w.heap.size≤W.heap.size→W.ownsRow w.heap.size 5 1 v 8 (bytesV L4)→Calls Tryz.prog 76 #[v,.int .i64 (D:Int),.int .i64 2] W (DigsPost w.heap.size W L5)):=fun W v hW ho => by
  rw [hL5];exact digits_many 1 w.heap.size v L4 D 2 W (by omega) (by omega) (by omega) hW rfl (by rw [l4];exact ho)
 rw [HL.out]
 clear h hL1 hL2 hL3 hL4 hL5
 go_enter Tryz.func54,Tryz.ntmps54
 go_wp2_with fail
 refine (HP.out _).mono ?_
 rintro e w1 ⟨rfl,b1⟩
 have B1:=Lib.hid b1
 clear b1
 go_wp2_with fail
 refine (H1.out _ B1.out.size).mono ?_
 rintro e w2 ⟨v2,rfl,ho2,b2⟩
 rw [l1] at ho2
 have O2:=Lib.hid ho2
 have B2:=Lib.hid (B1.out.trans b2)
 clear ho2 b2 B1
 go_wp2_with (at_builtin;refine wpList_append1 _ rfl (.tmp 20) (.tmp 21) 45 rfl w.heap.size 5 i0 (.int .u8 0) 1 Tryz.underlying45 hi hz0 hz1 hz2 rfl _ _ _ rfl (O2.out.alloc _) ⟨w2.heap.size,0,none⟩ 1 (.int .u8 45) rfl ?c1 rfl ?c3 ?c4 ?c5 ?_)
 case c1 => simp
 case c3 => unfold maxLen;omega
 case c4 => omega
 case c5 => have:=B2.out.size;simp;omega
 intro v3 w3 ho3 hg3 hne3 hpl3
 have n3:Below w.heap.size w w3:=(B2.out.alloc B2.out.size _).grown hg3 (by have:=B2.out.size;simp;omega) (fun k hk => (O2.out.lt k hk).1)
 rw [HB1.out] at ho3
 have O3:=Lib.hid ho3
 have B3:=Lib.hid n3
 clear ho3 hg3 hne3 hpl3 n3 O2 B2
 go_wp2_with fail
 refine (H2.out _ _ B3.out.size O3.out).mono ?_
 rintro e w4 ⟨v4,rfl,ho4,b4⟩
 rw [l3] at ho4
 have O4:=Lib.hid ho4
 have B4:=Lib.hid (B3.out.trans b4)
 clear ho4 b4 B3 O3
 go_wp2_with (at_builtin;refine wpList_append1 _ rfl (.tmp 25) (.tmp 26) 45 rfl w.heap.size 5 i0 (.int .u8 0) 1 Tryz.underlying45 hi hz0 hz1 hz2 rfl _ _ _ rfl (O4.out.alloc _) ⟨w4.heap.size,0,none⟩ 1 (.int .u8 45) rfl ?c1 rfl ?c3 ?c4 ?c5 ?_)
 case c1 => simp
 case c3 => unfold maxLen;omega
 case c4 => omega
 case c5 => have:=B4.out.size;simp;omega
 intro v5 w5 ho5 hg5 hne5 hpl5
 have n5:Below w.heap.size w w5:=(B4.out.alloc B4.out.size _).grown hg5 (by have:=B4.out.size;simp;omega) (fun k hk => (O4.out.lt k hk).1)
 rw [HB2.out] at ho5
 have O5:=Lib.hid ho5
 have B5:=Lib.hid n5
 clear ho5 hg5 hne5 hpl5 n5 O4 B4
 go_wp2_with fail
 refine (H3.out _ _ B5.out.size O5.out).mono ?_
 rintro e w6 ⟨v6,rfl,ho6,b6⟩
 have hcv:=conv_own ho6 9 Tryz.underlying9
 have B6:=Lib.hid (B5.out.trans b6)
 clear ho6 b6 B5 O5
 go_wp2_with fail
 go_ret2
 exact ⟨rfl,B6.out⟩
def FigR (w:World) (n many:Nat) (nv sv iv:Value) (wr:World):Prop :=
 ∃ (i m:Nat) (s:ByteArray),nv = .int .i64 (m:Int)∧sv = .string s∧iv = .int .i64 (i:Int)∧m≤n∧s.size=i∧FigAt n many s.data.toList i m∧Below w.heap.size w wr
set_option maxHeartbeats 2000000 in
set_option maxRecDepth 100000 in
theorem figures_any (n many:Nat) (w:World) (hn:n≤100000) (hm:many≤10):Calls Tryz.prog 84 #[.int .i64 (n:Int),.int .i64 (many:Int)] w (StrPost w (figB n many)):=by
 have HST:Hid (FigR w n many (.int .i64 (n:Int)) (.string ⟨#[]⟩) (.int .i64 0) w):=⟨0,n,⟨#[]⟩,rfl,rfl,rfl,Nat.le_refl _,rfl,fig_start n many,Below.refl _ _⟩
 go_enter Tryz.func84,Tryz.ntmps84
 go_wp2_with fail
 go_loopw [0,5,6] (FigR w n many) (fun _ _ i _ => many - (intOf i).toNat)
 case atStart => exact HST.out
 case round =>
  obtain ⟨w1,rfl⟩:∃ w1:World,w1=wr:=⟨_,rfl⟩
  obtain ⟨i,m,s,rfl,rfl,rfl,hmn,hsz,hat,hb⟩:=hrel
  have HB:=Lib.hid hb
  have him:=hat.1
  have hs10:s.size≤10:=by omega
  have HSZ:=Lib.hid hsz
  clear hsz
  by_cases hlt:i < many
  ·have hs:=fig_step hat hlt
   obtain ⟨d,hd⟩:∃ d,d=m % 10:=⟨_,rfl⟩
   obtain ⟨q,hq⟩:∃ q,q=m / 10:=⟨_,rfl⟩
   have hdI:(m:Int) % 10=(d:Int):=by omega
   have hqI:(m:Int) / 10=(q:Int):=by omega
   have hdb:d < 10:=by omega
   have hqm:q≤m:=by omega
   rw [← hd,← hq] at hs
   obtain ⟨c,hc⟩:∃ c,c=UInt8.ofNat (48+d):=⟨_,rfl⟩
   have hcI:(48:Int)+(d:Int)=(c.toNat:Int):=by rw [hc,UInt8.toNat_ofNat'];omega
   rw [← hc] at hs
   have HS:=Lib.hid hs
   have hcv:∀ W:World,(convert 45 9 (.slice (some ⟨W.heap.size,0,none⟩) 1 1)).run Tryz.prog (W.alloc (.cells #[.int .u8 (c.toNat:Int)] 5)) = .ok (.string ⟨[c].toArray⟩) (W.alloc (.cells #[.int .u8 (c.toNat:Int)] 5)):=fun W =>
    run_convert_bytes_back (P:=Tryz.prog) _ 45 9 5 ⟨W.heap.size,0,none⟩ 1 [c] Tryz.underlying45 Tryz.underlying5 Tryz.underlying9 (fun j hj => by
     have:j=0:=by simpa using hj
     subst this
     simp [go_sem])
   clear hd hq hs hc HST hat hb
   go_wp2_with fail
   go_roundw
   case rel => exact ⟨i+1,q,_,rfl,rfl,by go_num,by omega,by rw [ByteArray.size_append];show 1+s.size=i+1;rw [HSZ.out];omega,by simpa using HS.out,(HB.out.alloc HB.out.size _)⟩
   case measure => simp [intOf];omega
  ·obtain rfl:i=many:=by omega
   have e:=Lib.hid (fig_end hat)
   clear hat hb HST
   go_wp2_with fail
   go_ret
   exact ⟨by rw [← e.out];show Ending.returned (.string s)=_;congr 2,HB.out⟩
theorem fig_is (n many:Nat) (M:Int) (hM:M=(many:Int)) (hn:n≤100000) (hm:many≤10):Hid (∀ W,Calls Tryz.prog 84 #[.int .i64 (n:Int),.int .i64 M] W (StrPost W (figB n many))):=fun W => by
 subst hM;exact figures_any n many W hn hm
set_option maxHeartbeats 2000000 in
set_option maxRecDepth 100000 in
theorem rdtext_ok (day Y M D:Nat) (w:World) (hd:day≤99999) (h:DateIs day Y M D):Calls Tryz.prog 70 #[.int .i64 (day:Int)] w (SEPost w (dateB Y M D) 0):=by
 have HP:=Lib.hid (fun W => rparts_ok day Y M D W hd h)
 obtain ⟨hY,hD⟩:=h.small hd
 have hM:M≤12:=h.2.2.1
 have H1:=fig_is Y 4 4 rfl (by omega) (by omega)
 have H2:=fig_is M 2 2 rfl (by omega) (by omega)
 have H3:=fig_is D 2 2 rfl (by omega) (by omega)
 have HL:Hid (∀ x1 x2 x3:List UInt8,x1=figB Y 4→x2=figB M 2→x3=figB D 2→x1 ++ [45] ++ x2 ++ [45] ++ x3=dateB Y M D):=fun x1 x2 x3 e1 e2 e3 => by rw [e1,e2,e3];rfl
 clear h
 go_enter Tryz.func70,Tryz.ntmps70
 go_wp2_with fail
 refine (HP.out _).mono ?_
 rintro e w1 ⟨rfl,b1⟩
 have B1:=Lib.hid b1
 clear b1
 go_wp2_with fail
 refine (H1.out _).mono ?_
 rintro e w2 ⟨rfl,b2⟩
 have B2:=Lib.hid (B1.out.trans (b2.mono B1.out.size))
 clear b2 B1
 go_wp2_with fail
 refine (H2.out _).mono ?_
 rintro e w3 ⟨rfl,b3⟩
 have B3:=Lib.hid (B2.out.trans (b3.mono B2.out.size))
 clear b3 B2
 go_wp2_with fail
 refine (H3.out _).mono ?_
 rintro e w4 ⟨rfl,b4⟩
 have B4:=Lib.hid (B3.out.trans (b4.mono B3.out.size))
 clear b4 B3
 go_wp2_with fail
 go_ret2
 have e:((⟨(figB Y 4).toArray⟩:ByteArray) ++ ⟨#[45]⟩ ++ ⟨(figB M 2).toArray⟩ ++ ⟨#[45]⟩ ++ ⟨(figB D 2).toArray⟩)=⟨(dateB Y M D).toArray⟩:=by
  rw [← HL.out _ _ _ rfl rfl rfl]
  apply ByteArray.ext
  simp
 exact ⟨by rw [← e];rfl,B4.out⟩
end Go.Proofs.YtijkefflpojmhaaGreatDoor

namespace Go.Proofs.YtijkefflpojmhaaGreatDoor
open Go.RowKit
noncomputable def dtxt (n:Int):List UInt8:=dateB (date_exists n.toNat).choose (date_exists n.toNat).choose_spec.choose (date_exists n.toNat).choose_spec.choose_spec.choose
def TPost (w:World) (s:ByteArray) (n:Int) (e:Ending) (w':World):Prop:=e = .returned (.tuple #[.string s,.int .i64 n])∧Below w.heap.size w w'
theorem dtext_is {n:Int} (h0:0≤n) (h1:n≤99999) (W:World):Calls Tryz.prog 54 #[.int .i64 n] W (TPost W ⟨(dtxt n).toArray⟩ 0):=by
 have hd:=(date_exists n.toNat).choose_spec.choose_spec.choose_spec
 have:=dtext_ok n.toNat _ _ _ W (by omega) hd
 rwa [show ((n.toNat:Nat):Int)=n by omega] at this
theorem rdtext_is {n:Int} (h0:0≤n) (h1:n≤99999) (W:World):Calls Tryz.prog 70 #[.int .i64 n] W (TPost W ⟨(dtxt n).toArray⟩ 0):=by
 have hd:=(date_exists n.toNat).choose_spec.choose_spec.choose_spec
 have:=rdtext_ok n.toNat _ _ _ W (by omega) hd
 rwa [show ((n.toNat:Nat):Int)=n by omega] at this
noncomputable def dS (n:Int):ByteArray:=⟨(dtxt n).toArray⟩
set_option maxHeartbeats 1000000 in
theorem pdayT_is {n:Int} (h0:0≤n) (h1:n≤99999) (w:World):Calls Tryz.prog 26 #[.int .i64 n] w (fun e w' => e = .returned (.string (dS n))∧Below w.heap.size w w'):=by
 have HD:Hid (∀ W,Calls Tryz.prog 54 #[.int .i64 n] W (TPost W (dS n) 0)):=Lib.hid (fun W => dtext_is h0 h1 W)
 obtain ⟨d,hd⟩:∃ d,d=dS n:=⟨_,rfl⟩
 rw [← hd] at HD ⊢
 clear hd h0 h1
 go_enter Tryz.func26,Tryz.ntmps26
 go_wp2_with fail
 refine (HD.out _).mono ?_
 rintro e w' ⟨rfl,hb⟩
 have HB:=Lib.hid hb
 clear hb
 go_wp2_with fail
 go_ret
 exact ⟨rfl,HB.out⟩
set_option maxHeartbeats 1000000 in
theorem rdayT_is {n:Int} (h0:0≤n) (h1:n≤99999) (w:World):Calls Tryz.prog 39 #[.int .i64 n] w (fun e w' => e = .returned (.string (dS n))∧Below w.heap.size w w'):=by
 have HD:Hid (∀ W,Calls Tryz.prog 70 #[.int .i64 n] W (TPost W (dS n) 0)):=Lib.hid (fun W => rdtext_is h0 h1 W)
 obtain ⟨d,hd⟩:∃ d,d=dS n:=⟨_,rfl⟩
 rw [← hd] at HD ⊢
 clear hd h0 h1
 go_enter Tryz.func39,Tryz.ntmps39
 go_wp2_with fail
 refine (HD.out _).mono ?_
 rintro e w' ⟨rfl,hb⟩
 have HB:=Lib.hid hb
 clear hb
 go_wp2_with fail
 go_ret
 exact ⟨rfl,HB.out⟩
end Go.Proofs.YtijkefflpojmhaaGreatDoor

namespace Go.Proofs.YtijkefflpojmhaaGreatDoor
open Go.RowKit
def opS (k:Int):ByteArray:=if k=4 then ByteArray.mk #[32,43,32] else if k=5 then ByteArray.mk #[32,45,32] else if k=6 then ByteArray.mk #[32,42,32] else ByteArray.mk #[]
def opO (k:Int):Int:=if k=4 then 0 else if k=5 then 0 else if k=6 then 1 else 2
def opN (k:Int):Int:=if k=4 then 1 else if k=5 then 1 else 2
theorem op_beq_no {a b:Int} (h:a ≠ b):(a == b)=false:=by simpa using h
set_option maxHeartbeats 1000000 in
theorem oper_any (k:Int) (w:World):Calls Tryz.prog 56 #[.int .u8 k] w (fun e w' => e = .returned (.tuple #[.string (opS k),.int .i64 (opO k),.int .i64 (opN k)])∧w=w'):=by
 by_cases h4:k=4
 ·subst h4
  go_enter Tryz.func56,Tryz.ntmps56
  go_wp2_with fail
  go_ret3
  exact ⟨rfl,rfl⟩
 by_cases h5:k=5
 ·subst h5
  go_enter Tryz.func56,Tryz.ntmps56
  go_wp2_with fail
  go_ret3
  exact ⟨rfl,rfl⟩
 by_cases h6:k=6
 ·subst h6
  go_enter Tryz.func56,Tryz.ntmps56
  go_wp2_with fail
  go_ret3
  exact ⟨rfl,rfl⟩
 have e4:=op_beq_no h4
 have e5:=op_beq_no h5
 have e6:=op_beq_no h6
 have eS:opS k=ByteArray.mk #[]:=by unfold opS;rw [if_neg h4,if_neg h5,if_neg h6]
 have eO:opO k=2:=by unfold opO;rw [if_neg h4,if_neg h5,if_neg h6]
 have eN:opN k=2:=by unfold opN;rw [if_neg h4,if_neg h5]
 rw [eS,eO,eN]
 clear eS eO eN h4 h5 h6
 go_enter Tryz.func56,Tryz.ntmps56
 go_wp2_with fail
 go_ret3
 exact ⟨rfl,rfl⟩
end Go.Proofs.YtijkefflpojmhaaGreatDoor

namespace Go.Proofs.YtijkefflpojmhaaGreatDoor
open Go.RowKit
set_option maxHeartbeats 1000000 in
theorem rsum_any (k d:Int) (r n:ByteArray) (a:Option Addr) (l c:Nat) (w:World):Calls Tryz.prog 68 #[.agg #[.int .u8 k,.string r,.string n,.int .i64 d,.slice a l c]] w (BelB w (k == 4 || k == 5)):=by
 cases e4:(k == 4) <;> cases e5:(k == 5) <;>
 ·go_enter Tryz.func68,Tryz.ntmps68
  go_wp2_with fail
  go_ret
  exact ⟨rfl,own_below w _⟩
end Go.Proofs.YtijkefflpojmhaaGreatDoor

namespace Go.Proofs.YtijkefflpojmhaaGreatDoor
open Go.RowKit
def wdL (k:Int):List UInt8:=if k=7 then [109,97,120] else if k=8 then [109,105,110] else if k=9 then [99,97,115,101] else if k=11 then [108,101,115,115] else if k=12 then [101,113,117,97,108] else if k=13 then [97,110,100] else if k=14 then [111,114] else [110,111,116]
def commas:List (List UInt8)→List UInt8
 | [] => []
 | [a] => a
 | a :: b :: l => a ++ [44,32] ++ commas (b :: l)
def parT (b:Bool) (t:List UInt8):List UInt8:=if b=true then [40] ++ t ++ [41] else t
def sumB (x:Ex):Bool:=x.kind == 4 || x.kind == 5
def prt (x:Ex) (i:Nat):Ex:=x.sub[i]?.getD (Ex.mk 0 ByteArray.empty ByteArray.empty 0 [])
noncomputable def leafT (x:Ex):List UInt8:=if x.kind=1 then x.rat.data.toList else if x.kind=2 then (qn x.name).data.toList ++ [64] ++ dtxt x.date else (qn x.name).data.toList ++ [64,110,111,119]
noncomputable def rexT:Nat→Ex→List UInt8
 | 0,_ => []
 | n+1,x =>
  if x.kind=1 ∨ x.kind=2 ∨ x.kind=3 then leafT x
  else if x.kind=4 ∨ x.kind=5 then rexT n (prt x 0) ++ (opS x.kind).data.toList ++ parT (sumB (prt x 1)) (rexT n (prt x 1))
  else if x.kind=6 then parT (sumB (prt x 0)) (rexT n (prt x 0)) ++ (opS x.kind).data.toList ++ parT (sumB (prt x 1) || (prt x 1).kind == 6) (rexT n (prt x 1))
  else wdL x.kind ++ ([40] ++ commas (x.sub.map (rexT n)) ++ [41])
noncomputable def pexT:Nat→Ex→Int→List UInt8
 | 0,x,least => parT (decide (opO x.kind < least)) []
 | n+1,x,least => parT (decide (opO x.kind < least))
  (if x.kind=4 ∨ x.kind=5 ∨ x.kind=6 then pexT n (prt x 0) (opO x.kind) ++ (opS x.kind).data.toList ++ pexT n (prt x 1) (opN x.kind)
  else if x.kind=1 ∨ x.kind=2 ∨ x.kind=3 then leafT x
  else wdL x.kind ++ ([40] ++ commas (x.sub.map fun y => pexT n y 0) ++ [41]))
theorem opO_0 (k:Int):decide (opO k < 0)=false:=by
 unfold opO;split <;> (try split) <;> (try split) <;> rfl
theorem opO_1 (x:Ex):decide (opO x.kind < 1)=sumB x:=by
 unfold opO sumB
 by_cases h4:x.kind=4
 ·rw [if_pos h4,h4];rfl
 by_cases h5:x.kind=5
 ·rw [if_neg h4,if_pos h5,h5];rfl
 rw [if_neg h4,if_neg h5,op_beq_no h4,op_beq_no h5]
 split <;> rfl
theorem opO_2 (x:Ex):decide (opO x.kind < 2)=(sumB x || x.kind == 6):=by
 unfold opO sumB
 by_cases h4:x.kind=4
 ·rw [if_pos h4,h4];rfl
 by_cases h5:x.kind=5
 ·rw [if_neg h4,if_pos h5,h5];rfl
 by_cases h6:x.kind=6
 ·rw [if_neg h4,if_neg h5,if_pos h6,h6];rfl
 rw [if_neg h4,if_neg h5,if_neg h6,op_beq_no h4,op_beq_no h5,op_beq_no h6];rfl
theorem pex_rex:∀ (n:Nat) (x:Ex) (least:Int),pexT n x least=parT (decide (opO x.kind < least)) (rexT n x):=by
 intro n
 induction n with
 | zero => intro x least;rfl
 | succ n ih =>
  intro x least
  rw [pexT,rexT]
  congr 1
  have hm:(x.sub.map fun y => pexT n y 0)=x.sub.map (rexT n):=List.map_congr_left fun y _ => by
   rw [ih,opO_0];rfl
  by_cases h1:x.kind=1 ∨ x.kind=2 ∨ x.kind=3
  ·rw [if_neg (by omega),if_pos h1,if_pos h1]
  by_cases h4:x.kind=4 ∨ x.kind=5
  ·have e0:opO x.kind=0:=by rcases h4 with h | h <;> rw [h] <;> rfl
   have e1:opN x.kind=1:=by rcases h4 with h | h <;> rw [h] <;> rfl
   rw [if_pos (by omega),if_neg h1,if_pos h4,ih,ih,e0,e1,opO_0,opO_1]
   rfl
  by_cases h6:x.kind=6
  ·have e0:opO x.kind=1:=by rw [h6];rfl
   have e1:opN x.kind=2:=by rw [h6];rfl
   rw [if_pos (by omega),if_neg h1,if_neg h4,if_pos h6,ih,ih,e0,e1,opO_1,opO_2]
  ·rw [if_neg (by omega),if_neg h1,if_neg h1,if_neg h4,if_neg h6,hm]
end Go.Proofs.YtijkefflpojmhaaGreatDoor

namespace Go.Proofs.YtijkefflpojmhaaGreatDoor
open Go.RowKit
def parS (b:Bool) (t:ByteArray):ByteArray:=if b=true then ByteArray.mk #[40] ++ t ++ ByteArray.mk #[41] else t
set_option maxHeartbeats 3000000 in
theorem rpart_of (k d:Int) (r n:ByteArray) (a:Option Addr) (l c:Nat) (t:ByteArray) (b:Bool) (w:World) (ht:t.size≤3000000)
  (HE:Hid (∀ W,Below w.heap.size w W→Calls Tryz.prog 36 #[.agg #[.int .u8 k,.string r,.string n,.int .i64 d,.slice a l c]] W (fun e w' => e = .returned (.string t)∧Below W.heap.size W w'))) :
  Calls Tryz.prog 67 #[.agg #[.int .u8 k,.string r,.string n,.int .i64 d,.slice a l c],.bool b] w (fun e w' => e = .returned (.string (parS b t))∧Below w.heap.size w w'):=by
 cases b
 ·go_enter Tryz.func67,Tryz.ntmps67
  go_wp2_with fail
  refine (HE.out _ (own_below w _)).mono ?_
  rintro e w' ⟨rfl,hb⟩
  have HB:=Lib.hid ((own_below w (.cells #[.int .u8 k,.string r,.string n,.int .i64 d,.slice a l c] 25)).trans (hb.mono (own_below w _).size))
  clear hb
  go_wp2_with fail
  go_ret
  exact ⟨rfl,HB.out⟩
 ·go_enter Tryz.func67,Tryz.ntmps67
  go_wp2_with fail
  refine (HE.out _ (own_below w _)).mono ?_
  rintro e w' ⟨rfl,hb⟩
  have HB:=Lib.hid ((own_below w (.cells #[.int .u8 k,.string r,.string n,.int .i64 d,.slice a l c] 25)).trans (hb.mono (own_below w _).size))
  clear hb
  go_wp2_with fail
  go_ret
  exact ⟨rfl,HB.out⟩
end Go.Proofs.YtijkefflpojmhaaGreatDoor

namespace Go.Proofs.YtijkefflpojmhaaGreatDoor
open Go.RowKit
def OutAt (B b:Nat) (p m:Value) (l:List UInt8) (w:World):Prop :=
 B≤b ∧ ∃ v,w.heap[b]? = some (.cells #[p,v,m] 49 (0,0))∧w.ownsRowF B 5 1 v l.length (Lib.byteCells l)∧v.ownBlock ≠ some b
def IsOut (B b:Nat) (m:Value) (l:List UInt8) (w:World):Prop:=OutAt B b (.pointer none) m l w ∨ OutAt B b (.pointer (some ⟨b,0,none⟩)) m l w
def OutK (B b:Nat) (w w':World):Prop:=Below B w w' ∧ Lib.OthersKept 5 (some b) w w'
theorem OutK.refl (B b:Nat) (w:World):OutK B b w w:=⟨Below.refl _ _,Lib.OthersKept.refl _ _ _⟩
theorem OutK.trans {B b:Nat} {w w' w'':World} (h:OutK B b w w') (k:OutK B b w' w''):OutK B b w w'':=⟨h.1.trans k.1,h.2.trans k.2⟩
theorem OutK.alloc {B b:Nat} {w w':World} (h:OutK B b w w') (hB:B≤w'.heap.size) (o:Obj):OutK B b w (w'.alloc o):=⟨h.1.alloc hB o,h.2.alloc o⟩
theorem OutK.drew {B b:Nat} {w w':World} (h:OutK B b w w'):OutK B b w w'.drew:=⟨h.1.drew,h.2.drew⟩
theorem OutK.below {B b:Nat} {w w':World} (h:Below w.heap.size w w') (hB:B≤w.heap.size):OutK B b w w' :=
 ⟨h.mono hB,fun k _ hk _ _ => (h.block k (Array.getElem?_eq_some_iff.1 hk).1).trans hk⟩
theorem OutAt.lt {B b:Nat} {p m:Value} {l:List UInt8} {w:World} (h:OutAt B b p m l w):b < w.heap.size:=by
 obtain ⟨_,v,hb,_⟩:=h
 exact (Array.getElem?_eq_some_iff.1 hb).1
theorem OutAt.below {B b:Nat} {p m:Value} {l:List UInt8} {w w':World} (h:OutAt B b p m l w) (hb:Below w.heap.size w w'):OutAt B b p m l w':=by
 have hlt:=h.lt
 obtain ⟨hB,v,h1,h2,h3⟩:=h
 exact ⟨hB,v,(hb.block _ hlt).trans h1,h2.kept (row:=none) ⟨hb.os,hb.tape,hb.output,hb.size,fun i hi _ => hb.block i hi⟩ (by cases hv:v.ownBlock <;> simp),h3⟩
theorem IsOut.below {B b:Nat} {m:Value} {l:List UInt8} {w w':World} (h:IsOut B b m l w) (hb:Below w.heap.size w w'):IsOut B b m l w':=h.imp (·.below hb) (·.below hb)
theorem IsOut.at {B b:Nat} {m:Value} {l:List UInt8} {w:World} (h:IsOut B b m l w):∃ p,OutAt B b p m l w:=h.elim (fun x => ⟨_,x⟩) (fun x => ⟨_,x⟩)
theorem infoBuilder:(Tryz.prog.info? 47).map (·.size)=some 2:=by kernel_rfl
theorem infoB8:(Tryz.prog.info? 5).map (fun i => (i.zero,i.size,i.bytes))=some (some (.int .u8 0),1,1):=by kernel_rfl
theorem liesOut:liesAt Tryz.prog Tryz.prog.depth 49 (3 / Tryz.prog.cellsOf 49) 0 47 1=true:=by kernel_rfl
set_option maxHeartbeats 1000000 in
set_option maxRecDepth 100000 in
theorem bcopy_used (b:Nat) (w:World) (h0:w.cell? ⟨b,0,none⟩=some (.pointer (some ⟨b,0,none⟩))) :
  Calls Tryz.prog 74 #[.pointer (some ⟨b,0,none⟩)] w fun e w' => e = .returned (.tuple #[])∧w' = w:=by
 obtain ⟨j,hj,_⟩:=Option.map_eq_some_iff.1 infoBuilder
 go_enter Tryz.func74,Tryz.ntmps74
 go_wp2
 rw [Lib.run_neq_ptr_same w _ Tryz.underlying44 hj]
 go_wp2
 go_end0
 exact ⟨rfl,rfl⟩
set_option maxHeartbeats 1000000 in
set_option maxRecDepth 100000 in
theorem bcopy_fresh (b:Nat) (w:World) (h0:w.cell? ⟨b,0,none⟩=some (.pointer none)) (hsh:w.shape? b=some (49,3)) (hfz:w.frozen? ⟨b,0,none⟩=false) :
  Calls Tryz.prog 74 #[.pointer (some ⟨b,0,none⟩)] w fun e w' => e = .returned (.tuple #[])∧w' = w.setCell ⟨b,0,none⟩ (.pointer (some ⟨b,0,none⟩)):=by
 obtain ⟨j,hj,hjs⟩:=Option.map_eq_some_iff.1 infoBuilder
 go_enter Tryz.func74,Tryz.ntmps74
 go_wp2
 rw [Lib.run_to_unsafe w ⟨b,0,none⟩ Tryz.underlying44 Tryz.underlying111 hj (by rw [hjs];decide) hsh (Nat.zero_lt_succ 2)]
 simp only [Result.andThen]
 rw [Oper.upon_value]
 go_wp2
 rw [run_callFunc_extern Tryz.func87 (by kernel_rfl) (by kernel_rfl) (by kernel_rfl) (e:=Extern.AbiNoEscape.same) (by kernel_rfl)]
 rw [Lib.run_noEscape]
 simp only [Result.andThen]
 rw [Oper.upon_value]
 go_wp2
 rw [Lib.run_from_unsafe w ⟨b,0,none⟩ Tryz.underlying111 Tryz.underlying44 hj hsh liesOut]
 simp only [Result.andThen]
 rw [Oper.upon_value]
 go_wp2
 go_end0
 exact ⟨rfl,rfl⟩
theorem OutAt.used {B b:Nat} {p m:Value} {l:List UInt8} {w:World} (h:OutAt B b p m l w) (q:Value):OutAt B b q m l (w.setCell ⟨b,0,none⟩ q):=by
 obtain ⟨hB,v,hb,hown,hne⟩:=h
 refine ⟨hB,v,?_,?_,hne⟩
 ·simp [World.setCell,Array.getElem?_modify,hb]
 ·exact hown.kept (row:=some b) ⟨rfl,rfl,rfl,by simp [World.setCell],fun k _ hk => Below.heap_setCell _ _ _ _ (fun e => hk (by simp [e]))⟩ (Or.inr hne)
theorem OutAt.put {B b:Nat} {p v v' m:Value} {l':List UInt8} {w:World} (hB:B≤b) (hb:w.heap[b]? = some (.cells #[p,v,m] 49 (0,0))) (hown:w.ownsRowF B 5 1 v' l'.length (Lib.byteCells l')) :
  OutAt B b p m l' (w.setCell ⟨b,1,none⟩ v'):=by
 have hne:=Lib.ownBlock_neF hown hb (by decide)
 refine ⟨hB,v',?_,?_,hne⟩
 ·simp [World.setCell,Array.getElem?_modify,hb]
 ·exact hown.kept (row:=some b) ⟨rfl,rfl,rfl,by simp [World.setCell],fun k _ hk => Below.heap_setCell _ _ _ _ (fun e => hk (by simp [e]))⟩ (Or.inr hne)
theorem bcopy_any (B b:Nat) (m:Value) (l:List UInt8) (w:World) (h:IsOut B b m l w) :
  Calls Tryz.prog 74 #[.pointer (some ⟨b,0,none⟩)] w fun e w' => e = .returned (.tuple #[])∧OutAt B b (.pointer (some ⟨b,0,none⟩)) m l w' ∧ OutK B b w w':=by
 rcases h with h | h
 ·have hA:=h
  obtain ⟨hB,v,hb,hown,hne⟩:=h
  refine (bcopy_fresh b w (by simp [World.cell?,hb]) (by simp [World.shape?,hb]) (by simp [World.frozen?,hb])).mono ?_
  rintro e w' ⟨rfl,rfl⟩
  exact ⟨rfl,hA.used _,(Below.refl B w).setCell (p:=⟨b,0,none⟩) hB _,(Lib.OthersKept.refl _ _ w).setCell ⟨b,0,none⟩ rfl _⟩
 ·have hA:=h
  obtain ⟨hB,v,hb,hown,hne⟩:=h
  refine (bcopy_used b w (by simp [World.cell?,hb])).mono ?_
  rintro e w' ⟨rfl,rfl⟩
  exact ⟨rfl,hA,OutK.refl _ _ _⟩
set_option maxHeartbeats 2000000 in
set_option maxRecDepth 100000 in
theorem bwrite_any (B b:Nat) (m:Value) (l:List UInt8) (s:ByteArray) (w:World) (h:IsOut B b m l w) (hlen:l.length+s.size≤140737488355328) (hBw:B≤w.heap.size) :
  Calls Tryz.prog 53 #[.pointer (some ⟨b,0,none⟩),.string s] w fun e w' => e = .returned (.tuple #[.int .i64 s.size,.nilIface])∧IsOut B b m (l ++ s.data.toList) w' ∧ OutK B b w w':=by
 obtain ⟨i0,hi,hz0,hz1,hz2⟩:=info_parts infoB8
 have HC:=Lib.hid (bcopy_any B b m l w h)
 clear h
 go_enter Tryz.func53,Tryz.ntmps53
 go_wp2_with fail
 refine HC.out.mono ?_
 rintro e w1 ⟨rfl,h1,hb1,hk1⟩
 obtain ⟨hB,v,hbk,hown,hne⟩:=h1
 have c0:w1.cell? ⟨b,0,none⟩=some (.pointer (some ⟨b,0,none⟩)):=by rw [Lib.cell_of_heap hbk];rfl
 have c1:w1.cell? ⟨b,1,none⟩=some v:=by rw [Lib.cell_of_heap hbk];rfl
 have hsz1:=hb1.size
 have HBK:=Lib.hid hbk
 have HOWN:=Lib.hid hown
 clear hbk hown
 go_wp2_with (at_builtin;refine Lib.wpList_append_own_stringF _ rfl _ _ 45 9 rfl B 5 i0 Tryz.underlying45 Tryz.underlying9 hi hz0 hz1 hz2 _ _ _ rfl HOWN.out s rfl ?c3 ?c4 ?c5 ?_)
 case c3 => unfold maxLen;omega
 case c4 => omega
 case c5 => omega
 intro v' w2 hown' hgrow _
 have hbk:=HBK.out
 have hown:=HOWN.out
 have hlt:b < w1.heap.size:=(Array.getElem?_eq_some_iff.1 hbk).1
 have hb2:w2.heap[b]? = some (.cells #[.pointer (some ⟨b,0,none⟩),v,m] 49 (0,0)):=by
  rw [hgrow.block b hlt (fun e => hne e.symm)]
  exact hbk
 have d0:w2.cell? ⟨b,0,none⟩=some (.pointer (some ⟨b,0,none⟩)):=by rw [Lib.cell_of_heap hb2];rfl
 have d1:w2.cell? ⟨b,1,none⟩=some v:=by rw [Lib.cell_of_heap hb2];rfl
 have f1:w2.frozen? ⟨b,1,none⟩=false:=Lib.frozen_of_heap hb2 1
 have HP:Hid (OutAt B b (.pointer (some ⟨b,0,none⟩)) m (l ++ s.data.toList) (w2.setCell ⟨b,1,none⟩ v')):=OutAt.put hB hb2 (by
  have e:Lib.byteCells (l ++ s.data.toList)=Lib.byteCells l ++ Lib.strCells s:=by simp [Lib.byteCells,Lib.strCells]
  rw [e]
  simpa using hown')
 have HK:Hid (OutK B b w (w2.setCell ⟨b,1,none⟩ v')):=⟨(hb1.grown hgrow (by omega) (fun k hk => (hown.lt k hk).1)).setCell (p:=⟨b,1,none⟩) hB _,(hk1.grown hgrow (Lib.ownsRowF_kind hown)).setCell ⟨b,1,none⟩ rfl _⟩
 obtain ⟨ao,n',cap,rfl⟩:∃ ao n' cap,v' = .slice ao n' cap:=by
  rcases hown'.2 with ⟨hv,_⟩ | ⟨g,cap,cur,fz,hv,_⟩
  ·exact ⟨_,_,_,hv⟩
  ·exact ⟨_,_,_,hv⟩
 clear hbk hown hb2 hown'
 go_wp2
 go_ret2
 exact ⟨rfl,.inr HP.out,HK.out⟩
set_option maxHeartbeats 1000000 in
set_option maxRecDepth 100000 in
theorem blen_any (B b:Nat) (m:Value) (l:List UInt8) (w:World) (h:IsOut B b m l w) :
  Calls Tryz.prog 30 #[.pointer (some ⟨b,0,none⟩)] w fun e w' => e = .returned (.int .i64 l.length)∧w=w':=by
 obtain ⟨p,hB,v,hbk,hown,hne⟩:=h.at
 obtain ⟨ao,cap,rfl⟩:∃ ao cap,v = .slice ao l.length cap:=by
  rcases hown.2 with ⟨hv,h0⟩ | ⟨g,cap,cur,fz,hv,_⟩
  ·exact ⟨none,0,by rw [hv,h0]⟩
  ·exact ⟨_,_,hv⟩
 have c1:w.cell? ⟨b,1,none⟩=some (.slice ao l.length cap):=by rw [Lib.cell_of_heap hbk];rfl
 clear hbk hown h
 go_enter Tryz.func30,Tryz.ntmps30
 go_wp2
 go_ret
 exact ⟨rfl,rfl⟩
set_option maxHeartbeats 1000000 in
set_option maxRecDepth 100000 in
theorem bstring_any (B b:Nat) (m:Value) (l:List UInt8) (w:World) (h:IsOut B b m l w) (h0:l ≠ []) :
  Calls Tryz.prog 31 #[.pointer (some ⟨b,0,none⟩)] w fun e w' => e = .returned (.string ⟨l.toArray⟩)∧Below B w w':=by
 obtain ⟨p,hB,v,hbk,hown,hne⟩:=h.at
 have hl0:l.length ≠ 0:=by simpa using h0
 obtain ⟨g,cap,cur,fz,rfl,hbg,hg,hfz,hnc,hcm,hcs,htake⟩:∃ g cap cur fz,v = .slice (some ⟨g,0,none⟩) l.length cap∧B≤g∧w.heap[g]? = some (.cells cur 5 fz)∧fz.2≤l.length*1∧l.length≤cap∧cap≤maxLen∧cur.size=cap*1∧cur.toList.take (l.length*1)=Lib.byteCells l:=by
  rcases hown.2 with ⟨_,hz⟩ | ⟨g,cap,cur,fz,hv,r⟩
  ·exact absurd hz hl0
  ·exact ⟨g,cap,cur,fz,hv,r⟩
 have c1:w.drew.cell? ⟨b,1,none⟩=some (.slice (some ⟨g,0,none⟩) l.length cap):=by
  have:w.drew.heap[b]? = some (.cells #[p,.slice (some ⟨g,0,none⟩) l.length cap,m] 49 (0,0)):=hbk
  rw [Lib.cell_of_heap this];rfl
 have hSD:(Builtin.unsafeSliceData_ #[45] 88 #[.slice (some ⟨g,0,none⟩) l.length cap]).run Tryz.prog w.drew = .ok (.pointer (some ⟨g,0,none⟩)) w.drew :=
  Lib.run_unsafeSliceData_row _ _ _ _ _ _ (by omega)
 have hUS:(Builtin.unsafeString_ #[88,3] 9 #[.pointer (some ⟨g,0,none⟩),.int .i64 l.length]).run Tryz.prog w.drew = .ok (.string ⟨l.toArray⟩) (w.drew.freeze ⟨g,0,none⟩ l.length):=by
  refine Lib.run_unsafeString_row w.drew 88 3 9 5 Tryz.underlying88 (by kernel_rfl) g cur.size (by have hg':w.drew.heap[g]? = some (.cells cur 5 fz):=hg;simp [World.shape?,hg']) l h0 (by omega) (by unfold maxLen at hcm;omega) ?_
  intro j x hx
  have:=hown.cells (g:=g) rfl j (.int .u8 x.toNat) (by simp [Lib.byteCells,hx])
  exact this
 have HB:Hid (Below B w (w.drew.freeze ⟨g,0,none⟩ l.length)):=Lib.below_freeze (Below.drew (Below.refl B w)) (p:=⟨g,0,none⟩) hbg _
 clear hbk hown h hg htake hcs hl0 hfz
 go_enter Tryz.func31,Tryz.ntmps31
 go_wp2
 go_region
 all_goals (go_wp2;go_ret;exact ⟨rfl,HB.out⟩)
end Go.Proofs.YtijkefflpojmhaaGreatDoor

namespace Go.Proofs.YtijkefflpojmhaaGreatDoor
open Go.RowKit
def catB (ss:List ByteArray):List UInt8:=ss.flatMap fun s => s.data.toList
theorem catB_take (ss:List ByteArray) (k:Nat) (h:k < ss.length):catB (ss.take (k+1))=catB (ss.take k) ++ ss[k].data.toList:=by
 unfold catB
 rw [List.take_succ_eq_append_getElem h,List.flatMap_append];simp
theorem catB_le (ss:List ByteArray) (k:Nat):(catB (ss.take k)).length≤(catB ss).length:=by
 have:catB ss=catB (ss.take k) ++ catB (ss.drop k):=by
  unfold catB
  rw [← List.flatMap_append,List.take_append_drop]
 rw [this,List.length_append];omega
def WrP (B b:Nat) (m:Value) (l:List UInt8) (w:World) (e:Ending) (w':World):Prop:=e = .returned (.tuple #[])∧IsOut B b m l w' ∧ OutK B b w w'
set_option maxHeartbeats 2000000 in
set_option maxRecDepth 100000 in
theorem put_any (B b g:Nat) (m:Value) (l:List UInt8) (ss:List ByteArray) (w:World) (n:Nat) (h:IsOut B b m l w) (hg:w.heap[g]? = some (.cells (ss.map Value.string).toArray 9 (0,0))) (hn:ss.length=n) (hn1:n≤1000) (hlen:l.length+(catB ss).length≤140737488355328) (hBw:B≤w.heap.size) :
  Calls Tryz.prog 25 #[.pointer (some ⟨b,0,none⟩),.slice (some ⟨g,0,none⟩) n n] w (WrP B b m (l ++ catB ss) w):=by
 have hgb:g ≠ b:=by
  rintro rfl
  obtain ⟨p,_,v,hb,_⟩:=h.at
  rw [hg] at hb
  simp at hb
 have HG:=Lib.hid hg
 have HO:=Lib.hid h
 have HN:=Lib.hid hn
 clear hg h hn
 go_enter Tryz.func25,Tryz.ntmps25
 go_wp2_with fail
 go_loopw [5,8] (fun _ iv wr => ∃ k:Nat,k≤n∧iv = .int .i64 (k:Int)∧IsOut B b m (l ++ catB (ss.take k)) wr∧OutK B b w wr) (fun _ iv _ => n - (intOf iv).toNat)
 case atStart => exact ⟨0,Nat.zero_le _,rfl,by simpa [catB] using HO.out,OutK.refl _ _ _⟩
 case round =>
  obtain ⟨w1,rfl⟩:∃ w1:World,w1=wr:=⟨_,rfl⟩
  obtain ⟨k,hk,rfl,hio,hok⟩:=hrel
  have hB1:B≤w1.heap.size:=Nat.le_trans hBw hok.1.size
  have HIO:=Lib.hid hio
  have HOK:=Lib.hid hok
  have hg1:w1.heap[g]? = some (.cells (ss.map Value.string).toArray 9 (0,0)):=hok.2 g _ HG.out (by simpa using hgb) (by intro c fz e;simp at e)
  have hlt1:b < w1.heap.size:=by obtain ⟨p,hp⟩:=hio.at;exact hp.lt
  clear hio hok
  by_cases hlt:k < n
  ·have hlt2:k < ss.length:=by rw [HN.out];exact hlt
   obtain ⟨s,hs⟩:∃ s,s=ss[k]:=⟨_,rfl⟩
   have c0:w1.cell? ⟨g,k,none⟩=some (.string s):=by rw [Lib.cell_of_heap hg1,hs];simp [hlt2]
   have HT:Hid (catB (ss.take (k+1))=catB (ss.take k) ++ s.data.toList):=by rw [hs];exact catB_take ss k hlt2
   have HC:=Lib.hid (bwrite_any B b m (l ++ catB (ss.take k)) s w1 HIO.out (by
    have q1:=catB_le ss (k+1)
    have q2:=HT.out
    have q3:s.data.toList.length=s.size:=by simp
    rw [q2,List.length_append,q3] at q1
    rw [List.length_append];omega) hB1)
   clear hg1 hs
   go_wp2_with fail
   refine HC.out.mono ?_
   rintro e w2 ⟨rfl,hio2,hok2⟩
   have HIO2:=Lib.hid hio2
   have HOK2:=Lib.hid (HOK.out.trans hok2)
   clear hio2 hok2
   go_wp2_with fail
   go_roundw
   case rel => exact ⟨k+1,by omega,by go_num,by rw [HT.out,← List.append_assoc];exact HIO2.out,HOK2.out⟩
   case measure => simp [intOf] <;> omega
  ·have HE:Hid (ss.take k=ss):=Lib.hid (List.take_of_length_le (by rw [HN.out];omega))
   clear hg1
   go_wp2_with fail
   go_end0
   exact ⟨rfl,by rw [← HE.out];exact HIO.out,HOK.out⟩
theorem alloc_at (w:World) (o:Obj):(w.alloc o).heap[w.heap.size]? = some o:=by show (w.heap.push o)[w.heap.size]? = _;simp
theorem put1 (B b:Nat) (m:Value) (l:List UInt8) (s:ByteArray) (w:World) (h:IsOut B b m l w) (hlen:l.length+s.size≤140737488355328) (hBw:B≤w.heap.size) :
  Calls Tryz.prog 25 #[.pointer (some ⟨b,0,none⟩),.slice (some ⟨w.heap.size,0,none⟩) 1 1] (w.alloc (.cells #[.string s] 9)) (WrP B b m (l ++ s.data.toList) w):=by
 have hK:=OutK.below (b:=b) (own_below w (.cells #[.string s] 9)) hBw
 refine (put_any B b w.heap.size m l [s] _ 1 (h.below (own_below w _)) (alloc_at _ _) rfl (by omega) (by simpa [catB] using hlen) (by simp;omega)).mono ?_
 rintro e w' ⟨rfl,h1,h2⟩
 exact ⟨rfl,by simpa [catB] using h1,hK.trans h2⟩
theorem put2 (B b:Nat) (m:Value) (l:List UInt8) (s t:ByteArray) (w:World) (h:IsOut B b m l w) (hlen:l.length+(s.size+t.size)≤140737488355328) (hBw:B≤w.heap.size) :
  Calls Tryz.prog 25 #[.pointer (some ⟨b,0,none⟩),.slice (some ⟨w.heap.size,0,none⟩) 2 2] (w.alloc (.cells #[.string s,.string t] 9)) (WrP B b m (l ++ (s.data.toList ++ t.data.toList)) w):=by
 have hK:=OutK.below (b:=b) (own_below w (.cells #[.string s,.string t] 9)) hBw
 refine (put_any B b w.heap.size m l [s,t] _ 2 (h.below (own_below w _)) (alloc_at _ _) rfl (by omega) (by simpa [catB] using hlen) (by simp;omega)).mono ?_
 rintro e w' ⟨rfl,h1,h2⟩
 exact ⟨rfl,by simpa [catB] using h1,hK.trans h2⟩
theorem put3 (B b:Nat) (m:Value) (l:List UInt8) (s t u:ByteArray) (w:World) (h:IsOut B b m l w) (hlen:l.length+(s.size+(t.size+u.size))≤140737488355328) (hBw:B≤w.heap.size) :
  Calls Tryz.prog 25 #[.pointer (some ⟨b,0,none⟩),.slice (some ⟨w.heap.size,0,none⟩) 3 3] (w.alloc (.cells #[.string s,.string t,.string u] 9)) (WrP B b m (l ++ (s.data.toList ++ (t.data.toList ++ u.data.toList))) w):=by
 have hK:=OutK.below (b:=b) (own_below w (.cells #[.string s,.string t,.string u] 9)) hBw
 refine (put_any B b w.heap.size m l [s,t,u] _ 3 (h.below (own_below w _)) (alloc_at _ _) rfl (by omega) (by simpa [catB] using hlen) (by simp;omega)).mono ?_
 rintro e w' ⟨rfl,h1,h2⟩
 exact ⟨rfl,by simpa [catB] using h1,hK.trans h2⟩
def TxP (B:Nat) (l:List UInt8) (w:World) (e:Ending) (w':World):Prop :=
 e = .returned (if 20000 < l.length then .tuple #[.string ⟨#[]⟩,.int .i64 4] else .tuple #[.string ⟨l.toArray⟩,.int .i64 0])∧Below B w w'
set_option maxHeartbeats 1000000 in
theorem otext_any (B b:Nat) (m:Value) (l:List UInt8) (w:World) (h:IsOut B b m l w) (h0:l ≠ []) (hm:l.length≤1000000000) :
  Calls Tryz.prog 14 #[.pointer (some ⟨b,0,none⟩)] w (TxP B l w):=by
 have HL:=Lib.hid (blen_any B b m l w h)
 have HS:=Lib.hid (bstring_any B b m l w h h0)
 have hlt1:b < w.heap.size:=by obtain ⟨p,hp⟩:=h.at;exact hp.lt
 unfold TxP
 obtain ⟨n,hn⟩:∃ n,n=l.length:=⟨_,rfl⟩
 rw [← hn] at HL hm ⊢
 clear h h0 hn
 by_cases hc:20000 < n
 ·rw [if_pos hc]
  go_enter Tryz.func14,Tryz.ntmps14
  go_wp2_with fail
  refine HL.out.mono ?_
  rintro e w' ⟨rfl,rfl⟩
  go_wp2_with fail
  go_ret2
  exact ⟨rfl,Below.refl _ _⟩
 ·rw [if_neg hc]
  go_enter Tryz.func14,Tryz.ntmps14
  go_wp2_with fail
  refine HL.out.mono ?_
  rintro e w' ⟨rfl,rfl⟩
  go_wp2_with fail
  refine HS.out.mono ?_
  rintro e w' ⟨rfl,hb⟩
  have HB:=Lib.hid hb
  clear hb
  go_wp2_with fail
  go_ret2
  exact ⟨rfl,HB.out⟩
end Go.Proofs.YtijkefflpojmhaaGreatDoor

namespace Go.Proofs.YtijkefflpojmhaaGreatDoor
open Go.RowKit
theorem run_upd_new (w:World) (es:Array MapEntry) (c:Nat) (k:Int) (val:Value) (hf:Instr.findNow (.int .u8) (.int .u8 k) es.toList 0=some none) :
  (Instr.mapUpdate 42 (.map (some w.heap.size)) (.int .u8 k) val).run Tryz.prog (w.alloc (.map es c)) = .ok () (w.alloc (.map (es.push ⟨.int .u8 k,val,c⟩) (c+1))):=by
 have hb:(w.alloc (.map es c)).heap[w.heap.size]? = some (.map es c):=alloc_at _ _
 have hc:(Instr.checkKey false 10000 5 (.int .u8 k)).run Tryz.prog (w.alloc (.map es c)) = .ok () (w.alloc (.map es c)):=MapKept.run_checkKey Tryz.underlying5 (by simp [MapKept.IsKey]) false 9999
 have e:(w.heap.push (Obj.map es c)).setIfInBounds w.heap.size (Obj.map (es.push ⟨.int .u8 k,val,c⟩) (c+1))=w.heap.push (Obj.map (es.push ⟨.int .u8 k,val,c⟩) (c+1)):=by
  apply Array.ext'
  simp [Array.toList_setIfInBounds]
 have hs:(setObj w.heap.size (.map (es.push ⟨.int .u8 k,val,c⟩) (c+1))).run Tryz.prog (w.alloc (.map es c)) = .ok () (w.alloc (.map (es.push ⟨.int .u8 k,val,c⟩) (c+1))):=by
  rw [MapKept.run_setObj_map _ hb]
  show Result.ok () { (w.alloc (.map es c)) with heap:=(w.heap.push (Obj.map es c)).setIfInBounds w.heap.size _ } = _
  rw [e];rfl
 simp [Instr.mapUpdate,run_underlying Tryz.underlying42,MapKept.run_getObj_map hb,hc,MapKept.run_findKey Tryz.underlying5 hf,hs,Result.andThen]
theorem run_look_at {W:World} {bm:Nat} {es:Array MapEntry} {c:Nat} (hb:W.heap[bm]? = some (.map es c)) {k:Int} {v:Value} {i:Nat} (hf:Instr.findNow (.int .u8) (.int .u8 k) es.toList 0=some (some (i,v))) :
  (Instr.lookup 42 (.map (some bm)) (.int .u8 k) false).run Tryz.prog W = .ok v W:=by
 have hc:∀ q,(Instr.checkKey q 10000 5 (.int .u8 k)).run Tryz.prog W = .ok () W:=fun q => MapKept.run_checkKey Tryz.underlying5 (by simp [MapKept.IsKey]) q 9999
 simp [Instr.lookup,run_underlying Tryz.underlying42,MapKept.run_getObj_map hb,hc,MapKept.run_findKey Tryz.underlying5 hf,Result.andThen]
def wdEs:Array MapEntry := #[⟨.int .u8 7,.string ⟨#[109,97,120]⟩,0⟩,⟨.int .u8 8,.string ⟨#[109,105,110]⟩,1⟩,⟨.int .u8 9,.string ⟨#[99,97,115,101]⟩,2⟩,⟨.int .u8 11,.string ⟨#[108,101,115,115]⟩,3⟩,⟨.int .u8 12,.string ⟨#[101,113,117,97,108]⟩,4⟩,⟨.int .u8 13,.string ⟨#[97,110,100]⟩,5⟩,⟨.int .u8 14,.string ⟨#[111,114]⟩,6⟩,⟨.int .u8 15,.string ⟨#[110,111,116]⟩,7⟩]
def WordsAt (m:Value) (w:World):Prop := ∃ bm,m = .map (some bm)∧w.heap[bm]? = some (.map wdEs 8)
theorem WordsAt.keep {B b:Nat} {m:Value} {w w':World} (h:WordsAt m w) (hk:OutK B b w w') {p:Value} {l:List UInt8} (ho:OutAt B b p m l w):WordsAt m w':=by
 obtain ⟨bm,rfl,hb⟩:=h
 refine ⟨bm,rfl,hk.2 bm _ hb ?_ (fun _ _ e => by cases e)⟩
 obtain ⟨_,v,h1,_⟩:=ho
 intro e
 injection e with e
 subst e
 rw [hb] at h1
 cases h1
theorem WordsAt.below {m:Value} {w w':World} (h:WordsAt m w) (hb:Below w.heap.size w w'):WordsAt m w':=by
 obtain ⟨bm,rfl,h1⟩:=h
 exact ⟨bm,rfl,(hb.block _ (Array.getElem?_eq_some_iff.1 h1).1).trans h1⟩
def HasWd (k:Int):Prop:=k=7 ∨ k=8 ∨ k=9 ∨ k=11 ∨ k=12 ∨ k=13 ∨ k=14 ∨ k=15
theorem WordsAt.look {m:Value} {w:World} (h:WordsAt m w) {k:Int} (hk:HasWd k):(Instr.lookup 42 m (.int .u8 k) false).run Tryz.prog w = .ok (.string ⟨(wdL k).toArray⟩) w:=by
 obtain ⟨bm,rfl,hb⟩:=h
 rcases hk with rfl | rfl | rfl | rfl | rfl | rfl | rfl | rfl
 all_goals exact run_look_at hb rfl
def WdP (w:World) (e:Ending) (w':World):Prop := ∃ m,e = .returned m∧WordsAt m w' ∧ Below w.heap.size w w' ∧ ∃ bm,m = .map (some bm)∧w.heap.size≤bm
set_option maxHeartbeats 2000000 in
set_option maxRecDepth 100000 in
theorem words_any (w:World):Calls Tryz.prog 12 #[] w (WdP w):=by
 have hmm := @run_makeMap Tryz.prog
 have u0:(Instr.mapUpdate 42 (.map (some w.heap.size)) (.int .u8 7) (.string ⟨#[109,97,120]⟩)).run Tryz.prog (w.alloc (.map #[] 0)) = .ok () (w.alloc (.map #[⟨.int .u8 7,.string ⟨#[109,97,120]⟩,0⟩] 1)):=run_upd_new w _ _ _ _ rfl
 have u1:(Instr.mapUpdate 42 (.map (some w.heap.size)) (.int .u8 8) (.string ⟨#[109,105,110]⟩)).run Tryz.prog (w.alloc (.map #[⟨.int .u8 7,.string ⟨#[109,97,120]⟩,0⟩] 1)) = .ok () (w.alloc (.map #[⟨.int .u8 7,.string ⟨#[109,97,120]⟩,0⟩,⟨.int .u8 8,.string ⟨#[109,105,110]⟩,1⟩] 2)):=run_upd_new w _ _ _ _ rfl
 have u2:(Instr.mapUpdate 42 (.map (some w.heap.size)) (.int .u8 9) (.string ⟨#[99,97,115,101]⟩)).run Tryz.prog (w.alloc (.map #[⟨.int .u8 7,.string ⟨#[109,97,120]⟩,0⟩,⟨.int .u8 8,.string ⟨#[109,105,110]⟩,1⟩] 2)) = .ok () (w.alloc (.map #[⟨.int .u8 7,.string ⟨#[109,97,120]⟩,0⟩,⟨.int .u8 8,.string ⟨#[109,105,110]⟩,1⟩,⟨.int .u8 9,.string ⟨#[99,97,115,101]⟩,2⟩] 3)):=run_upd_new w _ _ _ _ rfl
 have u3:(Instr.mapUpdate 42 (.map (some w.heap.size)) (.int .u8 11) (.string ⟨#[108,101,115,115]⟩)).run Tryz.prog (w.alloc (.map #[⟨.int .u8 7,.string ⟨#[109,97,120]⟩,0⟩,⟨.int .u8 8,.string ⟨#[109,105,110]⟩,1⟩,⟨.int .u8 9,.string ⟨#[99,97,115,101]⟩,2⟩] 3)) = .ok () (w.alloc (.map #[⟨.int .u8 7,.string ⟨#[109,97,120]⟩,0⟩,⟨.int .u8 8,.string ⟨#[109,105,110]⟩,1⟩,⟨.int .u8 9,.string ⟨#[99,97,115,101]⟩,2⟩,⟨.int .u8 11,.string ⟨#[108,101,115,115]⟩,3⟩] 4)):=run_upd_new w _ _ _ _ rfl
 have u4:(Instr.mapUpdate 42 (.map (some w.heap.size)) (.int .u8 12) (.string ⟨#[101,113,117,97,108]⟩)).run Tryz.prog (w.alloc (.map #[⟨.int .u8 7,.string ⟨#[109,97,120]⟩,0⟩,⟨.int .u8 8,.string ⟨#[109,105,110]⟩,1⟩,⟨.int .u8 9,.string ⟨#[99,97,115,101]⟩,2⟩,⟨.int .u8 11,.string ⟨#[108,101,115,115]⟩,3⟩] 4)) = .ok () (w.alloc (.map #[⟨.int .u8 7,.string ⟨#[109,97,120]⟩,0⟩,⟨.int .u8 8,.string ⟨#[109,105,110]⟩,1⟩,⟨.int .u8 9,.string ⟨#[99,97,115,101]⟩,2⟩,⟨.int .u8 11,.string ⟨#[108,101,115,115]⟩,3⟩,⟨.int .u8 12,.string ⟨#[101,113,117,97,108]⟩,4⟩] 5)):=run_upd_new w _ _ _ _ rfl
 have u5:(Instr.mapUpdate 42 (.map (some w.heap.size)) (.int .u8 13) (.string ⟨#[97,110,100]⟩)).run Tryz.prog (w.alloc (.map #[⟨.int .u8 7,.string ⟨#[109,97,120]⟩,0⟩,⟨.int .u8 8,.string ⟨#[109,105,110]⟩,1⟩,⟨.int .u8 9,.string ⟨#[99,97,115,101]⟩,2⟩,⟨.int .u8 11,.string ⟨#[108,101,115,115]⟩,3⟩,⟨.int .u8 12,.string ⟨#[101,113,117,97,108]⟩,4⟩] 5)) = .ok () (w.alloc (.map #[⟨.int .u8 7,.string ⟨#[109,97,120]⟩,0⟩,⟨.int .u8 8,.string ⟨#[109,105,110]⟩,1⟩,⟨.int .u8 9,.string ⟨#[99,97,115,101]⟩,2⟩,⟨.int .u8 11,.string ⟨#[108,101,115,115]⟩,3⟩,⟨.int .u8 12,.string ⟨#[101,113,117,97,108]⟩,4⟩,⟨.int .u8 13,.string ⟨#[97,110,100]⟩,5⟩] 6)):=run_upd_new w _ _ _ _ rfl
 have u6:(Instr.mapUpdate 42 (.map (some w.heap.size)) (.int .u8 14) (.string ⟨#[111,114]⟩)).run Tryz.prog (w.alloc (.map #[⟨.int .u8 7,.string ⟨#[109,97,120]⟩,0⟩,⟨.int .u8 8,.string ⟨#[109,105,110]⟩,1⟩,⟨.int .u8 9,.string ⟨#[99,97,115,101]⟩,2⟩,⟨.int .u8 11,.string ⟨#[108,101,115,115]⟩,3⟩,⟨.int .u8 12,.string ⟨#[101,113,117,97,108]⟩,4⟩,⟨.int .u8 13,.string ⟨#[97,110,100]⟩,5⟩] 6)) = .ok () (w.alloc (.map #[⟨.int .u8 7,.string ⟨#[109,97,120]⟩,0⟩,⟨.int .u8 8,.string ⟨#[109,105,110]⟩,1⟩,⟨.int .u8 9,.string ⟨#[99,97,115,101]⟩,2⟩,⟨.int .u8 11,.string ⟨#[108,101,115,115]⟩,3⟩,⟨.int .u8 12,.string ⟨#[101,113,117,97,108]⟩,4⟩,⟨.int .u8 13,.string ⟨#[97,110,100]⟩,5⟩,⟨.int .u8 14,.string ⟨#[111,114]⟩,6⟩] 7)):=run_upd_new w _ _ _ _ rfl
 have u7:(Instr.mapUpdate 42 (.map (some w.heap.size)) (.int .u8 15) (.string ⟨#[110,111,116]⟩)).run Tryz.prog (w.alloc (.map #[⟨.int .u8 7,.string ⟨#[109,97,120]⟩,0⟩,⟨.int .u8 8,.string ⟨#[109,105,110]⟩,1⟩,⟨.int .u8 9,.string ⟨#[99,97,115,101]⟩,2⟩,⟨.int .u8 11,.string ⟨#[108,101,115,115]⟩,3⟩,⟨.int .u8 12,.string ⟨#[101,113,117,97,108]⟩,4⟩,⟨.int .u8 13,.string ⟨#[97,110,100]⟩,5⟩,⟨.int .u8 14,.string ⟨#[111,114]⟩,6⟩] 7)) = .ok () (w.alloc (.map #[⟨.int .u8 7,.string ⟨#[109,97,120]⟩,0⟩,⟨.int .u8 8,.string ⟨#[109,105,110]⟩,1⟩,⟨.int .u8 9,.string ⟨#[99,97,115,101]⟩,2⟩,⟨.int .u8 11,.string ⟨#[108,101,115,115]⟩,3⟩,⟨.int .u8 12,.string ⟨#[101,113,117,97,108]⟩,4⟩,⟨.int .u8 13,.string ⟨#[97,110,100]⟩,5⟩,⟨.int .u8 14,.string ⟨#[111,114]⟩,6⟩,⟨.int .u8 15,.string ⟨#[110,111,116]⟩,7⟩] 8)):=run_upd_new w _ _ _ _ rfl
 have HF:Hid (WdP w (.returned (.map (some w.heap.size))) (w.alloc (.map wdEs 8))):=⟨_,rfl,⟨_,rfl,alloc_at _ _⟩,own_below _ _,_,rfl,Nat.le_refl _⟩
 go_enter Tryz.func12,Tryz.ntmps12
 go_wp2_with fail
 go_ret
 exact HF.out
end Go.Proofs.YtijkefflpojmhaaGreatDoor

namespace Go.Proofs.YtijkefflpojmhaaGreatDoor
open Go.RowKit
def OkX:Nat→Ex→Prop
 | 0,_ => False
 | n+1,x => (x.kind=1 ∨ (x.kind=2∧0≤x.date∧x.date≤99999) ∨ x.kind=3 ∨ ((x.kind=4 ∨ x.kind=5 ∨ x.kind=6)∧x.sub.length=2) ∨ (HasWd x.kind∧x.sub.length≤3)) ∧ ∀ y ∈ x.sub,OkX n y
structure OutEnv (Wb:World) (B b:Nat) (m:Value) (l:List UInt8) (w:World):Prop where
 base:Wb.heap.size≤B
 old:Below Wb.heap.size Wb w
 out:IsOut B b m l w
 words:WordsAt m w
 size:B≤w.heap.size
theorem OutEnv.step {Wb:World} {B b:Nat} {m:Value} {l l':List UInt8} {w w':World} (h:OutEnv Wb B b m l w) (ho:IsOut B b m l' w') (hk:OutK B b w w'):OutEnv Wb B b m l' w':=by
 obtain ⟨p,hp⟩:=h.out.at
 exact ⟨h.base,h.old.trans (hk.1.mono h.base),ho,h.words.keep hk hp,Nat.le_trans h.size hk.1.size⟩
theorem OutEnv.below {Wb:World} {B b:Nat} {m:Value} {l:List UInt8} {w w':World} (h:OutEnv Wb B b m l w) (hb:Below w.heap.size w w'):OutEnv Wb B b m l w' :=
 ⟨h.base,h.old.trans (hb.mono (Nat.le_trans h.base h.size)),h.out.below hb,h.words.below hb,Nat.le_trans h.size hb.size⟩
theorem OutEnv.lt {Wb:World} {B b:Nat} {m:Value} {l:List UInt8} {w:World} (h:OutEnv Wb B b m l w):b < w.heap.size:=by
 obtain ⟨p,hp⟩:=h.out.at;exact hp.lt
theorem ExAt.part {n:Nat} {w w1:World} {g o k:Nat} {x:Ex} (hg:g < w.heap.size) (hb:Below w.heap.size w w1) (hk:k < x.sub.length)
  (hel:∀ i (hi:i < x.sub.length),∃ cs',(∀ j,j < 5→w.cell? ⟨g,o+i*5+j,none⟩=cs'[j]?)∧ExAt n w cs' x.sub[i]) :
  ∃ a l c,(w1.cell? ⟨g,o+k*5,none⟩=some (.int .u8 x.sub[k].kind)∧w1.cell? ⟨g,o+k*5+1,none⟩=some (.string x.sub[k].rat)∧w1.cell? ⟨g,o+k*5+2,none⟩=some (.string x.sub[k].name)∧w1.cell? ⟨g,o+k*5+3,none⟩=some (.int .i64 x.sub[k].date)∧w1.cell? ⟨g,o+k*5+4,none⟩=some (.slice a l c)) ∧
   ExAt n w [.int .u8 x.sub[k].kind,.string x.sub[k].rat,.string x.sub[k].name,.int .i64 x.sub[k].date,.slice a l c] x.sub[k]:=by
 obtain ⟨cs',hcell,hx⟩:=hel k hk
 obtain ⟨a,l,c,hcs,_⟩:=hx.shape
 have hat:∀ j,j < 5→w1.cell? ⟨g,o+k*5+j,none⟩=cs'[j]? := fun j hj => ((bcell hb).1 g _ hg).trans (hcell j hj)
 rw [hcs] at hat hx
 exact ⟨a,l,c,⟨hat 0 (by omega),hat 1 (by omega),hat 2 (by omega),hat 3 (by omega),hat 4 (by omega)⟩,hx⟩
def ExprC (Wb:World) (B b:Nat) (m:Value) (n:Nat):Prop :=
 ∀ (x:Ex) (cs:List Value) (least:Int) (l:List UInt8) (w:World),ExAt n Wb cs x→OkX n x→0≤least→least≤2→OutEnv Wb B b m l w→l.length+(pexT n x least).length≤1000000000 →
  Calls Tryz.prog 28 #[.pointer (some ⟨b,0,none⟩),.agg cs.toArray,.int .i64 least] w (WrP B b m (l ++ pexT n x least) w)
theorem boxed_kept {w w':World} {B b i:Nat} {a0 a1 a2 a3 a4:Value} (h:w.heap[i]? = some (.cells #[a0,a1,a2,a3,a4] 25)) (hk:OutK B b w w') (hib:i ≠ b):w'.heap[i]? = some (.cells #[a0,a1,a2,a3,a4] 25) :=
 hk.2 i _ h (by simpa using hib) (by intro c fz e;simp at e)
set_option maxHeartbeats 4000000 in
set_option maxRecDepth 100000 in
theorem expr_op4_0 {Wb:World} {B b:Nat} {m:Value} {n:Nat} (ih:ExprC Wb B b m n) (r nm:ByteArray) (d:Int) (x0 x1:Ex) (cs:List Value) (least:Int) (l:List UInt8) (w:World)
  (h:ExAt (n+1) Wb cs (Ex.mk 4 r nm d [x0,x1])) (ho0:OkX n x0) (ho1:OkX n x1) (hl:least=0) (he:OutEnv Wb B b m l w) (hlen:l.length+(pexT (n+1) (Ex.mk 4 r nm d [x0,x1]) least).length≤1000000000) :
  Calls Tryz.prog 28 #[.pointer (some ⟨b,0,none⟩),.agg cs.toArray,.int .i64 least] w (WrP B b m (l ++ pexT (n+1) (Ex.mk 4 r nm d [x0,x1]) least) w):=by
 subst hl
 have hpt:pexT (n+1) (Ex.mk 4 r nm d [x0,x1]) 0=pexT n x0 0 ++ ([32,43,32] ++ pexT n x1 1):=by
  rw [pexT];simp [parT,opO,opS,opN,Ex.kind,prt,Ex.sub]
 rw [hpt] at hlen ⊢
 obtain ⟨t0,ht0⟩:∃ t,t=pexT n x0 0:=⟨_,rfl⟩
 obtain ⟨t1,ht1⟩:∃ t,t=pexT n x1 1:=⟨_,rfl⟩
 rw [← ht0,← ht1] at hlen ⊢
 simp only [List.length_append,List.length_cons,List.length_nil] at hlen
 obtain ⟨a,len,cap,rfl,hlen2,hsub⟩:=h
 obtain rfl:len=2:=hlen2.symm
 rcases hsub with h0 | ⟨g,o,rfl,hg,hel⟩
 ·omega
 have HOP:Hid (∀ W,Calls Tryz.prog 56 #[.int .u8 4] W (fun e w' => e = .returned (.tuple #[.string (ByteArray.mk #[32,43,32]),.int .i64 0,.int .i64 1])∧W=w')):=fun W => oper_any 4 W
 have HI:=Lib.hid ih
 have HE:=Lib.hid hel
 have HG:=Lib.hid hg
 have HO0:=Lib.hid ho0
 have HO1:=Lib.hid ho1
 have HT0:=Lib.hid ht0
 have HT1:=Lib.hid ht1
 have HEN:=Lib.hid he
 have hbw:=he.lt
 clear ih hel hg ho0 ho1 ht0 ht1 hlen2 hpt
 show Calls Tryz.prog 28 #[.pointer (some ⟨b,0,none⟩),.agg #[.int .u8 4,.string r,.string nm,.int .i64 d,.slice (some ⟨g,o,none⟩) 2 cap],.int .i64 0] w _
 go_enter Tryz.func28,Tryz.ntmps28
 go_wp2_with fail
 refine (HOP.out _).mono ?_
 rintro e w' ⟨rfl,rfl⟩
 obtain ⟨W0,hW0⟩:∃ W0,W0=w.alloc (.cells #[.int .u8 4,.string r,.string nm,.int .i64 d,.slice (some ⟨g,o,none⟩) 2 cap] 25):=⟨_,rfl⟩
 have hbx:W0.heap[w.heap.size]? = some (.cells #[.int .u8 4,.string r,.string nm,.int .i64 d,.slice (some ⟨g,o,none⟩) 2 cap] 25):=by rw [hW0];exact alloc_at _ _
 have hE0:OutEnv Wb B b m l W0:=by rw [hW0];exact HEN.out.below (own_below w _)
 have hK0:OutK B b w W0:=by rw [hW0];exact OutK.below (own_below w _) HEN.out.size
 rw [← hW0]
 have HE0:=Lib.hid hE0
 have HBX:=Lib.hid hbx
 have HK0:=Lib.hid hK0
 obtain ⟨p0,l0,c0,⟨e00,e01,e02,e03,e04⟩,hx0⟩:=ExAt.part (k:=0) (x:=Ex.mk 4 r nm d [x0,x1]) HG.out hE0.old (show 0 < 2 by decide) HE.out
 simp only [Nat.zero_mul,Nat.add_zero,Ex.sub,List.getElem_cons_zero] at e00 e01 e02 e03 e04 hx0
 have b4:W0.cell? ⟨w.heap.size,4,none⟩=some (.slice (some ⟨g,o,none⟩) 2 cap):=(exCells hbx).2.2.2.2
 have HC0:=Lib.hid (HI.out x0 _ 0 l W0 hx0 HO0.out (by omega) (by omega) hE0 (by rw [← HT0.out];omega))
 rw [← HT0.out] at HC0
 clear hW0 hbx hE0 hK0 hx0
 go_wp2_with fail
 refine HC0.out.mono ?_
 rintro e W1 ⟨rfl,hio1,hok1⟩
 have hE1:=HE0.out.step hio1 hok1
 have HBX1:=Lib.hid (boxed_kept HBX.out hok1 (by omega))
 have HK1:=Lib.hid (HK0.out.trans hok1)
 have HE1:=Lib.hid hE1
 have HC1:=Lib.hid (put1 B b m (l ++ t0) (ByteArray.mk #[32,43,32]) W1 hio1 (by show (l ++ t0).length+3≤_;rw [List.length_append];omega) hE1.size)
 have b4':W1.cell? ⟨w.heap.size,4,none⟩=some (.slice (some ⟨g,o,none⟩) 2 cap):=(exCells HBX1.out).2.2.2.2
 clear hio1 hok1 hE1 e00 e01 e02 e03 e04 b4
 go_wp2_with fail
 refine HC1.out.mono ?_
 rintro e W2 ⟨rfl,hio2,hok2⟩
 have hE2:=HE1.out.step hio2 hok2
 have HBX2:=Lib.hid (boxed_kept HBX1.out hok2 (by omega))
 have HK2:=Lib.hid (HK1.out.trans hok2)
 obtain ⟨p1,l1,c1,⟨f0,f1,f2,f3,f4⟩,hx1⟩:=ExAt.part (k:=1) (x:=Ex.mk 4 r nm d [x0,x1]) HG.out hE2.old (show 1 < 2 by decide) HE.out
 simp only [Nat.one_mul,Ex.sub,List.getElem_cons_succ,List.getElem_cons_zero] at f0 f1 f2 f3 f4 hx1
 have b4'':W2.cell? ⟨w.heap.size,4,none⟩=some (.slice (some ⟨g,o,none⟩) 2 cap):=(exCells HBX2.out).2.2.2.2
 have HC2:=Lib.hid (HI.out x1 _ 1 _ W2 hx1 HO1.out (by omega) (by omega) hE2 (by rw [← HT1.out];simp only [List.length_append];show l.length+t0.length+3+_≤_;omega))
 rw [← HT1.out] at HC2
 clear hio2 hok2 hE2 hx1 b4'
 go_wp2_with fail
 refine HC2.out.mono ?_
 rintro e W3 ⟨rfl,hio3,hok3⟩
 have HF:Hid (WrP B b m (l ++ (t0 ++ ([32,43,32] ++ t1))) w (.returned (.tuple #[])) W3):=⟨rfl,by simpa [List.append_assoc] using hio3,HK2.out.trans hok3⟩
 clear hio3 hok3 f0 f1 f2 f3 f4 b4''
 go_wp2_with fail
 go_end0
 exact HF.out
set_option maxHeartbeats 4000000 in
set_option maxRecDepth 100000 in
theorem expr_op5_0 {Wb:World} {B b:Nat} {m:Value} {n:Nat} (ih:ExprC Wb B b m n) (r nm:ByteArray) (d:Int) (x0 x1:Ex) (cs:List Value) (least:Int) (l:List UInt8) (w:World)
  (h:ExAt (n+1) Wb cs (Ex.mk 5 r nm d [x0,x1])) (ho0:OkX n x0) (ho1:OkX n x1) (hl:least=0) (he:OutEnv Wb B b m l w) (hlen:l.length+(pexT (n+1) (Ex.mk 5 r nm d [x0,x1]) least).length≤1000000000) :
  Calls Tryz.prog 28 #[.pointer (some ⟨b,0,none⟩),.agg cs.toArray,.int .i64 least] w (WrP B b m (l ++ pexT (n+1) (Ex.mk 5 r nm d [x0,x1]) least) w):=by
 subst hl
 have hpt:pexT (n+1) (Ex.mk 5 r nm d [x0,x1]) 0=pexT n x0 0 ++ ([32,45,32] ++ pexT n x1 1):=by
  rw [pexT];simp [parT,opO,opS,opN,Ex.kind,prt,Ex.sub]
 rw [hpt] at hlen ⊢
 obtain ⟨t0,ht0⟩:∃ t,t=pexT n x0 0:=⟨_,rfl⟩
 obtain ⟨t1,ht1⟩:∃ t,t=pexT n x1 1:=⟨_,rfl⟩
 rw [← ht0,← ht1] at hlen ⊢
 simp only [List.length_append,List.length_cons,List.length_nil] at hlen
 obtain ⟨a,len,cap,rfl,hlen2,hsub⟩:=h
 obtain rfl:len=2:=hlen2.symm
 rcases hsub with h0 | ⟨g,o,rfl,hg,hel⟩
 ·omega
 have HOP:Hid (∀ W,Calls Tryz.prog 56 #[.int .u8 5] W (fun e w' => e = .returned (.tuple #[.string (ByteArray.mk #[32,45,32]),.int .i64 0,.int .i64 1])∧W=w')):=fun W => oper_any 5 W
 have HI:=Lib.hid ih
 have HE:=Lib.hid hel
 have HG:=Lib.hid hg
 have HO0:=Lib.hid ho0
 have HO1:=Lib.hid ho1
 have HT0:=Lib.hid ht0
 have HT1:=Lib.hid ht1
 have HEN:=Lib.hid he
 have hbw:=he.lt
 clear ih hel hg ho0 ho1 ht0 ht1 hlen2 hpt
 show Calls Tryz.prog 28 #[.pointer (some ⟨b,0,none⟩),.agg #[.int .u8 5,.string r,.string nm,.int .i64 d,.slice (some ⟨g,o,none⟩) 2 cap],.int .i64 0] w _
 go_enter Tryz.func28,Tryz.ntmps28
 go_wp2_with fail
 refine (HOP.out _).mono ?_
 rintro e w' ⟨rfl,rfl⟩
 obtain ⟨W0,hW0⟩:∃ W0,W0=w.alloc (.cells #[.int .u8 5,.string r,.string nm,.int .i64 d,.slice (some ⟨g,o,none⟩) 2 cap] 25):=⟨_,rfl⟩
 have hbx:W0.heap[w.heap.size]? = some (.cells #[.int .u8 5,.string r,.string nm,.int .i64 d,.slice (some ⟨g,o,none⟩) 2 cap] 25):=by rw [hW0];exact alloc_at _ _
 have hE0:OutEnv Wb B b m l W0:=by rw [hW0];exact HEN.out.below (own_below w _)
 have hK0:OutK B b w W0:=by rw [hW0];exact OutK.below (own_below w _) HEN.out.size
 rw [← hW0]
 have HE0:=Lib.hid hE0
 have HBX:=Lib.hid hbx
 have HK0:=Lib.hid hK0
 obtain ⟨p0,l0,c0,⟨e00,e01,e02,e03,e04⟩,hx0⟩:=ExAt.part (k:=0) (x:=Ex.mk 5 r nm d [x0,x1]) HG.out hE0.old (show 0 < 2 by decide) HE.out
 simp only [Nat.zero_mul,Nat.add_zero,Ex.sub,List.getElem_cons_zero] at e00 e01 e02 e03 e04 hx0
 have b4:W0.cell? ⟨w.heap.size,4,none⟩=some (.slice (some ⟨g,o,none⟩) 2 cap):=(exCells hbx).2.2.2.2
 have HC0:=Lib.hid (HI.out x0 _ 0 l W0 hx0 HO0.out (by omega) (by omega) hE0 (by rw [← HT0.out];omega))
 rw [← HT0.out] at HC0
 clear hW0 hbx hE0 hK0 hx0
 go_wp2_with fail
 refine HC0.out.mono ?_
 rintro e W1 ⟨rfl,hio1,hok1⟩
 have hE1:=HE0.out.step hio1 hok1
 have HBX1:=Lib.hid (boxed_kept HBX.out hok1 (by omega))
 have HK1:=Lib.hid (HK0.out.trans hok1)
 have HE1:=Lib.hid hE1
 have HC1:=Lib.hid (put1 B b m (l ++ t0) (ByteArray.mk #[32,45,32]) W1 hio1 (by show (l ++ t0).length+3≤_;rw [List.length_append];omega) hE1.size)
 have b4':W1.cell? ⟨w.heap.size,4,none⟩=some (.slice (some ⟨g,o,none⟩) 2 cap):=(exCells HBX1.out).2.2.2.2
 clear hio1 hok1 hE1 e00 e01 e02 e03 e04 b4
 go_wp2_with fail
 refine HC1.out.mono ?_
 rintro e W2 ⟨rfl,hio2,hok2⟩
 have hE2:=HE1.out.step hio2 hok2
 have HBX2:=Lib.hid (boxed_kept HBX1.out hok2 (by omega))
 have HK2:=Lib.hid (HK1.out.trans hok2)
 obtain ⟨p1,l1,c1,⟨f0,f1,f2,f3,f4⟩,hx1⟩:=ExAt.part (k:=1) (x:=Ex.mk 5 r nm d [x0,x1]) HG.out hE2.old (show 1 < 2 by decide) HE.out
 simp only [Nat.one_mul,Ex.sub,List.getElem_cons_succ,List.getElem_cons_zero] at f0 f1 f2 f3 f4 hx1
 have b4'':W2.cell? ⟨w.heap.size,4,none⟩=some (.slice (some ⟨g,o,none⟩) 2 cap):=(exCells HBX2.out).2.2.2.2
 have HC2:=Lib.hid (HI.out x1 _ 1 _ W2 hx1 HO1.out (by omega) (by omega) hE2 (by rw [← HT1.out];simp only [List.length_append];show l.length+t0.length+3+_≤_;omega))
 rw [← HT1.out] at HC2
 clear hio2 hok2 hE2 hx1 b4'
 go_wp2_with fail
 refine HC2.out.mono ?_
 rintro e W3 ⟨rfl,hio3,hok3⟩
 have HF:Hid (WrP B b m (l ++ (t0 ++ ([32,45,32] ++ t1))) w (.returned (.tuple #[])) W3):=⟨rfl,by simpa [List.append_assoc] using hio3,HK2.out.trans hok3⟩
 clear hio3 hok3 f0 f1 f2 f3 f4 b4''
 go_wp2_with fail
 go_end0
 exact HF.out
set_option maxHeartbeats 4000000 in
set_option maxRecDepth 100000 in
theorem expr_op6_0 {Wb:World} {B b:Nat} {m:Value} {n:Nat} (ih:ExprC Wb B b m n) (r nm:ByteArray) (d:Int) (x0 x1:Ex) (cs:List Value) (least:Int) (l:List UInt8) (w:World)
  (h:ExAt (n+1) Wb cs (Ex.mk 6 r nm d [x0,x1])) (ho0:OkX n x0) (ho1:OkX n x1) (hl:least=0) (he:OutEnv Wb B b m l w) (hlen:l.length+(pexT (n+1) (Ex.mk 6 r nm d [x0,x1]) least).length≤1000000000) :
  Calls Tryz.prog 28 #[.pointer (some ⟨b,0,none⟩),.agg cs.toArray,.int .i64 least] w (WrP B b m (l ++ pexT (n+1) (Ex.mk 6 r nm d [x0,x1]) least) w):=by
 subst hl
 have hpt:pexT (n+1) (Ex.mk 6 r nm d [x0,x1]) 0=pexT n x0 1 ++ ([32,42,32] ++ pexT n x1 2):=by
  rw [pexT];simp [parT,opO,opS,opN,Ex.kind,prt,Ex.sub]
 rw [hpt] at hlen ⊢
 obtain ⟨t0,ht0⟩:∃ t,t=pexT n x0 1:=⟨_,rfl⟩
 obtain ⟨t1,ht1⟩:∃ t,t=pexT n x1 2:=⟨_,rfl⟩
 rw [← ht0,← ht1] at hlen ⊢
 simp only [List.length_append,List.length_cons,List.length_nil] at hlen
 obtain ⟨a,len,cap,rfl,hlen2,hsub⟩:=h
 obtain rfl:len=2:=hlen2.symm
 rcases hsub with h0 | ⟨g,o,rfl,hg,hel⟩
 ·omega
 have HOP:Hid (∀ W,Calls Tryz.prog 56 #[.int .u8 6] W (fun e w' => e = .returned (.tuple #[.string (ByteArray.mk #[32,42,32]),.int .i64 1,.int .i64 2])∧W=w')):=fun W => oper_any 6 W
 have HI:=Lib.hid ih
 have HE:=Lib.hid hel
 have HG:=Lib.hid hg
 have HO0:=Lib.hid ho0
 have HO1:=Lib.hid ho1
 have HT0:=Lib.hid ht0
 have HT1:=Lib.hid ht1
 have HEN:=Lib.hid he
 have hbw:=he.lt
 clear ih hel hg ho0 ho1 ht0 ht1 hlen2 hpt
 show Calls Tryz.prog 28 #[.pointer (some ⟨b,0,none⟩),.agg #[.int .u8 6,.string r,.string nm,.int .i64 d,.slice (some ⟨g,o,none⟩) 2 cap],.int .i64 0] w _
 go_enter Tryz.func28,Tryz.ntmps28
 go_wp2_with fail
 refine (HOP.out _).mono ?_
 rintro e w' ⟨rfl,rfl⟩
 obtain ⟨W0,hW0⟩:∃ W0,W0=w.alloc (.cells #[.int .u8 6,.string r,.string nm,.int .i64 d,.slice (some ⟨g,o,none⟩) 2 cap] 25):=⟨_,rfl⟩
 have hbx:W0.heap[w.heap.size]? = some (.cells #[.int .u8 6,.string r,.string nm,.int .i64 d,.slice (some ⟨g,o,none⟩) 2 cap] 25):=by rw [hW0];exact alloc_at _ _
 have hE0:OutEnv Wb B b m l W0:=by rw [hW0];exact HEN.out.below (own_below w _)
 have hK0:OutK B b w W0:=by rw [hW0];exact OutK.below (own_below w _) HEN.out.size
 rw [← hW0]
 have HE0:=Lib.hid hE0
 have HBX:=Lib.hid hbx
 have HK0:=Lib.hid hK0
 obtain ⟨p0,l0,c0,⟨e00,e01,e02,e03,e04⟩,hx0⟩:=ExAt.part (k:=0) (x:=Ex.mk 6 r nm d [x0,x1]) HG.out hE0.old (show 0 < 2 by decide) HE.out
 simp only [Nat.zero_mul,Nat.add_zero,Ex.sub,List.getElem_cons_zero] at e00 e01 e02 e03 e04 hx0
 have b4:W0.cell? ⟨w.heap.size,4,none⟩=some (.slice (some ⟨g,o,none⟩) 2 cap):=(exCells hbx).2.2.2.2
 have HC0:=Lib.hid (HI.out x0 _ 1 l W0 hx0 HO0.out (by omega) (by omega) hE0 (by rw [← HT0.out];omega))
 rw [← HT0.out] at HC0
 clear hW0 hbx hE0 hK0 hx0
 go_wp2_with fail
 refine HC0.out.mono ?_
 rintro e W1 ⟨rfl,hio1,hok1⟩
 have hE1:=HE0.out.step hio1 hok1
 have HBX1:=Lib.hid (boxed_kept HBX.out hok1 (by omega))
 have HK1:=Lib.hid (HK0.out.trans hok1)
 have HE1:=Lib.hid hE1
 have HC1:=Lib.hid (put1 B b m (l ++ t0) (ByteArray.mk #[32,42,32]) W1 hio1 (by show (l ++ t0).length+3≤_;rw [List.length_append];omega) hE1.size)
 have b4':W1.cell? ⟨w.heap.size,4,none⟩=some (.slice (some ⟨g,o,none⟩) 2 cap):=(exCells HBX1.out).2.2.2.2
 clear hio1 hok1 hE1 e00 e01 e02 e03 e04 b4
 go_wp2_with fail
 refine HC1.out.mono ?_
 rintro e W2 ⟨rfl,hio2,hok2⟩
 have hE2:=HE1.out.step hio2 hok2
 have HBX2:=Lib.hid (boxed_kept HBX1.out hok2 (by omega))
 have HK2:=Lib.hid (HK1.out.trans hok2)
 obtain ⟨p1,l1,c1,⟨f0,f1,f2,f3,f4⟩,hx1⟩:=ExAt.part (k:=1) (x:=Ex.mk 6 r nm d [x0,x1]) HG.out hE2.old (show 1 < 2 by decide) HE.out
 simp only [Nat.one_mul,Ex.sub,List.getElem_cons_succ,List.getElem_cons_zero] at f0 f1 f2 f3 f4 hx1
 have b4'':W2.cell? ⟨w.heap.size,4,none⟩=some (.slice (some ⟨g,o,none⟩) 2 cap):=(exCells HBX2.out).2.2.2.2
 have HC2:=Lib.hid (HI.out x1 _ 2 _ W2 hx1 HO1.out (by omega) (by omega) hE2 (by rw [← HT1.out];simp only [List.length_append];show l.length+t0.length+3+_≤_;omega))
 rw [← HT1.out] at HC2
 clear hio2 hok2 hE2 hx1 b4'
 go_wp2_with fail
 refine HC2.out.mono ?_
 rintro e W3 ⟨rfl,hio3,hok3⟩
 have HF:Hid (WrP B b m (l ++ (t0 ++ ([32,42,32] ++ t1))) w (.returned (.tuple #[])) W3):=⟨rfl,by simpa [List.append_assoc] using hio3,HK2.out.trans hok3⟩
 clear hio3 hok3 f0 f1 f2 f3 f4 b4''
 go_wp2_with fail
 go_end0
 exact HF.out
set_option maxHeartbeats 4000000 in
set_option maxRecDepth 100000 in
theorem expr_op6_1 {Wb:World} {B b:Nat} {m:Value} {n:Nat} (ih:ExprC Wb B b m n) (r nm:ByteArray) (d:Int) (x0 x1:Ex) (cs:List Value) (least:Int) (l:List UInt8) (w:World)
  (h:ExAt (n+1) Wb cs (Ex.mk 6 r nm d [x0,x1])) (ho0:OkX n x0) (ho1:OkX n x1) (hl:least=1) (he:OutEnv Wb B b m l w) (hlen:l.length+(pexT (n+1) (Ex.mk 6 r nm d [x0,x1]) least).length≤1000000000) :
  Calls Tryz.prog 28 #[.pointer (some ⟨b,0,none⟩),.agg cs.toArray,.int .i64 least] w (WrP B b m (l ++ pexT (n+1) (Ex.mk 6 r nm d [x0,x1]) least) w):=by
 subst hl
 have hpt:pexT (n+1) (Ex.mk 6 r nm d [x0,x1]) 1=pexT n x0 1 ++ ([32,42,32] ++ pexT n x1 2):=by
  rw [pexT];simp [parT,opO,opS,opN,Ex.kind,prt,Ex.sub]
 rw [hpt] at hlen ⊢
 obtain ⟨t0,ht0⟩:∃ t,t=pexT n x0 1:=⟨_,rfl⟩
 obtain ⟨t1,ht1⟩:∃ t,t=pexT n x1 2:=⟨_,rfl⟩
 rw [← ht0,← ht1] at hlen ⊢
 simp only [List.length_append,List.length_cons,List.length_nil] at hlen
 obtain ⟨a,len,cap,rfl,hlen2,hsub⟩:=h
 obtain rfl:len=2:=hlen2.symm
 rcases hsub with h0 | ⟨g,o,rfl,hg,hel⟩
 ·omega
 have HOP:Hid (∀ W,Calls Tryz.prog 56 #[.int .u8 6] W (fun e w' => e = .returned (.tuple #[.string (ByteArray.mk #[32,42,32]),.int .i64 1,.int .i64 2])∧W=w')):=fun W => oper_any 6 W
 have HI:=Lib.hid ih
 have HE:=Lib.hid hel
 have HG:=Lib.hid hg
 have HO0:=Lib.hid ho0
 have HO1:=Lib.hid ho1
 have HT0:=Lib.hid ht0
 have HT1:=Lib.hid ht1
 have HEN:=Lib.hid he
 have hbw:=he.lt
 clear ih hel hg ho0 ho1 ht0 ht1 hlen2 hpt
 show Calls Tryz.prog 28 #[.pointer (some ⟨b,0,none⟩),.agg #[.int .u8 6,.string r,.string nm,.int .i64 d,.slice (some ⟨g,o,none⟩) 2 cap],.int .i64 1] w _
 go_enter Tryz.func28,Tryz.ntmps28
 go_wp2_with fail
 refine (HOP.out _).mono ?_
 rintro e w' ⟨rfl,rfl⟩
 obtain ⟨W0,hW0⟩:∃ W0,W0=w.alloc (.cells #[.int .u8 6,.string r,.string nm,.int .i64 d,.slice (some ⟨g,o,none⟩) 2 cap] 25):=⟨_,rfl⟩
 have hbx:W0.heap[w.heap.size]? = some (.cells #[.int .u8 6,.string r,.string nm,.int .i64 d,.slice (some ⟨g,o,none⟩) 2 cap] 25):=by rw [hW0];exact alloc_at _ _
 have hE0:OutEnv Wb B b m l W0:=by rw [hW0];exact HEN.out.below (own_below w _)
 have hK0:OutK B b w W0:=by rw [hW0];exact OutK.below (own_below w _) HEN.out.size
 rw [← hW0]
 have HE0:=Lib.hid hE0
 have HBX:=Lib.hid hbx
 have HK0:=Lib.hid hK0
 obtain ⟨p0,l0,c0,⟨e00,e01,e02,e03,e04⟩,hx0⟩:=ExAt.part (k:=0) (x:=Ex.mk 6 r nm d [x0,x1]) HG.out hE0.old (show 0 < 2 by decide) HE.out
 simp only [Nat.zero_mul,Nat.add_zero,Ex.sub,List.getElem_cons_zero] at e00 e01 e02 e03 e04 hx0
 have b4:W0.cell? ⟨w.heap.size,4,none⟩=some (.slice (some ⟨g,o,none⟩) 2 cap):=(exCells hbx).2.2.2.2
 have HC0:=Lib.hid (HI.out x0 _ 1 l W0 hx0 HO0.out (by omega) (by omega) hE0 (by rw [← HT0.out];omega))
 rw [← HT0.out] at HC0
 clear hW0 hbx hE0 hK0 hx0
 go_wp2_with fail
 refine HC0.out.mono ?_
 rintro e W1 ⟨rfl,hio1,hok1⟩
 have hE1:=HE0.out.step hio1 hok1
 have HBX1:=Lib.hid (boxed_kept HBX.out hok1 (by omega))
 have HK1:=Lib.hid (HK0.out.trans hok1)
 have HE1:=Lib.hid hE1
 have HC1:=Lib.hid (put1 B b m (l ++ t0) (ByteArray.mk #[32,42,32]) W1 hio1 (by show (l ++ t0).length+3≤_;rw [List.length_append];omega) hE1.size)
 have b4':W1.cell? ⟨w.heap.size,4,none⟩=some (.slice (some ⟨g,o,none⟩) 2 cap):=(exCells HBX1.out).2.2.2.2
 clear hio1 hok1 hE1 e00 e01 e02 e03 e04 b4
 go_wp2_with fail
 refine HC1.out.mono ?_
 rintro e W2 ⟨rfl,hio2,hok2⟩
 have hE2:=HE1.out.step hio2 hok2
 have HBX2:=Lib.hid (boxed_kept HBX1.out hok2 (by omega))
 have HK2:=Lib.hid (HK1.out.trans hok2)
 obtain ⟨p1,l1,c1,⟨f0,f1,f2,f3,f4⟩,hx1⟩:=ExAt.part (k:=1) (x:=Ex.mk 6 r nm d [x0,x1]) HG.out hE2.old (show 1 < 2 by decide) HE.out
 simp only [Nat.one_mul,Ex.sub,List.getElem_cons_succ,List.getElem_cons_zero] at f0 f1 f2 f3 f4 hx1
 have b4'':W2.cell? ⟨w.heap.size,4,none⟩=some (.slice (some ⟨g,o,none⟩) 2 cap):=(exCells HBX2.out).2.2.2.2
 have HC2:=Lib.hid (HI.out x1 _ 2 _ W2 hx1 HO1.out (by omega) (by omega) hE2 (by rw [← HT1.out];simp only [List.length_append];show l.length+t0.length+3+_≤_;omega))
 rw [← HT1.out] at HC2
 clear hio2 hok2 hE2 hx1 b4'
 go_wp2_with fail
 refine HC2.out.mono ?_
 rintro e W3 ⟨rfl,hio3,hok3⟩
 have HF:Hid (WrP B b m (l ++ (t0 ++ ([32,42,32] ++ t1))) w (.returned (.tuple #[])) W3):=⟨rfl,by simpa [List.append_assoc] using hio3,HK2.out.trans hok3⟩
 clear hio3 hok3 f0 f1 f2 f3 f4 b4''
 go_wp2_with fail
 go_end0
 exact HF.out
end Go.Proofs.YtijkefflpojmhaaGreatDoor

namespace Go.Proofs.YtijkefflpojmhaaGreatDoor
open Go.RowKit
set_option maxHeartbeats 2000000 in
set_option maxRecDepth 100000 in
theorem put_anyD (B b g:Nat) (m:Value) (l:List UInt8) (ss:List ByteArray) (u:FrameMode) (w:World) (n:Nat) (h:IsOut B b m l w) (hg:w.heap[g]? = some (.cells (ss.map Value.string).toArray 9 (0,0))) (hn:ss.length=n) (hn1:n≤1000) (hlen:l.length+(catB ss).length≤140737488355328) (hBw:B≤w.heap.size) :
  CallsD Tryz.prog 25 #[.pointer (some ⟨b,0,none⟩),.slice (some ⟨g,0,none⟩) n n] u w (fun e u' w' => u' = u∧WrP B b m (l ++ catB ss) w e w'):=by
 have hgb:g ≠ b:=by
  rintro rfl
  obtain ⟨p,_,v,hb,_⟩:=h.at
  rw [hg] at hb
  simp at hb
 have HG:=Lib.hid hg
 have HO:=Lib.hid h
 have HN:=Lib.hid hn
 clear hg h hn
 go_enter_d Tryz.func25,Tryz.ntmps25
 go_wp2_with fail
 go_loopw [5,8] (fun _ iv wr => ∃ k:Nat,k≤n∧iv = .int .i64 (k:Int)∧IsOut B b m (l ++ catB (ss.take k)) wr∧OutK B b w wr) (fun _ iv _ => n - (intOf iv).toNat)
 case atStart => exact ⟨0,Nat.zero_le _,rfl,by simpa [catB] using HO.out,OutK.refl _ _ _⟩
 case round =>
  obtain ⟨w1,rfl⟩:∃ w1:World,w1=wr:=⟨_,rfl⟩
  obtain ⟨k,hk,rfl,hio,hok⟩:=hrel
  have hB1:B≤w1.heap.size:=Nat.le_trans hBw hok.1.size
  have HIO:=Lib.hid hio
  have HOK:=Lib.hid hok
  have hg1:w1.heap[g]? = some (.cells (ss.map Value.string).toArray 9 (0,0)):=hok.2 g _ HG.out (by simpa using hgb) (by intro c fz e;simp at e)
  have hlt1:b < w1.heap.size:=by obtain ⟨p,hp⟩:=hio.at;exact hp.lt
  clear hio hok
  by_cases hlt:k < n
  ·have hlt2:k < ss.length:=by rw [HN.out];exact hlt
   obtain ⟨s,hs⟩:∃ s,s=ss[k]:=⟨_,rfl⟩
   have c0:w1.cell? ⟨g,k,none⟩=some (.string s):=by rw [Lib.cell_of_heap hg1,hs];simp [hlt2]
   have HT:Hid (catB (ss.take (k+1))=catB (ss.take k) ++ s.data.toList):=by rw [hs];exact catB_take ss k hlt2
   have HC:=Lib.hid (bwrite_any B b m (l ++ catB (ss.take k)) s w1 HIO.out (by
    have q1:=catB_le ss (k+1)
    have q2:=HT.out
    have q3:s.data.toList.length=s.size:=by simp
    rw [q2,List.length_append,q3] at q1
    rw [List.length_append];omega) hB1)
   clear hg1 hs
   go_wp2_with fail
   refine HC.out.mono ?_
   rintro e w2 ⟨rfl,hio2,hok2⟩
   have HIO2:=Lib.hid hio2
   have HOK2:=Lib.hid (HOK.out.trans hok2)
   clear hio2 hok2
   go_wp2_with fail
   go_roundw
   case rel => exact ⟨k+1,by omega,by go_num,by rw [HT.out,← List.append_assoc];exact HIO2.out,HOK2.out⟩
   case measure => simp [intOf] <;> omega
  ·have HE:Hid (ss.take k=ss):=Lib.hid (List.take_of_length_le (by rw [HN.out];omega))
   clear hg1
   go_wp2_with fail
   go_end0
   exact ⟨rfl,by rw [← HE.out];exact HIO.out,HOK.out⟩
set_option maxHeartbeats 4000000 in
set_option maxRecDepth 100000 in
theorem expr_par4_1 {Wb:World} {B b:Nat} {m:Value} {n:Nat} (ih:ExprC Wb B b m n) (r nm:ByteArray) (d:Int) (x0 x1:Ex) (cs:List Value) (least:Int) (l:List UInt8) (w:World)
  (h:ExAt (n+1) Wb cs (Ex.mk 4 r nm d [x0,x1])) (ho0:OkX n x0) (ho1:OkX n x1) (hl:least=1) (he:OutEnv Wb B b m l w) (hlen:l.length+(pexT (n+1) (Ex.mk 4 r nm d [x0,x1]) least).length≤1000000000) :
  Calls Tryz.prog 28 #[.pointer (some ⟨b,0,none⟩),.agg cs.toArray,.int .i64 least] w (WrP B b m (l ++ pexT (n+1) (Ex.mk 4 r nm d [x0,x1]) least) w):=by
 subst hl
 have hpt:pexT (n+1) (Ex.mk 4 r nm d [x0,x1]) 1=[40] ++ (pexT n x0 0 ++ ([32,43,32] ++ (pexT n x1 1 ++ [41]))):=by
  rw [pexT];simp [parT,opO,opS,opN,Ex.kind,prt,Ex.sub]
 rw [hpt] at hlen ⊢
 obtain ⟨t0,ht0⟩:∃ t,t=pexT n x0 0:=⟨_,rfl⟩
 obtain ⟨t1,ht1⟩:∃ t,t=pexT n x1 1:=⟨_,rfl⟩
 rw [← ht0,← ht1] at hlen ⊢
 simp only [List.length_append,List.length_cons,List.length_nil] at hlen
 obtain ⟨a,len,cap,rfl,hlen2,hsub⟩:=h
 obtain rfl:len=2:=hlen2.symm
 rcases hsub with h0 | ⟨g,o,rfl,hg,hel⟩
 ·omega
 have HOP:Hid (∀ W,Calls Tryz.prog 56 #[.int .u8 4] W (fun e w' => e = .returned (.tuple #[.string (ByteArray.mk #[32,43,32]),.int .i64 0,.int .i64 1])∧W=w')):=fun W => oper_any 4 W
 have HI:=Lib.hid ih
 have HE:=Lib.hid hel
 have HG:=Lib.hid hg
 have HO0:=Lib.hid ho0
 have HO1:=Lib.hid ho1
 have HT0:=Lib.hid ht0
 have HT1:=Lib.hid ht1
 have HEN:=Lib.hid he
 have hbw:=he.lt
 clear ih hel hg ho0 ho1 ht0 ht1 hlen2 hpt
 show Calls Tryz.prog 28 #[.pointer (some ⟨b,0,none⟩),.agg #[.int .u8 4,.string r,.string nm,.int .i64 d,.slice (some ⟨g,o,none⟩) 2 cap],.int .i64 1] w _
 go_enter_defers Tryz.func28,Tryz.ntmps28
 go_wp2_with fail
 refine (HOP.out _).mono ?_
 rintro e w' ⟨rfl,rfl⟩
 obtain ⟨W0,hW0⟩:∃ W0,W0=w.alloc (.cells #[.int .u8 4,.string r,.string nm,.int .i64 d,.slice (some ⟨g,o,none⟩) 2 cap] 25):=⟨_,rfl⟩
 have hbx:W0.heap[w.heap.size]? = some (.cells #[.int .u8 4,.string r,.string nm,.int .i64 d,.slice (some ⟨g,o,none⟩) 2 cap] 25):=by rw [hW0];exact alloc_at _ _
 have hE0:OutEnv Wb B b m l W0:=by rw [hW0];exact HEN.out.below (own_below w _)
 have hK0:OutK B b w W0:=by rw [hW0];exact OutK.below (own_below w _) HEN.out.size
 rw [← hW0]
 have HE0:=Lib.hid hE0
 have HBX:=Lib.hid hbx
 have HK0:=Lib.hid hK0
 have HCP:=Lib.hid (put1 B b m l (ByteArray.mk #[40]) W0 hE0.out (by show l.length+1≤_;omega) hE0.size)
 clear hW0 hbx hE0 hK0
 go_wp2_with fail
 refine HCP.out.mono ?_
 rintro e V1 ⟨rfl,hioP,hokP⟩
 obtain ⟨V0,hV0⟩:∃ V0,V0=V1.alloc (.cells #[.string (ByteArray.mk #[41])] 9):=⟨_,rfl⟩
 have hEP:=HE0.out.step hioP hokP
 have hEV:OutEnv Wb B b m (l ++ [40]) V0:=by rw [hV0];exact hEP.below (own_below V1 _)
 have hbv:V0.heap[V1.heap.size]? = some (.cells #[.string (ByteArray.mk #[41])] 9 (0,0)):=by rw [hV0];exact alloc_at _ _
 have hbxP:=boxed_kept HBX.out hokP (by omega)
 have hbx:V0.heap[w.heap.size]? = some (.cells #[.int .u8 4,.string r,.string nm,.int .i64 d,.slice (some ⟨g,o,none⟩) 2 cap] 25):=by rw [hV0];exact (Below.heap_alloc V1 _ _ (Array.getElem?_eq_some_iff.1 hbxP).1).trans hbxP
 have hKV:OutK B b w V0:=by rw [hV0];exact (HK0.out.trans hokP).alloc hEP.size _
 have HBV:=Lib.hid hbv
 have HEV:=Lib.hid hEV
 have HBXV:=Lib.hid hbx
 have HKV:=Lib.hid hKV
 have hvb:V1.heap.size ≠ b:=by have:=hEP.lt;omega
 have z1:w.heap.size < V1.heap.size:=(Array.getElem?_eq_some_iff.1 hbxP).1
 have z2:g < V1.heap.size:=Nat.lt_of_lt_of_le HG.out hEP.old.size
 have hE0:=hEP
 obtain ⟨p0,l0,c0,⟨e00,e01,e02,e03,e04⟩,hx0⟩:=ExAt.part (k:=0) (x:=Ex.mk 4 r nm d [x0,x1]) HG.out hE0.old (show 0 < 2 by decide) HE.out
 simp only [Nat.zero_mul,Nat.add_zero,Ex.sub,List.getElem_cons_zero] at e00 e01 e02 e03 e04 hx0
 have b4:V1.cell? ⟨w.heap.size,4,none⟩=some (.slice (some ⟨g,o,none⟩) 2 cap):=(exCells hbxP).2.2.2.2
 have HC0:=Lib.hid (HI.out x0 _ 0 (l ++ [40]) V0 hx0 HO0.out (by omega) (by omega) hEV (by rw [← HT0.out];simp only [List.length_append,List.length_cons,List.length_nil];omega))
 rw [← HT0.out] at HC0
 clear hbx hE0 hKV hx0 hbxP hEP hEV hbv hioP hokP
 subst hV0
 go_wp2_with fail
 refine HC0.out.mono ?_
 rintro e W1 ⟨rfl,hio1,hok1⟩
 have hE1:=HEV.out.step hio1 hok1
 have HBX1:=Lib.hid (boxed_kept HBXV.out hok1 (by omega))
 have HK1:=Lib.hid (HKV.out.trans hok1)
 have HE1:=Lib.hid hE1
 have HOK1:=Lib.hid hok1
 have HC1:=Lib.hid (put1 B b m (l ++ [40] ++ t0) (ByteArray.mk #[32,43,32]) W1 hio1 (by show (l ++ [40] ++ t0).length+3≤_;simp only [List.length_append,List.length_cons,List.length_nil];omega) hE1.size)
 have b4':W1.cell? ⟨w.heap.size,4,none⟩=some (.slice (some ⟨g,o,none⟩) 2 cap):=(exCells HBX1.out).2.2.2.2
 clear hio1 hok1 hE1 e00 e01 e02 e03 e04 b4
 go_wp2_with fail
 refine HC1.out.mono ?_
 rintro e W2 ⟨rfl,hio2,hok2⟩
 have hE2:=HE1.out.step hio2 hok2
 have HE2:=Lib.hid hE2
 have HOV:=Lib.hid (HOK1.out.trans hok2)
 have HBX2:=Lib.hid (boxed_kept HBX1.out hok2 (by omega))
 have HK2:=Lib.hid (HK1.out.trans hok2)
 obtain ⟨p1,l1,c1,⟨f0,f1,f2,f3,f4⟩,hx1⟩:=ExAt.part (k:=1) (x:=Ex.mk 4 r nm d [x0,x1]) HG.out hE2.old (show 1 < 2 by decide) HE.out
 simp only [Nat.one_mul,Ex.sub,List.getElem_cons_succ,List.getElem_cons_zero] at f0 f1 f2 f3 f4 hx1
 have b4'':W2.cell? ⟨w.heap.size,4,none⟩=some (.slice (some ⟨g,o,none⟩) 2 cap):=(exCells HBX2.out).2.2.2.2
 have HC2:=Lib.hid (HI.out x1 _ 1 _ W2 hx1 HO1.out (by omega) (by omega) hE2 (by rw [← HT1.out];simp only [List.length_append];show l.length+1+t0.length+3+_≤_;omega))
 rw [← HT1.out] at HC2
 clear hio2 hok2 hE2 hx1 b4'
 go_wp2_with fail
 refine HC2.out.mono ?_
 rintro e W3 ⟨rfl,hio3,hok3⟩
 have HBV3:=HOV.out.2 _ _ (HBV.out) (by simpa using hvb) (by intro c fz e;simp at e)
 have HE3:=Lib.hid (HE2.out.step hio3 hok3)
 have HK3:=Lib.hid (HK2.out.trans hok3)
 have HBV4:=Lib.hid (hok3.2 _ _ HBV3 (by simpa using hvb) (by intro c fz e;simp at e))
 clear hio3 hok3 f0 f1 f2 f3 f4 b4'' HBV3
 go_wp2_with fail
 refine leaves_cons (f:=25) (args := #[.pointer (some ⟨b,0,none⟩),.slice (some ⟨V1.heap.size,0,none⟩) 1 1]) (by simp) (by simp [go_sem]) ?_
 refine (put_anyD B b _ m _ [ByteArray.mk #[41]] .returning W3 1 HE3.out.out HBV4.out rfl (by omega) (by simp only [List.length_append,List.length_cons,List.length_nil];show l.length+(0+1)+t0.length+3+t1.length+1≤_;omega) HE3.out.size).mono ?_
 rintro e u' w'' ⟨rfl,rfl,hio4,hok4⟩
 exact ⟨_,results_none rfl _ _ _,rfl,by simpa [catB,List.append_assoc] using hio4,HK3.out.trans hok4⟩
set_option maxHeartbeats 4000000 in
set_option maxRecDepth 100000 in
theorem expr_par4_2 {Wb:World} {B b:Nat} {m:Value} {n:Nat} (ih:ExprC Wb B b m n) (r nm:ByteArray) (d:Int) (x0 x1:Ex) (cs:List Value) (least:Int) (l:List UInt8) (w:World)
  (h:ExAt (n+1) Wb cs (Ex.mk 4 r nm d [x0,x1])) (ho0:OkX n x0) (ho1:OkX n x1) (hl:least=2) (he:OutEnv Wb B b m l w) (hlen:l.length+(pexT (n+1) (Ex.mk 4 r nm d [x0,x1]) least).length≤1000000000) :
  Calls Tryz.prog 28 #[.pointer (some ⟨b,0,none⟩),.agg cs.toArray,.int .i64 least] w (WrP B b m (l ++ pexT (n+1) (Ex.mk 4 r nm d [x0,x1]) least) w):=by
 subst hl
 have hpt:pexT (n+1) (Ex.mk 4 r nm d [x0,x1]) 2=[40] ++ (pexT n x0 0 ++ ([32,43,32] ++ (pexT n x1 1 ++ [41]))):=by
  rw [pexT];simp [parT,opO,opS,opN,Ex.kind,prt,Ex.sub]
 rw [hpt] at hlen ⊢
 obtain ⟨t0,ht0⟩:∃ t,t=pexT n x0 0:=⟨_,rfl⟩
 obtain ⟨t1,ht1⟩:∃ t,t=pexT n x1 1:=⟨_,rfl⟩
 rw [← ht0,← ht1] at hlen ⊢
 simp only [List.length_append,List.length_cons,List.length_nil] at hlen
 obtain ⟨a,len,cap,rfl,hlen2,hsub⟩:=h
 obtain rfl:len=2:=hlen2.symm
 rcases hsub with h0 | ⟨g,o,rfl,hg,hel⟩
 ·omega
 have HOP:Hid (∀ W,Calls Tryz.prog 56 #[.int .u8 4] W (fun e w' => e = .returned (.tuple #[.string (ByteArray.mk #[32,43,32]),.int .i64 0,.int .i64 1])∧W=w')):=fun W => oper_any 4 W
 have HI:=Lib.hid ih
 have HE:=Lib.hid hel
 have HG:=Lib.hid hg
 have HO0:=Lib.hid ho0
 have HO1:=Lib.hid ho1
 have HT0:=Lib.hid ht0
 have HT1:=Lib.hid ht1
 have HEN:=Lib.hid he
 have hbw:=he.lt
 clear ih hel hg ho0 ho1 ht0 ht1 hlen2 hpt
 show Calls Tryz.prog 28 #[.pointer (some ⟨b,0,none⟩),.agg #[.int .u8 4,.string r,.string nm,.int .i64 d,.slice (some ⟨g,o,none⟩) 2 cap],.int .i64 2] w _
 go_enter_defers Tryz.func28,Tryz.ntmps28
 go_wp2_with fail
 refine (HOP.out _).mono ?_
 rintro e w' ⟨rfl,rfl⟩
 obtain ⟨W0,hW0⟩:∃ W0,W0=w.alloc (.cells #[.int .u8 4,.string r,.string nm,.int .i64 d,.slice (some ⟨g,o,none⟩) 2 cap] 25):=⟨_,rfl⟩
 have hbx:W0.heap[w.heap.size]? = some (.cells #[.int .u8 4,.string r,.string nm,.int .i64 d,.slice (some ⟨g,o,none⟩) 2 cap] 25):=by rw [hW0];exact alloc_at _ _
 have hE0:OutEnv Wb B b m l W0:=by rw [hW0];exact HEN.out.below (own_below w _)
 have hK0:OutK B b w W0:=by rw [hW0];exact OutK.below (own_below w _) HEN.out.size
 rw [← hW0]
 have HE0:=Lib.hid hE0
 have HBX:=Lib.hid hbx
 have HK0:=Lib.hid hK0
 have HCP:=Lib.hid (put1 B b m l (ByteArray.mk #[40]) W0 hE0.out (by show l.length+1≤_;omega) hE0.size)
 clear hW0 hbx hE0 hK0
 go_wp2_with fail
 refine HCP.out.mono ?_
 rintro e V1 ⟨rfl,hioP,hokP⟩
 obtain ⟨V0,hV0⟩:∃ V0,V0=V1.alloc (.cells #[.string (ByteArray.mk #[41])] 9):=⟨_,rfl⟩
 have hEP:=HE0.out.step hioP hokP
 have hEV:OutEnv Wb B b m (l ++ [40]) V0:=by rw [hV0];exact hEP.below (own_below V1 _)
 have hbv:V0.heap[V1.heap.size]? = some (.cells #[.string (ByteArray.mk #[41])] 9 (0,0)):=by rw [hV0];exact alloc_at _ _
 have hbxP:=boxed_kept HBX.out hokP (by omega)
 have hbx:V0.heap[w.heap.size]? = some (.cells #[.int .u8 4,.string r,.string nm,.int .i64 d,.slice (some ⟨g,o,none⟩) 2 cap] 25):=by rw [hV0];exact (Below.heap_alloc V1 _ _ (Array.getElem?_eq_some_iff.1 hbxP).1).trans hbxP
 have hKV:OutK B b w V0:=by rw [hV0];exact (HK0.out.trans hokP).alloc hEP.size _
 have HBV:=Lib.hid hbv
 have HEV:=Lib.hid hEV
 have HBXV:=Lib.hid hbx
 have HKV:=Lib.hid hKV
 have hvb:V1.heap.size ≠ b:=by have:=hEP.lt;omega
 have z1:w.heap.size < V1.heap.size:=(Array.getElem?_eq_some_iff.1 hbxP).1
 have z2:g < V1.heap.size:=Nat.lt_of_lt_of_le HG.out hEP.old.size
 have hE0:=hEP
 obtain ⟨p0,l0,c0,⟨e00,e01,e02,e03,e04⟩,hx0⟩:=ExAt.part (k:=0) (x:=Ex.mk 4 r nm d [x0,x1]) HG.out hE0.old (show 0 < 2 by decide) HE.out
 simp only [Nat.zero_mul,Nat.add_zero,Ex.sub,List.getElem_cons_zero] at e00 e01 e02 e03 e04 hx0
 have b4:V1.cell? ⟨w.heap.size,4,none⟩=some (.slice (some ⟨g,o,none⟩) 2 cap):=(exCells hbxP).2.2.2.2
 have HC0:=Lib.hid (HI.out x0 _ 0 (l ++ [40]) V0 hx0 HO0.out (by omega) (by omega) hEV (by rw [← HT0.out];simp only [List.length_append,List.length_cons,List.length_nil];omega))
 rw [← HT0.out] at HC0
 clear hbx hE0 hKV hx0 hbxP hEP hEV hbv hioP hokP
 subst hV0
 go_wp2_with fail
 refine HC0.out.mono ?_
 rintro e W1 ⟨rfl,hio1,hok1⟩
 have hE1:=HEV.out.step hio1 hok1
 have HBX1:=Lib.hid (boxed_kept HBXV.out hok1 (by omega))
 have HK1:=Lib.hid (HKV.out.trans hok1)
 have HE1:=Lib.hid hE1
 have HOK1:=Lib.hid hok1
 have HC1:=Lib.hid (put1 B b m (l ++ [40] ++ t0) (ByteArray.mk #[32,43,32]) W1 hio1 (by show (l ++ [40] ++ t0).length+3≤_;simp only [List.length_append,List.length_cons,List.length_nil];omega) hE1.size)
 have b4':W1.cell? ⟨w.heap.size,4,none⟩=some (.slice (some ⟨g,o,none⟩) 2 cap):=(exCells HBX1.out).2.2.2.2
 clear hio1 hok1 hE1 e00 e01 e02 e03 e04 b4
 go_wp2_with fail
 refine HC1.out.mono ?_
 rintro e W2 ⟨rfl,hio2,hok2⟩
 have hE2:=HE1.out.step hio2 hok2
 have HE2:=Lib.hid hE2
 have HOV:=Lib.hid (HOK1.out.trans hok2)
 have HBX2:=Lib.hid (boxed_kept HBX1.out hok2 (by omega))
 have HK2:=Lib.hid (HK1.out.trans hok2)
 obtain ⟨p1,l1,c1,⟨f0,f1,f2,f3,f4⟩,hx1⟩:=ExAt.part (k:=1) (x:=Ex.mk 4 r nm d [x0,x1]) HG.out hE2.old (show 1 < 2 by decide) HE.out
 simp only [Nat.one_mul,Ex.sub,List.getElem_cons_succ,List.getElem_cons_zero] at f0 f1 f2 f3 f4 hx1
 have b4'':W2.cell? ⟨w.heap.size,4,none⟩=some (.slice (some ⟨g,o,none⟩) 2 cap):=(exCells HBX2.out).2.2.2.2
 have HC2:=Lib.hid (HI.out x1 _ 1 _ W2 hx1 HO1.out (by omega) (by omega) hE2 (by rw [← HT1.out];simp only [List.length_append];show l.length+1+t0.length+3+_≤_;omega))
 rw [← HT1.out] at HC2
 clear hio2 hok2 hE2 hx1 b4'
 go_wp2_with fail
 refine HC2.out.mono ?_
 rintro e W3 ⟨rfl,hio3,hok3⟩
 have HBV3:=HOV.out.2 _ _ (HBV.out) (by simpa using hvb) (by intro c fz e;simp at e)
 have HE3:=Lib.hid (HE2.out.step hio3 hok3)
 have HK3:=Lib.hid (HK2.out.trans hok3)
 have HBV4:=Lib.hid (hok3.2 _ _ HBV3 (by simpa using hvb) (by intro c fz e;simp at e))
 clear hio3 hok3 f0 f1 f2 f3 f4 b4'' HBV3
 go_wp2_with fail
 refine leaves_cons (f:=25) (args := #[.pointer (some ⟨b,0,none⟩),.slice (some ⟨V1.heap.size,0,none⟩) 1 1]) (by simp) (by simp [go_sem]) ?_
 refine (put_anyD B b _ m _ [ByteArray.mk #[41]] .returning W3 1 HE3.out.out HBV4.out rfl (by omega) (by simp only [List.length_append,List.length_cons,List.length_nil];show l.length+(0+1)+t0.length+3+t1.length+1≤_;omega) HE3.out.size).mono ?_
 rintro e u' w'' ⟨rfl,rfl,hio4,hok4⟩
 exact ⟨_,results_none rfl _ _ _,rfl,by simpa [catB,List.append_assoc] using hio4,HK3.out.trans hok4⟩
set_option maxHeartbeats 4000000 in
set_option maxRecDepth 100000 in
theorem expr_par5_1 {Wb:World} {B b:Nat} {m:Value} {n:Nat} (ih:ExprC Wb B b m n) (r nm:ByteArray) (d:Int) (x0 x1:Ex) (cs:List Value) (least:Int) (l:List UInt8) (w:World)
  (h:ExAt (n+1) Wb cs (Ex.mk 5 r nm d [x0,x1])) (ho0:OkX n x0) (ho1:OkX n x1) (hl:least=1) (he:OutEnv Wb B b m l w) (hlen:l.length+(pexT (n+1) (Ex.mk 5 r nm d [x0,x1]) least).length≤1000000000) :
  Calls Tryz.prog 28 #[.pointer (some ⟨b,0,none⟩),.agg cs.toArray,.int .i64 least] w (WrP B b m (l ++ pexT (n+1) (Ex.mk 5 r nm d [x0,x1]) least) w):=by
 subst hl
 have hpt:pexT (n+1) (Ex.mk 5 r nm d [x0,x1]) 1=[40] ++ (pexT n x0 0 ++ ([32,45,32] ++ (pexT n x1 1 ++ [41]))):=by
  rw [pexT];simp [parT,opO,opS,opN,Ex.kind,prt,Ex.sub]
 rw [hpt] at hlen ⊢
 obtain ⟨t0,ht0⟩:∃ t,t=pexT n x0 0:=⟨_,rfl⟩
 obtain ⟨t1,ht1⟩:∃ t,t=pexT n x1 1:=⟨_,rfl⟩
 rw [← ht0,← ht1] at hlen ⊢
 simp only [List.length_append,List.length_cons,List.length_nil] at hlen
 obtain ⟨a,len,cap,rfl,hlen2,hsub⟩:=h
 obtain rfl:len=2:=hlen2.symm
 rcases hsub with h0 | ⟨g,o,rfl,hg,hel⟩
 ·omega
 have HOP:Hid (∀ W,Calls Tryz.prog 56 #[.int .u8 5] W (fun e w' => e = .returned (.tuple #[.string (ByteArray.mk #[32,45,32]),.int .i64 0,.int .i64 1])∧W=w')):=fun W => oper_any 5 W
 have HI:=Lib.hid ih
 have HE:=Lib.hid hel
 have HG:=Lib.hid hg
 have HO0:=Lib.hid ho0
 have HO1:=Lib.hid ho1
 have HT0:=Lib.hid ht0
 have HT1:=Lib.hid ht1
 have HEN:=Lib.hid he
 have hbw:=he.lt
 clear ih hel hg ho0 ho1 ht0 ht1 hlen2 hpt
 show Calls Tryz.prog 28 #[.pointer (some ⟨b,0,none⟩),.agg #[.int .u8 5,.string r,.string nm,.int .i64 d,.slice (some ⟨g,o,none⟩) 2 cap],.int .i64 1] w _
 go_enter_defers Tryz.func28,Tryz.ntmps28
 go_wp2_with fail
 refine (HOP.out _).mono ?_
 rintro e w' ⟨rfl,rfl⟩
 obtain ⟨W0,hW0⟩:∃ W0,W0=w.alloc (.cells #[.int .u8 5,.string r,.string nm,.int .i64 d,.slice (some ⟨g,o,none⟩) 2 cap] 25):=⟨_,rfl⟩
 have hbx:W0.heap[w.heap.size]? = some (.cells #[.int .u8 5,.string r,.string nm,.int .i64 d,.slice (some ⟨g,o,none⟩) 2 cap] 25):=by rw [hW0];exact alloc_at _ _
 have hE0:OutEnv Wb B b m l W0:=by rw [hW0];exact HEN.out.below (own_below w _)
 have hK0:OutK B b w W0:=by rw [hW0];exact OutK.below (own_below w _) HEN.out.size
 rw [← hW0]
 have HE0:=Lib.hid hE0
 have HBX:=Lib.hid hbx
 have HK0:=Lib.hid hK0
 have HCP:=Lib.hid (put1 B b m l (ByteArray.mk #[40]) W0 hE0.out (by show l.length+1≤_;omega) hE0.size)
 clear hW0 hbx hE0 hK0
 go_wp2_with fail
 refine HCP.out.mono ?_
 rintro e V1 ⟨rfl,hioP,hokP⟩
 obtain ⟨V0,hV0⟩:∃ V0,V0=V1.alloc (.cells #[.string (ByteArray.mk #[41])] 9):=⟨_,rfl⟩
 have hEP:=HE0.out.step hioP hokP
 have hEV:OutEnv Wb B b m (l ++ [40]) V0:=by rw [hV0];exact hEP.below (own_below V1 _)
 have hbv:V0.heap[V1.heap.size]? = some (.cells #[.string (ByteArray.mk #[41])] 9 (0,0)):=by rw [hV0];exact alloc_at _ _
 have hbxP:=boxed_kept HBX.out hokP (by omega)
 have hbx:V0.heap[w.heap.size]? = some (.cells #[.int .u8 5,.string r,.string nm,.int .i64 d,.slice (some ⟨g,o,none⟩) 2 cap] 25):=by rw [hV0];exact (Below.heap_alloc V1 _ _ (Array.getElem?_eq_some_iff.1 hbxP).1).trans hbxP
 have hKV:OutK B b w V0:=by rw [hV0];exact (HK0.out.trans hokP).alloc hEP.size _
 have HBV:=Lib.hid hbv
 have HEV:=Lib.hid hEV
 have HBXV:=Lib.hid hbx
 have HKV:=Lib.hid hKV
 have hvb:V1.heap.size ≠ b:=by have:=hEP.lt;omega
 have z1:w.heap.size < V1.heap.size:=(Array.getElem?_eq_some_iff.1 hbxP).1
 have z2:g < V1.heap.size:=Nat.lt_of_lt_of_le HG.out hEP.old.size
 have hE0:=hEP
 obtain ⟨p0,l0,c0,⟨e00,e01,e02,e03,e04⟩,hx0⟩:=ExAt.part (k:=0) (x:=Ex.mk 5 r nm d [x0,x1]) HG.out hE0.old (show 0 < 2 by decide) HE.out
 simp only [Nat.zero_mul,Nat.add_zero,Ex.sub,List.getElem_cons_zero] at e00 e01 e02 e03 e04 hx0
 have b4:V1.cell? ⟨w.heap.size,4,none⟩=some (.slice (some ⟨g,o,none⟩) 2 cap):=(exCells hbxP).2.2.2.2
 have HC0:=Lib.hid (HI.out x0 _ 0 (l ++ [40]) V0 hx0 HO0.out (by omega) (by omega) hEV (by rw [← HT0.out];simp only [List.length_append,List.length_cons,List.length_nil];omega))
 rw [← HT0.out] at HC0
 clear hbx hE0 hKV hx0 hbxP hEP hEV hbv hioP hokP
 subst hV0
 go_wp2_with fail
 refine HC0.out.mono ?_
 rintro e W1 ⟨rfl,hio1,hok1⟩
 have hE1:=HEV.out.step hio1 hok1
 have HBX1:=Lib.hid (boxed_kept HBXV.out hok1 (by omega))
 have HK1:=Lib.hid (HKV.out.trans hok1)
 have HE1:=Lib.hid hE1
 have HOK1:=Lib.hid hok1
 have HC1:=Lib.hid (put1 B b m (l ++ [40] ++ t0) (ByteArray.mk #[32,45,32]) W1 hio1 (by show (l ++ [40] ++ t0).length+3≤_;simp only [List.length_append,List.length_cons,List.length_nil];omega) hE1.size)
 have b4':W1.cell? ⟨w.heap.size,4,none⟩=some (.slice (some ⟨g,o,none⟩) 2 cap):=(exCells HBX1.out).2.2.2.2
 clear hio1 hok1 hE1 e00 e01 e02 e03 e04 b4
 go_wp2_with fail
 refine HC1.out.mono ?_
 rintro e W2 ⟨rfl,hio2,hok2⟩
 have hE2:=HE1.out.step hio2 hok2
 have HE2:=Lib.hid hE2
 have HOV:=Lib.hid (HOK1.out.trans hok2)
 have HBX2:=Lib.hid (boxed_kept HBX1.out hok2 (by omega))
 have HK2:=Lib.hid (HK1.out.trans hok2)
 obtain ⟨p1,l1,c1,⟨f0,f1,f2,f3,f4⟩,hx1⟩:=ExAt.part (k:=1) (x:=Ex.mk 5 r nm d [x0,x1]) HG.out hE2.old (show 1 < 2 by decide) HE.out
 simp only [Nat.one_mul,Ex.sub,List.getElem_cons_succ,List.getElem_cons_zero] at f0 f1 f2 f3 f4 hx1
 have b4'':W2.cell? ⟨w.heap.size,4,none⟩=some (.slice (some ⟨g,o,none⟩) 2 cap):=(exCells HBX2.out).2.2.2.2
 have HC2:=Lib.hid (HI.out x1 _ 1 _ W2 hx1 HO1.out (by omega) (by omega) hE2 (by rw [← HT1.out];simp only [List.length_append];show l.length+1+t0.length+3+_≤_;omega))
 rw [← HT1.out] at HC2
 clear hio2 hok2 hE2 hx1 b4'
 go_wp2_with fail
 refine HC2.out.mono ?_
 rintro e W3 ⟨rfl,hio3,hok3⟩
 have HBV3:=HOV.out.2 _ _ (HBV.out) (by simpa using hvb) (by intro c fz e;simp at e)
 have HE3:=Lib.hid (HE2.out.step hio3 hok3)
 have HK3:=Lib.hid (HK2.out.trans hok3)
 have HBV4:=Lib.hid (hok3.2 _ _ HBV3 (by simpa using hvb) (by intro c fz e;simp at e))
 clear hio3 hok3 f0 f1 f2 f3 f4 b4'' HBV3
 go_wp2_with fail
 refine leaves_cons (f:=25) (args := #[.pointer (some ⟨b,0,none⟩),.slice (some ⟨V1.heap.size,0,none⟩) 1 1]) (by simp) (by simp [go_sem]) ?_
 refine (put_anyD B b _ m _ [ByteArray.mk #[41]] .returning W3 1 HE3.out.out HBV4.out rfl (by omega) (by simp only [List.length_append,List.length_cons,List.length_nil];show l.length+(0+1)+t0.length+3+t1.length+1≤_;omega) HE3.out.size).mono ?_
 rintro e u' w'' ⟨rfl,rfl,hio4,hok4⟩
 exact ⟨_,results_none rfl _ _ _,rfl,by simpa [catB,List.append_assoc] using hio4,HK3.out.trans hok4⟩
set_option maxHeartbeats 4000000 in
set_option maxRecDepth 100000 in
theorem expr_par5_2 {Wb:World} {B b:Nat} {m:Value} {n:Nat} (ih:ExprC Wb B b m n) (r nm:ByteArray) (d:Int) (x0 x1:Ex) (cs:List Value) (least:Int) (l:List UInt8) (w:World)
  (h:ExAt (n+1) Wb cs (Ex.mk 5 r nm d [x0,x1])) (ho0:OkX n x0) (ho1:OkX n x1) (hl:least=2) (he:OutEnv Wb B b m l w) (hlen:l.length+(pexT (n+1) (Ex.mk 5 r nm d [x0,x1]) least).length≤1000000000) :
  Calls Tryz.prog 28 #[.pointer (some ⟨b,0,none⟩),.agg cs.toArray,.int .i64 least] w (WrP B b m (l ++ pexT (n+1) (Ex.mk 5 r nm d [x0,x1]) least) w):=by
 subst hl
 have hpt:pexT (n+1) (Ex.mk 5 r nm d [x0,x1]) 2=[40] ++ (pexT n x0 0 ++ ([32,45,32] ++ (pexT n x1 1 ++ [41]))):=by
  rw [pexT];simp [parT,opO,opS,opN,Ex.kind,prt,Ex.sub]
 rw [hpt] at hlen ⊢
 obtain ⟨t0,ht0⟩:∃ t,t=pexT n x0 0:=⟨_,rfl⟩
 obtain ⟨t1,ht1⟩:∃ t,t=pexT n x1 1:=⟨_,rfl⟩
 rw [← ht0,← ht1] at hlen ⊢
 simp only [List.length_append,List.length_cons,List.length_nil] at hlen
 obtain ⟨a,len,cap,rfl,hlen2,hsub⟩:=h
 obtain rfl:len=2:=hlen2.symm
 rcases hsub with h0 | ⟨g,o,rfl,hg,hel⟩
 ·omega
 have HOP:Hid (∀ W,Calls Tryz.prog 56 #[.int .u8 5] W (fun e w' => e = .returned (.tuple #[.string (ByteArray.mk #[32,45,32]),.int .i64 0,.int .i64 1])∧W=w')):=fun W => oper_any 5 W
 have HI:=Lib.hid ih
 have HE:=Lib.hid hel
 have HG:=Lib.hid hg
 have HO0:=Lib.hid ho0
 have HO1:=Lib.hid ho1
 have HT0:=Lib.hid ht0
 have HT1:=Lib.hid ht1
 have HEN:=Lib.hid he
 have hbw:=he.lt
 clear ih hel hg ho0 ho1 ht0 ht1 hlen2 hpt
 show Calls Tryz.prog 28 #[.pointer (some ⟨b,0,none⟩),.agg #[.int .u8 5,.string r,.string nm,.int .i64 d,.slice (some ⟨g,o,none⟩) 2 cap],.int .i64 2] w _
 go_enter_defers Tryz.func28,Tryz.ntmps28
 go_wp2_with fail
 refine (HOP.out _).mono ?_
 rintro e w' ⟨rfl,rfl⟩
 obtain ⟨W0,hW0⟩:∃ W0,W0=w.alloc (.cells #[.int .u8 5,.string r,.string nm,.int .i64 d,.slice (some ⟨g,o,none⟩) 2 cap] 25):=⟨_,rfl⟩
 have hbx:W0.heap[w.heap.size]? = some (.cells #[.int .u8 5,.string r,.string nm,.int .i64 d,.slice (some ⟨g,o,none⟩) 2 cap] 25):=by rw [hW0];exact alloc_at _ _
 have hE0:OutEnv Wb B b m l W0:=by rw [hW0];exact HEN.out.below (own_below w _)
 have hK0:OutK B b w W0:=by rw [hW0];exact OutK.below (own_below w _) HEN.out.size
 rw [← hW0]
 have HE0:=Lib.hid hE0
 have HBX:=Lib.hid hbx
 have HK0:=Lib.hid hK0
 have HCP:=Lib.hid (put1 B b m l (ByteArray.mk #[40]) W0 hE0.out (by show l.length+1≤_;omega) hE0.size)
 clear hW0 hbx hE0 hK0
 go_wp2_with fail
 refine HCP.out.mono ?_
 rintro e V1 ⟨rfl,hioP,hokP⟩
 obtain ⟨V0,hV0⟩:∃ V0,V0=V1.alloc (.cells #[.string (ByteArray.mk #[41])] 9):=⟨_,rfl⟩
 have hEP:=HE0.out.step hioP hokP
 have hEV:OutEnv Wb B b m (l ++ [40]) V0:=by rw [hV0];exact hEP.below (own_below V1 _)
 have hbv:V0.heap[V1.heap.size]? = some (.cells #[.string (ByteArray.mk #[41])] 9 (0,0)):=by rw [hV0];exact alloc_at _ _
 have hbxP:=boxed_kept HBX.out hokP (by omega)
 have hbx:V0.heap[w.heap.size]? = some (.cells #[.int .u8 5,.string r,.string nm,.int .i64 d,.slice (some ⟨g,o,none⟩) 2 cap] 25):=by rw [hV0];exact (Below.heap_alloc V1 _ _ (Array.getElem?_eq_some_iff.1 hbxP).1).trans hbxP
 have hKV:OutK B b w V0:=by rw [hV0];exact (HK0.out.trans hokP).alloc hEP.size _
 have HBV:=Lib.hid hbv
 have HEV:=Lib.hid hEV
 have HBXV:=Lib.hid hbx
 have HKV:=Lib.hid hKV
 have hvb:V1.heap.size ≠ b:=by have:=hEP.lt;omega
 have z1:w.heap.size < V1.heap.size:=(Array.getElem?_eq_some_iff.1 hbxP).1
 have z2:g < V1.heap.size:=Nat.lt_of_lt_of_le HG.out hEP.old.size
 have hE0:=hEP
 obtain ⟨p0,l0,c0,⟨e00,e01,e02,e03,e04⟩,hx0⟩:=ExAt.part (k:=0) (x:=Ex.mk 5 r nm d [x0,x1]) HG.out hE0.old (show 0 < 2 by decide) HE.out
 simp only [Nat.zero_mul,Nat.add_zero,Ex.sub,List.getElem_cons_zero] at e00 e01 e02 e03 e04 hx0
 have b4:V1.cell? ⟨w.heap.size,4,none⟩=some (.slice (some ⟨g,o,none⟩) 2 cap):=(exCells hbxP).2.2.2.2
 have HC0:=Lib.hid (HI.out x0 _ 0 (l ++ [40]) V0 hx0 HO0.out (by omega) (by omega) hEV (by rw [← HT0.out];simp only [List.length_append,List.length_cons,List.length_nil];omega))
 rw [← HT0.out] at HC0
 clear hbx hE0 hKV hx0 hbxP hEP hEV hbv hioP hokP
 subst hV0
 go_wp2_with fail
 refine HC0.out.mono ?_
 rintro e W1 ⟨rfl,hio1,hok1⟩
 have hE1:=HEV.out.step hio1 hok1
 have HBX1:=Lib.hid (boxed_kept HBXV.out hok1 (by omega))
 have HK1:=Lib.hid (HKV.out.trans hok1)
 have HE1:=Lib.hid hE1
 have HOK1:=Lib.hid hok1
 have HC1:=Lib.hid (put1 B b m (l ++ [40] ++ t0) (ByteArray.mk #[32,45,32]) W1 hio1 (by show (l ++ [40] ++ t0).length+3≤_;simp only [List.length_append,List.length_cons,List.length_nil];omega) hE1.size)
 have b4':W1.cell? ⟨w.heap.size,4,none⟩=some (.slice (some ⟨g,o,none⟩) 2 cap):=(exCells HBX1.out).2.2.2.2
 clear hio1 hok1 hE1 e00 e01 e02 e03 e04 b4
 go_wp2_with fail
 refine HC1.out.mono ?_
 rintro e W2 ⟨rfl,hio2,hok2⟩
 have hE2:=HE1.out.step hio2 hok2
 have HE2:=Lib.hid hE2
 have HOV:=Lib.hid (HOK1.out.trans hok2)
 have HBX2:=Lib.hid (boxed_kept HBX1.out hok2 (by omega))
 have HK2:=Lib.hid (HK1.out.trans hok2)
 obtain ⟨p1,l1,c1,⟨f0,f1,f2,f3,f4⟩,hx1⟩:=ExAt.part (k:=1) (x:=Ex.mk 5 r nm d [x0,x1]) HG.out hE2.old (show 1 < 2 by decide) HE.out
 simp only [Nat.one_mul,Ex.sub,List.getElem_cons_succ,List.getElem_cons_zero] at f0 f1 f2 f3 f4 hx1
 have b4'':W2.cell? ⟨w.heap.size,4,none⟩=some (.slice (some ⟨g,o,none⟩) 2 cap):=(exCells HBX2.out).2.2.2.2
 have HC2:=Lib.hid (HI.out x1 _ 1 _ W2 hx1 HO1.out (by omega) (by omega) hE2 (by rw [← HT1.out];simp only [List.length_append];show l.length+1+t0.length+3+_≤_;omega))
 rw [← HT1.out] at HC2
 clear hio2 hok2 hE2 hx1 b4'
 go_wp2_with fail
 refine HC2.out.mono ?_
 rintro e W3 ⟨rfl,hio3,hok3⟩
 have HBV3:=HOV.out.2 _ _ (HBV.out) (by simpa using hvb) (by intro c fz e;simp at e)
 have HE3:=Lib.hid (HE2.out.step hio3 hok3)
 have HK3:=Lib.hid (HK2.out.trans hok3)
 have HBV4:=Lib.hid (hok3.2 _ _ HBV3 (by simpa using hvb) (by intro c fz e;simp at e))
 clear hio3 hok3 f0 f1 f2 f3 f4 b4'' HBV3
 go_wp2_with fail
 refine leaves_cons (f:=25) (args := #[.pointer (some ⟨b,0,none⟩),.slice (some ⟨V1.heap.size,0,none⟩) 1 1]) (by simp) (by simp [go_sem]) ?_
 refine (put_anyD B b _ m _ [ByteArray.mk #[41]] .returning W3 1 HE3.out.out HBV4.out rfl (by omega) (by simp only [List.length_append,List.length_cons,List.length_nil];show l.length+(0+1)+t0.length+3+t1.length+1≤_;omega) HE3.out.size).mono ?_
 rintro e u' w'' ⟨rfl,rfl,hio4,hok4⟩
 exact ⟨_,results_none rfl _ _ _,rfl,by simpa [catB,List.append_assoc] using hio4,HK3.out.trans hok4⟩
set_option maxHeartbeats 4000000 in
set_option maxRecDepth 100000 in
theorem expr_par6_2 {Wb:World} {B b:Nat} {m:Value} {n:Nat} (ih:ExprC Wb B b m n) (r nm:ByteArray) (d:Int) (x0 x1:Ex) (cs:List Value) (least:Int) (l:List UInt8) (w:World)
  (h:ExAt (n+1) Wb cs (Ex.mk 6 r nm d [x0,x1])) (ho0:OkX n x0) (ho1:OkX n x1) (hl:least=2) (he:OutEnv Wb B b m l w) (hlen:l.length+(pexT (n+1) (Ex.mk 6 r nm d [x0,x1]) least).length≤1000000000) :
  Calls Tryz.prog 28 #[.pointer (some ⟨b,0,none⟩),.agg cs.toArray,.int .i64 least] w (WrP B b m (l ++ pexT (n+1) (Ex.mk 6 r nm d [x0,x1]) least) w):=by
 subst hl
 have hpt:pexT (n+1) (Ex.mk 6 r nm d [x0,x1]) 2=[40] ++ (pexT n x0 1 ++ ([32,42,32] ++ (pexT n x1 2 ++ [41]))):=by
  rw [pexT];simp [parT,opO,opS,opN,Ex.kind,prt,Ex.sub]
 rw [hpt] at hlen ⊢
 obtain ⟨t0,ht0⟩:∃ t,t=pexT n x0 1:=⟨_,rfl⟩
 obtain ⟨t1,ht1⟩:∃ t,t=pexT n x1 2:=⟨_,rfl⟩
 rw [← ht0,← ht1] at hlen ⊢
 simp only [List.length_append,List.length_cons,List.length_nil] at hlen
 obtain ⟨a,len,cap,rfl,hlen2,hsub⟩:=h
 obtain rfl:len=2:=hlen2.symm
 rcases hsub with h0 | ⟨g,o,rfl,hg,hel⟩
 ·omega
 have HOP:Hid (∀ W,Calls Tryz.prog 56 #[.int .u8 6] W (fun e w' => e = .returned (.tuple #[.string (ByteArray.mk #[32,42,32]),.int .i64 1,.int .i64 2])∧W=w')):=fun W => oper_any 6 W
 have HI:=Lib.hid ih
 have HE:=Lib.hid hel
 have HG:=Lib.hid hg
 have HO0:=Lib.hid ho0
 have HO1:=Lib.hid ho1
 have HT0:=Lib.hid ht0
 have HT1:=Lib.hid ht1
 have HEN:=Lib.hid he
 have hbw:=he.lt
 clear ih hel hg ho0 ho1 ht0 ht1 hlen2 hpt
 show Calls Tryz.prog 28 #[.pointer (some ⟨b,0,none⟩),.agg #[.int .u8 6,.string r,.string nm,.int .i64 d,.slice (some ⟨g,o,none⟩) 2 cap],.int .i64 2] w _
 go_enter_defers Tryz.func28,Tryz.ntmps28
 go_wp2_with fail
 refine (HOP.out _).mono ?_
 rintro e w' ⟨rfl,rfl⟩
 obtain ⟨W0,hW0⟩:∃ W0,W0=w.alloc (.cells #[.int .u8 6,.string r,.string nm,.int .i64 d,.slice (some ⟨g,o,none⟩) 2 cap] 25):=⟨_,rfl⟩
 have hbx:W0.heap[w.heap.size]? = some (.cells #[.int .u8 6,.string r,.string nm,.int .i64 d,.slice (some ⟨g,o,none⟩) 2 cap] 25):=by rw [hW0];exact alloc_at _ _
 have hE0:OutEnv Wb B b m l W0:=by rw [hW0];exact HEN.out.below (own_below w _)
 have hK0:OutK B b w W0:=by rw [hW0];exact OutK.below (own_below w _) HEN.out.size
 rw [← hW0]
 have HE0:=Lib.hid hE0
 have HBX:=Lib.hid hbx
 have HK0:=Lib.hid hK0
 have HCP:=Lib.hid (put1 B b m l (ByteArray.mk #[40]) W0 hE0.out (by show l.length+1≤_;omega) hE0.size)
 clear hW0 hbx hE0 hK0
 go_wp2_with fail
 refine HCP.out.mono ?_
 rintro e V1 ⟨rfl,hioP,hokP⟩
 obtain ⟨V0,hV0⟩:∃ V0,V0=V1.alloc (.cells #[.string (ByteArray.mk #[41])] 9):=⟨_,rfl⟩
 have hEP:=HE0.out.step hioP hokP
 have hEV:OutEnv Wb B b m (l ++ [40]) V0:=by rw [hV0];exact hEP.below (own_below V1 _)
 have hbv:V0.heap[V1.heap.size]? = some (.cells #[.string (ByteArray.mk #[41])] 9 (0,0)):=by rw [hV0];exact alloc_at _ _
 have hbxP:=boxed_kept HBX.out hokP (by omega)
 have hbx:V0.heap[w.heap.size]? = some (.cells #[.int .u8 6,.string r,.string nm,.int .i64 d,.slice (some ⟨g,o,none⟩) 2 cap] 25):=by rw [hV0];exact (Below.heap_alloc V1 _ _ (Array.getElem?_eq_some_iff.1 hbxP).1).trans hbxP
 have hKV:OutK B b w V0:=by rw [hV0];exact (HK0.out.trans hokP).alloc hEP.size _
 have HBV:=Lib.hid hbv
 have HEV:=Lib.hid hEV
 have HBXV:=Lib.hid hbx
 have HKV:=Lib.hid hKV
 have hvb:V1.heap.size ≠ b:=by have:=hEP.lt;omega
 have z1:w.heap.size < V1.heap.size:=(Array.getElem?_eq_some_iff.1 hbxP).1
 have z2:g < V1.heap.size:=Nat.lt_of_lt_of_le HG.out hEP.old.size
 have hE0:=hEP
 obtain ⟨p0,l0,c0,⟨e00,e01,e02,e03,e04⟩,hx0⟩:=ExAt.part (k:=0) (x:=Ex.mk 6 r nm d [x0,x1]) HG.out hE0.old (show 0 < 2 by decide) HE.out
 simp only [Nat.zero_mul,Nat.add_zero,Ex.sub,List.getElem_cons_zero] at e00 e01 e02 e03 e04 hx0
 have b4:V1.cell? ⟨w.heap.size,4,none⟩=some (.slice (some ⟨g,o,none⟩) 2 cap):=(exCells hbxP).2.2.2.2
 have HC0:=Lib.hid (HI.out x0 _ 1 (l ++ [40]) V0 hx0 HO0.out (by omega) (by omega) hEV (by rw [← HT0.out];simp only [List.length_append,List.length_cons,List.length_nil];omega))
 rw [← HT0.out] at HC0
 clear hbx hE0 hKV hx0 hbxP hEP hEV hbv hioP hokP
 subst hV0
 go_wp2_with fail
 refine HC0.out.mono ?_
 rintro e W1 ⟨rfl,hio1,hok1⟩
 have hE1:=HEV.out.step hio1 hok1
 have HBX1:=Lib.hid (boxed_kept HBXV.out hok1 (by omega))
 have HK1:=Lib.hid (HKV.out.trans hok1)
 have HE1:=Lib.hid hE1
 have HOK1:=Lib.hid hok1
 have HC1:=Lib.hid (put1 B b m (l ++ [40] ++ t0) (ByteArray.mk #[32,42,32]) W1 hio1 (by show (l ++ [40] ++ t0).length+3≤_;simp only [List.length_append,List.length_cons,List.length_nil];omega) hE1.size)
 have b4':W1.cell? ⟨w.heap.size,4,none⟩=some (.slice (some ⟨g,o,none⟩) 2 cap):=(exCells HBX1.out).2.2.2.2
 clear hio1 hok1 hE1 e00 e01 e02 e03 e04 b4
 go_wp2_with fail
 refine HC1.out.mono ?_
 rintro e W2 ⟨rfl,hio2,hok2⟩
 have hE2:=HE1.out.step hio2 hok2
 have HE2:=Lib.hid hE2
 have HOV:=Lib.hid (HOK1.out.trans hok2)
 have HBX2:=Lib.hid (boxed_kept HBX1.out hok2 (by omega))
 have HK2:=Lib.hid (HK1.out.trans hok2)
 obtain ⟨p1,l1,c1,⟨f0,f1,f2,f3,f4⟩,hx1⟩:=ExAt.part (k:=1) (x:=Ex.mk 6 r nm d [x0,x1]) HG.out hE2.old (show 1 < 2 by decide) HE.out
 simp only [Nat.one_mul,Ex.sub,List.getElem_cons_succ,List.getElem_cons_zero] at f0 f1 f2 f3 f4 hx1
 have b4'':W2.cell? ⟨w.heap.size,4,none⟩=some (.slice (some ⟨g,o,none⟩) 2 cap):=(exCells HBX2.out).2.2.2.2
 have HC2:=Lib.hid (HI.out x1 _ 2 _ W2 hx1 HO1.out (by omega) (by omega) hE2 (by rw [← HT1.out];simp only [List.length_append];show l.length+1+t0.length+3+_≤_;omega))
 rw [← HT1.out] at HC2
 clear hio2 hok2 hE2 hx1 b4'
 go_wp2_with fail
 refine HC2.out.mono ?_
 rintro e W3 ⟨rfl,hio3,hok3⟩
 have HBV3:=HOV.out.2 _ _ (HBV.out) (by simpa using hvb) (by intro c fz e;simp at e)
 have HE3:=Lib.hid (HE2.out.step hio3 hok3)
 have HK3:=Lib.hid (HK2.out.trans hok3)
 have HBV4:=Lib.hid (hok3.2 _ _ HBV3 (by simpa using hvb) (by intro c fz e;simp at e))
 clear hio3 hok3 f0 f1 f2 f3 f4 b4'' HBV3
 go_wp2_with fail
 refine leaves_cons (f:=25) (args := #[.pointer (some ⟨b,0,none⟩),.slice (some ⟨V1.heap.size,0,none⟩) 1 1]) (by simp) (by simp [go_sem]) ?_
 refine (put_anyD B b _ m _ [ByteArray.mk #[41]] .returning W3 1 HE3.out.out HBV4.out rfl (by omega) (by simp only [List.length_append,List.length_cons,List.length_nil];show l.length+(0+1)+t0.length+3+t1.length+1≤_;omega) HE3.out.size).mono ?_
 rintro e u' w'' ⟨rfl,rfl,hio4,hok4⟩
 exact ⟨_,results_none rfl _ _ _,rfl,by simpa [catB,List.append_assoc] using hio4,HK3.out.trans hok4⟩
end Go.Proofs.YtijkefflpojmhaaGreatDoor
