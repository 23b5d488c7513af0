/-
  The reference's Sort of an expression, walked: some kinds. No condition but the size. The program's sorted, walked. No condition but the size.
-/
import Derived.Test.YtijkefflpojmhaaGreatDoorZaf
import Derived.Deep.RegionHeld3
namespace Go.Proofs.YtijkefflpojmhaaGreatDoor
open Go.RowKit
set_option maxHeartbeats 4000000 in
set_option maxRecDepth 100000 in
theorem rsort_15 {n:Nat} (ih:RsC n) (r nm:ByteArray) (d:Int) (l:List Ex) (cs:List Value) (w:World) (h:ExAt (n+1) w cs (Ex.mk 15 r nm d l)) (hz:(Ex.mk 15 r nm d l).size≤1000) (hsm:∃ dd,SmX dd (Ex.mk 15 r nm d l)) :
  Calls Tryz.prog 81 #[.agg cs.toArray] w (IntP w (srtP 15 r nm d (l.map Ex.srt))):=by
 obtain ⟨a,len,cap,rfl,hlen,hsub⟩:=h
 have hlen2:l.length=len:=hlen
 have hsl:=(Ex.mk 15 r nm d l).sub_len
 have hlb:len≤1000:=by omega
 have hsub2:len=0 ∨ ∃ g o,a=some ⟨g,o,none⟩∧g < w.heap.size ∧ ∀ i (hi:i < l.length),∃ cs',(∀ j,j < 5→w.cell? ⟨g,o+i*5+j,none⟩=cs'[j]?)∧ExAt n w cs' l[i]:=hsub
 obtain ⟨i0,hi,hz0,hz1,hz2⟩:=info_parts infoInt64
 obtain ⟨hrz,hse⟩:=sm_parts hsm
 have HZY:Hid (∀ y ∈ l,y.size≤1000):=fun y hy => by have:=Ex.sub_size (x:=Ex.mk 15 r nm d l) hy;omega
 have HSE:=Lib.hid hse
 have HI:=Lib.hid ih
 have HS:=Lib.hid hsub2
 have HLEN:=Lib.hid hlen2
 have HI0:=Lib.hid hi
 have HI1:=Lib.hid hz0
 have HI2:=Lib.hid hz1
 have HI3:=Lib.hid hz2
 obtain ⟨L,hL⟩:∃ L,L=l.map Ex.srt:=⟨_,rfl⟩
 have HLL:Hid (L.length=len):=by rw [hL];show (l.map Ex.srt).length=len;rw [List.length_map];exact hlen2
 have HL:=Lib.hid hL
 rw [← hL]
 obtain ⟨br,qr⟩:∃ b,r.toList.isEmpty=b:=⟨_,rfl⟩
 obtain ⟨bn,qn⟩:∃ b,nm.toList.isEmpty=b:=⟨_,rfl⟩
 obtain ⟨bd,qd⟩:∃ b,((d:Int) == 0)=b:=⟨_,rfl⟩
 obtain ⟨bb,hbb⟩:∃ b,b=(br && bn && bd):=⟨_,rfl⟩
 have HBB:Hid (bb=bareB r nm d):=by
  show bb=_
  unfold bareB
  rw [hbb,← qr,← qn,← qd,toList_data,toList_data]
 have HBV:=Lib.hid hbb
 have HQR:Hid (r.data.toList.isEmpty=br):=by show _=br;rw [← qr,toList_data]
 have HQN:Hid (nm.data.toList.isEmpty=bn):=by show _=bn;rw [← qn,toList_data]
 have HQD:Hid (bd=true ↔ d=0):=by show bd=true ↔ _;rw [← qd];simp
 obtain ⟨R,hR⟩:∃ R,R=srtP 15 r nm d L:=⟨_,rfl⟩
 rw [← hR]
 have HRR:=Lib.hid hR
 clear ih hsub hsub2 hlen hlen2 hz hsl hi hz0 hz1 hz2 hL hsm hse hbb hR
 show Calls Tryz.prog 81 #[.agg #[.int .u8 15,.string r,.string nm,.int .i64 d,.slice a len cap]] w _
 go_enter Tryz.func81,Tryz.ntmps81
 go_upto_region 1 with (fail)
 obtain ⟨W0,hW0⟩:∃ W0,W0=w.alloc (.cells #[.int .u8 15,.string r,.string nm,.int .i64 d,.slice a len cap] 25):=⟨_,rfl⟩
 have hbx:W0.heap[w.heap.size]? = some (.cells #[.int .u8 15,.string r,.string nm,.int .i64 d,.slice a len cap] 25):=by rw [hW0];exact heap_alloc_new w _
 have hB0:Below w.heap.size w W0:=by rw [hW0];exact own_below w _
 have hzW:w.heap.size < W0.heap.size:=(Array.getElem?_eq_some_iff.1 hbx).1
 rw [← hW0]
 have HBX:=Lib.hid hbx
 have HB0:=Lib.hid hB0
 obtain ⟨c0,c1,c2,c3,c4⟩:=exCells hbx
 clear hW0 hbx hB0
 go_cut [3] (fun s wx => s = .bool bb∧W0=wx)
 case first => as_aux_lemma =>
  have E:=HBV.out
  cases br with
  | false =>
   have e:bb=false:=by rw [E];rfl
   have EE:=Lib.hid e
   clear e E
   go_wp2_with fail
   go_meet
   exact ⟨by rw [EE.out],rfl⟩
  | true =>
   cases bn with
   | false =>
    have e:bb=false:=by rw [E];rfl
    have EE:=Lib.hid e
    clear e E
    go_wp2_with fail
    go_meet
    exact ⟨by rw [EE.out],rfl⟩
   | true =>
    have e:bb=bd:=by rw [E];rfl
    have EE:=Lib.hid e
    clear e E
    go_wp2_with fail
    go_meet
    exact ⟨by rw [EE.out],rfl⟩
 case rest =>
 obtain ⟨rfl,rfl⟩:=hcut
 clear c0 c1 c2 c3 c4
 go_wp2_with fail
 go_loopw [4,5] (fun lv iv wr => RsR W0 L len lv iv wr) (fun _ iv _ => len - (intOf iv).toNat)
 case atStart => exact ⟨0,Nat.zero_le _,rfl,Lib.hid ⟨by simp [ints],.inl ⟨rfl,rfl⟩⟩,Below.refl _ _⟩
 case round =>
  obtain ⟨w1,rfl⟩:∃ w1:World,w1=wr:=⟨_,rfl⟩
  obtain ⟨v,hv⟩:∃ v:Value,v=u4:=⟨_,rfl⟩
  rw [← hv] at hrel ⊢
  clear hv
  obtain ⟨k,hk,rfl,HO,hb⟩:=hrel
  have hBW:=HB0.out.trans (hb.mono HB0.out.size)
  have HBW:=Lib.hid hBW
  obtain ⟨c0,c1,c2,c3,c4⟩:=exCells ((hb.block _ hzW).trans HBX.out)
  have HB:=Lib.hid hb
  clear hb
  by_cases hlt:k < len
  ·have hlt2:k < l.length:=by rw [HLEN.out];exact hlt
   rcases HS.out with h0 | ⟨g,o,ha,hg,hel⟩
   ·omega
   ·subst ha
    obtain ⟨p1,l1,cc,⟨e0,e1,e2,e3,e4⟩,hx1⟩:=ExAt.elem (x:=Ex.mk 0 ByteArray.empty ByteArray.empty 0 l) hg hBW hlt2 hel
    have hym:l[k] ∈ l:=List.getElem_mem _
    simp only [Ex.sub] at e0 e1 e2 e3 hx1
    have hT:L.take (k+1)=L.take k ++ [l[k].srt]:=by
     have e:=HL.out
     subst e
     rw [List.take_succ_eq_append_getElem (by simpa using hlt2)];simp
    obtain ⟨y,hy⟩:∃ y,y=l[k]:=⟨_,rfl⟩
    rw [← hy] at e0 e1 e2 e3 hx1 hT hym
    have hC:=HI.out y _ w1 hx1 (HZY.out y hym) (HSE.out y hym)
    rw [← Ex.srt_is] at hC
    obtain ⟨s,hs⟩:∃ s,s=y.srt:=⟨_,rfl⟩
    rw [← hs] at hC hT
    have HC:=Lib.hid hC
    have HT:=Lib.hid hT
    clear hC hT hs hy hym hx1 hel hBW
    go_wp2_with fail
    refine HC.out.mono ?_
    rintro e u ⟨rfl,hbu⟩
    have hou:=(World.ownsRow.kept (w:=w1) HO.out ⟨hbu.os,hbu.tape,hbu.output,hbu.size,fun i hi _ => hbu.block i hi⟩ (row:=none) (by cases v.ownBlock <;> simp))
    have HOA:=Lib.hid (hou.alloc (.cells #[.int .i64 s] 3))
    have HNW:=Lib.hid (World.news_of_block (heap_alloc_new u (.cells #[.int .i64 s] 3)))
    have HBS:=Lib.hid (show W0.heap.size≤(u.alloc (.cells #[.int .i64 s] 3)).heap.size by rw [World.size_alloc];have:=hbu.size;have:=HB.out.size;omega)
    have HBU:=Lib.hid ((HB.out.trans (hbu.mono HB.out.size)).alloc (by have:=hbu.size;have:=HB.out.size;omega) (.cells #[.int .i64 s] 3))
    clear hou hbu e0 e1 e2 e3 e4 c0 c1 c2 c3 c4
    go_wp2_with (at_builtin;refine wpList_append_own _ rfl _ _ 26 rfl W0.heap.size 3 i0 (.int .i64 0) 1 8 Tryz.underlying26 HI0.out HI1.out HI2.out HI3.out rfl (by decide) _ _ _ rfl HOA.out ⟨u.heap.size,0,none⟩ 1 1 [.int .i64 s] rfl rfl HNW.out (one_cell (by rfl)) (by unfold maxLen;omega) (by omega) HBS.out ?_)
    intro v' w3 hown' hgrow _
    have HR:Hid (RsR W0 L len v' (.int .i64 ((k+1:Nat):Int)) w3):=⟨k+1,hlt,rfl,Lib.hid (by rw [HT.out,← ints_snoc];exact hown'),HBU.out.grown hgrow HBU.out.size (fun q hq => (HOA.out.lt q hq).1)⟩
    clear hown' hgrow
    go_wp2_with fail
    go_roundw
    case rel => exact HR.out
    case measure => simp [intOf] <;> omega
  ·have hke:k=len:=by omega
   subst hke
   have HT:Hid (L.take k=L):=Lib.hid (List.take_of_length_le (by rw [HLL.out];omega))
   have ho:=HO.out
   rw [HT.out] at ho
   have HOW:=Lib.hid ho
   clear ho HO hlt
   obtain ⟨av,cv,rfl,hcl⟩:=sorts_one HOW.out
   have HCL:=Lib.hid hcl
   clear hcl
   have hshp:Hid (shpL 15=some ([2],2)):=rfl
   cases bb with
   | false =>
    have e:R=0:=by rw [HRR.out];exact srt_bare hshp.out HBB.out.symm
    have E:=Lib.hid e
    clear e
    go_wp2_with fail
    go_ret
    exact ⟨by rw [E.out];rfl,HBW.out⟩
   | true =>
    by_cases hm:k=1
    ·have hm0:(0:Int) < (k:Int):=by omega
     have qk:((k:Int) == 1)=true:=ieq_true (by omega)
     have hkl:Hid (L.length=1):=by show L.length=1;rw [HLL.out,hm]
     have hn0:0 < k:=by omega
     rcases HCL.out with h0 | ⟨g,rfl,hgl,hcl⟩
     ·omega
     clear hm
     have g0:=hcl 0 (by rw [hkl.out];decide)
     obtain ⟨p0,hp0⟩:∃ p,p=L[0]?.getD 0:=⟨_,rfl⟩
     rw [← hp0] at g0
     have HP0:=Lib.hid hp0
     clear hp0
     clear hcl
     by_cases hq0:p0=2
     ·have qq0:((p0:Int) == 2)=true:=ieq_true hq0
      have HQ0:=Lib.hid hq0
      clear hq0
      have e:R=2:=by rw [HRR.out];exact srt_yes hshp.out HBB.out.symm (list_1 hkl.out (HP0.out.symm.trans HQ0.out))
      have E:=Lib.hid e
      clear e
      go_wp2_with fail
      go_ret
      exact ⟨by rw [E.out];rfl,HBW.out⟩
     ·have qq0:((p0:Int) == 2)=false:=ieq_false hq0
      have e:R=0:=by rw [HRR.out];exact srt_ne hshp.out (list_at_ne (i:=0) (by rw [← HP0.out];exact hq0))
      clear hq0
      have E:=Lib.hid e
      clear e
      go_wp2_with fail
      go_ret
      exact ⟨by rw [E.out];rfl,HBW.out⟩
    ·have qk:((k:Int) == 1)=false:=ieq_false (by omega)
     have e:R=0:=by rw [HRR.out];exact srt_ne hshp.out (list_len_ne (by rw [HLL.out];exact hm))
     clear hm
     have E:=Lib.hid e
     clear e
     go_wp2_with fail
     go_ret
     exact ⟨by rw [E.out];rfl,HBW.out⟩
set_option maxHeartbeats 4000000 in
set_option maxRecDepth 100000 in
theorem rsort_lo {n:Nat} (ih:RsC n) (kd:Int) (h4:kd < 4) (n1:kd ≠ 1) (n2:kd ≠ 2) (n3:kd ≠ 3) (r nm:ByteArray) (d:Int) (l:List Ex) (cs:List Value) (w:World) (h:ExAt (n+1) w cs (Ex.mk kd r nm d l)) (hz:(Ex.mk kd r nm d l).size≤1000) (hsm:∃ dd,SmX dd (Ex.mk kd r nm d l)) :
  Calls Tryz.prog 81 #[.agg cs.toArray] w (IntP w (srtP kd r nm d (l.map Ex.srt))):=by
 obtain ⟨a,len,cap,rfl,hlen,hsub⟩:=h
 have hlen2:l.length=len:=hlen
 have hsl:=(Ex.mk kd r nm d l).sub_len
 have hlb:len≤1000:=by omega
 have hsub2:len=0 ∨ ∃ g o,a=some ⟨g,o,none⟩∧g < w.heap.size ∧ ∀ i (hi:i < l.length),∃ cs',(∀ j,j < 5→w.cell? ⟨g,o+i*5+j,none⟩=cs'[j]?)∧ExAt n w cs' l[i]:=hsub
 obtain ⟨i0,hi,hz0,hz1,hz2⟩:=info_parts infoInt64
 obtain ⟨hrz,hse⟩:=sm_parts hsm
 have HZY:Hid (∀ y ∈ l,y.size≤1000):=fun y hy => by have:=Ex.sub_size (x:=Ex.mk kd r nm d l) hy;omega
 have HSE:=Lib.hid hse
 have HI:=Lib.hid ih
 have HS:=Lib.hid hsub2
 have HLEN:=Lib.hid hlen2
 have HI0:=Lib.hid hi
 have HI1:=Lib.hid hz0
 have HI2:=Lib.hid hz1
 have HI3:=Lib.hid hz2
 obtain ⟨L,hL⟩:∃ L,L=l.map Ex.srt:=⟨_,rfl⟩
 have HLL:Hid (L.length=len):=by rw [hL];show (l.map Ex.srt).length=len;rw [List.length_map];exact hlen2
 have HL:=Lib.hid hL
 rw [← hL]
 obtain ⟨br,qr⟩:∃ b,r.toList.isEmpty=b:=⟨_,rfl⟩
 obtain ⟨bn,qn⟩:∃ b,nm.toList.isEmpty=b:=⟨_,rfl⟩
 obtain ⟨bd,qd⟩:∃ b,((d:Int) == 0)=b:=⟨_,rfl⟩
 obtain ⟨bb,hbb⟩:∃ b,b=(br && bn && bd):=⟨_,rfl⟩
 have HBB:Hid (bb=bareB r nm d):=by
  show bb=_
  unfold bareB
  rw [hbb,← qr,← qn,← qd,toList_data,toList_data]
 have HBV:=Lib.hid hbb
 have HQR:Hid (r.data.toList.isEmpty=br):=by show _=br;rw [← qr,toList_data]
 have HQN:Hid (nm.data.toList.isEmpty=bn):=by show _=bn;rw [← qn,toList_data]
 have HQD:Hid (bd=true ↔ d=0):=by show bd=true ↔ _;rw [← qd];simp
 obtain ⟨⟨n9,n11,n12,n13,n14,n15⟩,g4,hno⟩:=kd_lo h4
 have k1:((kd:Int) == 1)=false:=ieq_false n1
 have k2:((kd:Int) == 2)=false:=ieq_false n2
 have k3:((kd:Int) == 3)=false:=ieq_false n3
 have k9:((kd:Int) == 9)=false:=ieq_false n9
 have k11:((kd:Int) == 11)=false:=ieq_false n11
 have k12:((kd:Int) == 12)=false:=ieq_false n12
 have k13:((kd:Int) == 13)=false:=ieq_false n13
 have k14:((kd:Int) == 14)=false:=ieq_false n14
 have k15:((kd:Int) == 15)=false:=ieq_false n15
 have HN1:=Lib.hid n1
 have HN2:=Lib.hid n2
 have HN3:=Lib.hid n3
 have HNO:=Lib.hid hno
 clear n1 n2 n3 n9 n11 n12 n13 n14 n15 hno h4
 obtain ⟨R,hR⟩:∃ R,R=srtP kd r nm d L:=⟨_,rfl⟩
 rw [← hR]
 have HRR:=Lib.hid hR
 clear ih hsub hsub2 hlen hlen2 hz hsl hi hz0 hz1 hz2 hL hsm hse hbb hR
 show Calls Tryz.prog 81 #[.agg #[.int .u8 kd,.string r,.string nm,.int .i64 d,.slice a len cap]] w _
 go_enter Tryz.func81,Tryz.ntmps81
 go_upto_region 1 with (fail)
 obtain ⟨W0,hW0⟩:∃ W0,W0=w.alloc (.cells #[.int .u8 kd,.string r,.string nm,.int .i64 d,.slice a len cap] 25):=⟨_,rfl⟩
 have hbx:W0.heap[w.heap.size]? = some (.cells #[.int .u8 kd,.string r,.string nm,.int .i64 d,.slice a len cap] 25):=by rw [hW0];exact heap_alloc_new w _
 have hB0:Below w.heap.size w W0:=by rw [hW0];exact own_below w _
 have hzW:w.heap.size < W0.heap.size:=(Array.getElem?_eq_some_iff.1 hbx).1
 rw [← hW0]
 have HBX:=Lib.hid hbx
 have HB0:=Lib.hid hB0
 obtain ⟨c0,c1,c2,c3,c4⟩:=exCells hbx
 clear hW0 hbx hB0
 go_cut [3] (fun s wx => s = .bool bb∧W0=wx)
 case first => as_aux_lemma =>
  have E:=HBV.out
  cases br with
  | false =>
   have e:bb=false:=by rw [E];rfl
   have EE:=Lib.hid e
   clear e E
   go_wp2_with fail
   go_meet
   exact ⟨by rw [EE.out],rfl⟩
  | true =>
   cases bn with
   | false =>
    have e:bb=false:=by rw [E];rfl
    have EE:=Lib.hid e
    clear e E
    go_wp2_with fail
    go_meet
    exact ⟨by rw [EE.out],rfl⟩
   | true =>
    have e:bb=bd:=by rw [E];rfl
    have EE:=Lib.hid e
    clear e E
    go_wp2_with fail
    go_meet
    exact ⟨by rw [EE.out],rfl⟩
 case rest =>
 obtain ⟨rfl,rfl⟩:=hcut
 clear c0 c1 c2 c3 c4
 go_wp2_with fail
 go_loopw [4,5] (fun lv iv wr => RsR W0 L len lv iv wr) (fun _ iv _ => len - (intOf iv).toNat)
 case atStart => exact ⟨0,Nat.zero_le _,rfl,Lib.hid ⟨by simp [ints],.inl ⟨rfl,rfl⟩⟩,Below.refl _ _⟩
 case round =>
  obtain ⟨w1,rfl⟩:∃ w1:World,w1=wr:=⟨_,rfl⟩
  obtain ⟨v,hv⟩:∃ v:Value,v=u4:=⟨_,rfl⟩
  rw [← hv] at hrel ⊢
  clear hv
  obtain ⟨k,hk,rfl,HO,hb⟩:=hrel
  have hBW:=HB0.out.trans (hb.mono HB0.out.size)
  have HBW:=Lib.hid hBW
  obtain ⟨c0,c1,c2,c3,c4⟩:=exCells ((hb.block _ hzW).trans HBX.out)
  have HB:=Lib.hid hb
  clear hb
  by_cases hlt:k < len
  ·have hlt2:k < l.length:=by rw [HLEN.out];exact hlt
   rcases HS.out with h0 | ⟨g,o,ha,hg,hel⟩
   ·omega
   ·subst ha
    obtain ⟨p1,l1,cc,⟨e0,e1,e2,e3,e4⟩,hx1⟩:=ExAt.elem (x:=Ex.mk 0 ByteArray.empty ByteArray.empty 0 l) hg hBW hlt2 hel
    have hym:l[k] ∈ l:=List.getElem_mem _
    simp only [Ex.sub] at e0 e1 e2 e3 hx1
    have hT:L.take (k+1)=L.take k ++ [l[k].srt]:=by
     have e:=HL.out
     subst e
     rw [List.take_succ_eq_append_getElem (by simpa using hlt2)];simp
    obtain ⟨y,hy⟩:∃ y,y=l[k]:=⟨_,rfl⟩
    rw [← hy] at e0 e1 e2 e3 hx1 hT hym
    have hC:=HI.out y _ w1 hx1 (HZY.out y hym) (HSE.out y hym)
    rw [← Ex.srt_is] at hC
    obtain ⟨s,hs⟩:∃ s,s=y.srt:=⟨_,rfl⟩
    rw [← hs] at hC hT
    have HC:=Lib.hid hC
    have HT:=Lib.hid hT
    clear hC hT hs hy hym hx1 hel hBW
    go_wp2_with fail
    refine HC.out.mono ?_
    rintro e u ⟨rfl,hbu⟩
    have hou:=(World.ownsRow.kept (w:=w1) HO.out ⟨hbu.os,hbu.tape,hbu.output,hbu.size,fun i hi _ => hbu.block i hi⟩ (row:=none) (by cases v.ownBlock <;> simp))
    have HOA:=Lib.hid (hou.alloc (.cells #[.int .i64 s] 3))
    have HNW:=Lib.hid (World.news_of_block (heap_alloc_new u (.cells #[.int .i64 s] 3)))
    have HBS:=Lib.hid (show W0.heap.size≤(u.alloc (.cells #[.int .i64 s] 3)).heap.size by rw [World.size_alloc];have:=hbu.size;have:=HB.out.size;omega)
    have HBU:=Lib.hid ((HB.out.trans (hbu.mono HB.out.size)).alloc (by have:=hbu.size;have:=HB.out.size;omega) (.cells #[.int .i64 s] 3))
    clear hou hbu e0 e1 e2 e3 e4 c0 c1 c2 c3 c4
    go_wp2_with (at_builtin;refine wpList_append_own _ rfl _ _ 26 rfl W0.heap.size 3 i0 (.int .i64 0) 1 8 Tryz.underlying26 HI0.out HI1.out HI2.out HI3.out rfl (by decide) _ _ _ rfl HOA.out ⟨u.heap.size,0,none⟩ 1 1 [.int .i64 s] rfl rfl HNW.out (one_cell (by rfl)) (by unfold maxLen;omega) (by omega) HBS.out ?_)
    intro v' w3 hown' hgrow _
    have HR:Hid (RsR W0 L len v' (.int .i64 ((k+1:Nat):Int)) w3):=⟨k+1,hlt,rfl,Lib.hid (by rw [HT.out,← ints_snoc];exact hown'),HBU.out.grown hgrow HBU.out.size (fun q hq => (HOA.out.lt q hq).1)⟩
    clear hown' hgrow
    go_wp2_with fail
    go_roundw
    case rel => exact HR.out
    case measure => simp [intOf] <;> omega
  ·have hke:k=len:=by omega
   subst hke
   have HT:Hid (L.take k=L):=Lib.hid (List.take_of_length_le (by rw [HLL.out];omega))
   have ho:=HO.out
   rw [HT.out] at ho
   have HOW:=Lib.hid ho
   clear ho HO hlt
   obtain ⟨av,cv,rfl,hcl⟩:=sorts_one HOW.out
   have HCL:=Lib.hid hcl
   clear hcl
   have e:R=0:=by
    rw [HRR.out]
    by_cases hl:L=[]
    ·rw [srt_leaf (shp_no HNO.out) hl];exact leaf_no _ _ _ HN1.out HN2.out HN3.out
    ·exact srt_leaf_no (shp_no HNO.out) hl
   have E:=Lib.hid e
   clear e
   go_wp2_with fail
   go_ret
   exact ⟨by rw [E.out];rfl,HBW.out⟩
set_option maxHeartbeats 4000000 in
set_option maxRecDepth 100000 in
theorem rsort_hi {n:Nat} (ih:RsC n) (kd:Int) (h4:kd=10 ∨ 15 < kd) (r nm:ByteArray) (d:Int) (l:List Ex) (cs:List Value) (w:World) (h:ExAt (n+1) w cs (Ex.mk kd r nm d l)) (hz:(Ex.mk kd r nm d l).size≤1000) (hsm:∃ dd,SmX dd (Ex.mk kd r nm d l)) :
  Calls Tryz.prog 81 #[.agg cs.toArray] w (IntP w (srtP kd r nm d (l.map Ex.srt))):=by
 obtain ⟨a,len,cap,rfl,hlen,hsub⟩:=h
 have hlen2:l.length=len:=hlen
 have hsl:=(Ex.mk kd r nm d l).sub_len
 have hlb:len≤1000:=by omega
 have hsub2:len=0 ∨ ∃ g o,a=some ⟨g,o,none⟩∧g < w.heap.size ∧ ∀ i (hi:i < l.length),∃ cs',(∀ j,j < 5→w.cell? ⟨g,o+i*5+j,none⟩=cs'[j]?)∧ExAt n w cs' l[i]:=hsub
 obtain ⟨i0,hi,hz0,hz1,hz2⟩:=info_parts infoInt64
 obtain ⟨hrz,hse⟩:=sm_parts hsm
 have HZY:Hid (∀ y ∈ l,y.size≤1000):=fun y hy => by have:=Ex.sub_size (x:=Ex.mk kd r nm d l) hy;omega
 have HSE:=Lib.hid hse
 have HI:=Lib.hid ih
 have HS:=Lib.hid hsub2
 have HLEN:=Lib.hid hlen2
 have HI0:=Lib.hid hi
 have HI1:=Lib.hid hz0
 have HI2:=Lib.hid hz1
 have HI3:=Lib.hid hz2
 obtain ⟨L,hL⟩:∃ L,L=l.map Ex.srt:=⟨_,rfl⟩
 have HLL:Hid (L.length=len):=by rw [hL];show (l.map Ex.srt).length=len;rw [List.length_map];exact hlen2
 have HL:=Lib.hid hL
 rw [← hL]
 obtain ⟨br,qr⟩:∃ b,r.toList.isEmpty=b:=⟨_,rfl⟩
 obtain ⟨bn,qn⟩:∃ b,nm.toList.isEmpty=b:=⟨_,rfl⟩
 obtain ⟨bd,qd⟩:∃ b,((d:Int) == 0)=b:=⟨_,rfl⟩
 obtain ⟨bb,hbb⟩:∃ b,b=(br && bn && bd):=⟨_,rfl⟩
 have HBB:Hid (bb=bareB r nm d):=by
  show bb=_
  unfold bareB
  rw [hbb,← qr,← qn,← qd,toList_data,toList_data]
 have HBV:=Lib.hid hbb
 have HQR:Hid (r.data.toList.isEmpty=br):=by show _=br;rw [← qr,toList_data]
 have HQN:Hid (nm.data.toList.isEmpty=bn):=by show _=bn;rw [← qn,toList_data]
 have HQD:Hid (bd=true ↔ d=0):=by show bd=true ↔ _;rw [← qd];simp
 obtain ⟨⟨n1,n2,n3⟩,⟨n9,n11,n12,n13,n14,n15⟩,⟨g4,g8⟩,hno⟩:=kd_hi h4
 have k1:((kd:Int) == 1)=false:=ieq_false n1
 have k2:((kd:Int) == 2)=false:=ieq_false n2
 have k3:((kd:Int) == 3)=false:=ieq_false n3
 have k9:((kd:Int) == 9)=false:=ieq_false n9
 have k11:((kd:Int) == 11)=false:=ieq_false n11
 have k12:((kd:Int) == 12)=false:=ieq_false n12
 have k13:((kd:Int) == 13)=false:=ieq_false n13
 have k14:((kd:Int) == 14)=false:=ieq_false n14
 have k15:((kd:Int) == 15)=false:=ieq_false n15
 have HN1:=Lib.hid n1
 have HN2:=Lib.hid n2
 have HN3:=Lib.hid n3
 have HNO:=Lib.hid hno
 clear n1 n2 n3 n9 n11 n12 n13 n14 n15 hno h4
 obtain ⟨R,hR⟩:∃ R,R=srtP kd r nm d L:=⟨_,rfl⟩
 rw [← hR]
 have HRR:=Lib.hid hR
 clear ih hsub hsub2 hlen hlen2 hz hsl hi hz0 hz1 hz2 hL hsm hse hbb hR
 show Calls Tryz.prog 81 #[.agg #[.int .u8 kd,.string r,.string nm,.int .i64 d,.slice a len cap]] w _
 go_enter Tryz.func81,Tryz.ntmps81
 go_upto_region 1 with (fail)
 obtain ⟨W0,hW0⟩:∃ W0,W0=w.alloc (.cells #[.int .u8 kd,.string r,.string nm,.int .i64 d,.slice a len cap] 25):=⟨_,rfl⟩
 have hbx:W0.heap[w.heap.size]? = some (.cells #[.int .u8 kd,.string r,.string nm,.int .i64 d,.slice a len cap] 25):=by rw [hW0];exact heap_alloc_new w _
 have hB0:Below w.heap.size w W0:=by rw [hW0];exact own_below w _
 have hzW:w.heap.size < W0.heap.size:=(Array.getElem?_eq_some_iff.1 hbx).1
 rw [← hW0]
 have HBX:=Lib.hid hbx
 have HB0:=Lib.hid hB0
 obtain ⟨c0,c1,c2,c3,c4⟩:=exCells hbx
 clear hW0 hbx hB0
 go_cut [3] (fun s wx => s = .bool bb∧W0=wx)
 case first => as_aux_lemma =>
  have E:=HBV.out
  cases br with
  | false =>
   have e:bb=false:=by rw [E];rfl
   have EE:=Lib.hid e
   clear e E
   go_wp2_with fail
   go_meet
   exact ⟨by rw [EE.out],rfl⟩
  | true =>
   cases bn with
   | false =>
    have e:bb=false:=by rw [E];rfl
    have EE:=Lib.hid e
    clear e E
    go_wp2_with fail
    go_meet
    exact ⟨by rw [EE.out],rfl⟩
   | true =>
    have e:bb=bd:=by rw [E];rfl
    have EE:=Lib.hid e
    clear e E
    go_wp2_with fail
    go_meet
    exact ⟨by rw [EE.out],rfl⟩
 case rest =>
 obtain ⟨rfl,rfl⟩:=hcut
 clear c0 c1 c2 c3 c4
 go_wp2_with fail
 go_loopw [4,5] (fun lv iv wr => RsR W0 L len lv iv wr) (fun _ iv _ => len - (intOf iv).toNat)
 case atStart => exact ⟨0,Nat.zero_le _,rfl,Lib.hid ⟨by simp [ints],.inl ⟨rfl,rfl⟩⟩,Below.refl _ _⟩
 case round =>
  obtain ⟨w1,rfl⟩:∃ w1:World,w1=wr:=⟨_,rfl⟩
  obtain ⟨v,hv⟩:∃ v:Value,v=u4:=⟨_,rfl⟩
  rw [← hv] at hrel ⊢
  clear hv
  obtain ⟨k,hk,rfl,HO,hb⟩:=hrel
  have hBW:=HB0.out.trans (hb.mono HB0.out.size)
  have HBW:=Lib.hid hBW
  obtain ⟨c0,c1,c2,c3,c4⟩:=exCells ((hb.block _ hzW).trans HBX.out)
  have HB:=Lib.hid hb
  clear hb
  by_cases hlt:k < len
  ·have hlt2:k < l.length:=by rw [HLEN.out];exact hlt
   rcases HS.out with h0 | ⟨g,o,ha,hg,hel⟩
   ·omega
   ·subst ha
    obtain ⟨p1,l1,cc,⟨e0,e1,e2,e3,e4⟩,hx1⟩:=ExAt.elem (x:=Ex.mk 0 ByteArray.empty ByteArray.empty 0 l) hg hBW hlt2 hel
    have hym:l[k] ∈ l:=List.getElem_mem _
    simp only [Ex.sub] at e0 e1 e2 e3 hx1
    have hT:L.take (k+1)=L.take k ++ [l[k].srt]:=by
     have e:=HL.out
     subst e
     rw [List.take_succ_eq_append_getElem (by simpa using hlt2)];simp
    obtain ⟨y,hy⟩:∃ y,y=l[k]:=⟨_,rfl⟩
    rw [← hy] at e0 e1 e2 e3 hx1 hT hym
    have hC:=HI.out y _ w1 hx1 (HZY.out y hym) (HSE.out y hym)
    rw [← Ex.srt_is] at hC
    obtain ⟨s,hs⟩:∃ s,s=y.srt:=⟨_,rfl⟩
    rw [← hs] at hC hT
    have HC:=Lib.hid hC
    have HT:=Lib.hid hT
    clear hC hT hs hy hym hx1 hel hBW
    go_wp2_with fail
    refine HC.out.mono ?_
    rintro e u ⟨rfl,hbu⟩
    have hou:=(World.ownsRow.kept (w:=w1) HO.out ⟨hbu.os,hbu.tape,hbu.output,hbu.size,fun i hi _ => hbu.block i hi⟩ (row:=none) (by cases v.ownBlock <;> simp))
    have HOA:=Lib.hid (hou.alloc (.cells #[.int .i64 s] 3))
    have HNW:=Lib.hid (World.news_of_block (heap_alloc_new u (.cells #[.int .i64 s] 3)))
    have HBS:=Lib.hid (show W0.heap.size≤(u.alloc (.cells #[.int .i64 s] 3)).heap.size by rw [World.size_alloc];have:=hbu.size;have:=HB.out.size;omega)
    have HBU:=Lib.hid ((HB.out.trans (hbu.mono HB.out.size)).alloc (by have:=hbu.size;have:=HB.out.size;omega) (.cells #[.int .i64 s] 3))
    clear hou hbu e0 e1 e2 e3 e4 c0 c1 c2 c3 c4
    go_wp2_with (at_builtin;refine wpList_append_own _ rfl _ _ 26 rfl W0.heap.size 3 i0 (.int .i64 0) 1 8 Tryz.underlying26 HI0.out HI1.out HI2.out HI3.out rfl (by decide) _ _ _ rfl HOA.out ⟨u.heap.size,0,none⟩ 1 1 [.int .i64 s] rfl rfl HNW.out (one_cell (by rfl)) (by unfold maxLen;omega) (by omega) HBS.out ?_)
    intro v' w3 hown' hgrow _
    have HR:Hid (RsR W0 L len v' (.int .i64 ((k+1:Nat):Int)) w3):=⟨k+1,hlt,rfl,Lib.hid (by rw [HT.out,← ints_snoc];exact hown'),HBU.out.grown hgrow HBU.out.size (fun q hq => (HOA.out.lt q hq).1)⟩
    clear hown' hgrow
    go_wp2_with fail
    go_roundw
    case rel => exact HR.out
    case measure => simp [intOf] <;> omega
  ·have hke:k=len:=by omega
   subst hke
   have HT:Hid (L.take k=L):=Lib.hid (List.take_of_length_le (by rw [HLL.out];omega))
   have ho:=HO.out
   rw [HT.out] at ho
   have HOW:=Lib.hid ho
   clear ho HO hlt
   obtain ⟨av,cv,rfl,hcl⟩:=sorts_one HOW.out
   have HCL:=Lib.hid hcl
   clear hcl
   have e:R=0:=by
    rw [HRR.out]
    by_cases hl:L=[]
    ·rw [srt_leaf (shp_no HNO.out) hl];exact leaf_no _ _ _ HN1.out HN2.out HN3.out
    ·exact srt_leaf_no (shp_no HNO.out) hl
   have E:=Lib.hid e
   clear e
   go_wp2_with fail
   go_ret
   exact ⟨by rw [E.out];rfl,HBW.out⟩
end Go.Proofs.YtijkefflpojmhaaGreatDoor

namespace Go.Proofs.YtijkefflpojmhaaGreatDoor
open Go.RowKit
def PsC (n:Nat) (Wg:World):Prop := ∀ (x:Ex) (cs:List Value) (w:World),ExAt n w cs x→KOk n x→x.size≤1000→(∃ dd,SmX dd x)→Below Wg.heap.size Wg w →
 Calls Tryz.prog 73 #[.agg cs.toArray] w (U8P w (srtP x.kind x.rat x.name x.date (x.sub.map Ex.srt)))
theorem lfV_is {k:Int} {r n:ByteArray} {d:Int} {l:List Ex} {len:Nat} (hs:shpL k=none) (hl:l.length=len):lfV k r n d len=srtP k r n d (l.map Ex.srt):=by
 unfold lfV
 split
 ·rename_i h
  have:l=[]:=List.eq_nil_of_length_eq_zero (by omega)
  subst this
  exact (srt_leaf hs rfl).symm
 ·rename_i h
  exact (srt_leaf_no hs (by intro e;rw [List.map_eq_nil_iff] at e;rw [e] at hl;exact h hl.symm)).symm
set_option maxHeartbeats 2000000 in
set_option maxRecDepth 100000 in
theorem psort_leaf (kd:Int) (r nm:ByteArray) (d:Int) (a:Option Addr) (len cap:Nat) (l:List Ex) (w Wg:World) (hk0:0≤kd) (hk1:kd≤255) (hs:shpL kd=none) (hr:r.size≤2500) (hl:l.length=len) (hg:ShpAt Wg) (hb:Below Wg.heap.size Wg w) :
  Calls Tryz.prog 73 #[.agg #[.int .u8 kd,.string r,.string nm,.int .i64 d,.slice a len cap]] w (U8P w (srtP kd r nm d (l.map Ex.srt))):=by
 rw [← lfV_is hs hl]
 obtain ⟨W0,hW0⟩:∃ W0,W0=w.alloc (.cells #[.int .u8 kd,.string r,.string nm,.int .i64 d,.slice a len cap] 25):=⟨_,rfl⟩
 have hB0:Below w.heap.size w W0:=by rw [hW0];exact own_below w _
 have hbx:W0.heap[w.heap.size]? = some (.cells #[.int .u8 kd,.string r,.string nm,.int .i64 d,.slice a len cap] 25):=by rw [hW0];exact heap_alloc_new w _
 have hbg:Below Wg.heap.size Wg W0:=hb.trans (hB0.mono hb.size)
 obtain ⟨bm,hc,hkk⟩:=hg
 have hlook:=(hkk kd hk0 hk1).1 hs W0 hbg
 have hgc:W0.cell? ⟨1,0,none⟩=some (.map (some bm)):=((bcell hbg).1 _ _ (cell_lt (a:=⟨_,0,none⟩) hc)).trans hc
 have HLF:Hid (∀ W,Calls Tryz.prog 86 #[.agg #[.int .u8 kd,.string r,.string nm,.int .i64 d,.slice a len cap]] W (U8P W (lfV kd r nm d len))):=fun W => leaf_any kd r nm d a len cap W hr
 obtain ⟨R,hR⟩:∃ R,R=lfV kd r nm d len:=⟨_,rfl⟩
 rw [← hR] at HLF ⊢
 obtain ⟨c0,c1,c2,c3,c4⟩:=exCells hbx
 have hz:w.heap.size < W0.heap.size:=(Array.getElem?_eq_some_iff.1 hbx).1
 have HW0:=Lib.hid hW0
 have HB0:=Lib.hid hB0
 clear hR hW0 hB0 hbx hbg hc hkk hs hl hr hb hk0 hk1
 go_enter Tryz.func73,Tryz.ntmps73
 go_upto_region 1 with (fail)
 rw [← HW0.out]
 clear HW0
 go_wp2_with fail
 refine (HLF.out _).mono ?_
 rintro e w2 ⟨rfl,hb2⟩
 have HB2:=Lib.hid (((HB0.out.alloc HB0.out.size (.cells #[.slice none 0 0,.int .u8 0] 108))).trans (hb2.mono (by have:=HB0.out.size;rw [World.size_alloc];omega)))
 clear hb2
 go_wp2_with fail
 go_ret
 exact ⟨rfl,HB2.out⟩
theorem ine_false {a b:Int} (h:a=b):(a != b)=false:=by simpa using h
theorem ine_true {a b:Int} (h:a ≠ b):(a != b)=true:=by simpa using h
def PsR (W2:World) (l:List Ex) (ps:List Int) (len:Nat) (iv:Value) (wr:World):Prop :=
 ∃ k:Nat,k≤len∧iv = .int .i64 (k:Int)∧Hid (∀ i,i < k→((l.map Ex.srt)[i]?.getD 0)=(ps[i]?.getD 0))∧Below W2.heap.size W2 wr
theorem list_ext_getD {l ps:List Int} (hl:l.length=ps.length) (h:∀ i,i < l.length→l[i]?.getD 0=ps[i]?.getD 0):l=ps:=by
 apply List.ext_getElem hl
 intro i h1 h2
 have:=h i h1
 rwa [List.getElem?_eq_getElem h1,List.getElem?_eq_getElem h2] at this
set_option maxHeartbeats 4000000 in
set_option maxRecDepth 100000 in
theorem psort_parts {n:Nat} {Wg:World} (ih:PsC n Wg) (kd:Int) (r nm:ByteArray) (d:Int) (a:Option Addr) (len cap:Nat) (l:List Ex) (ps:List Int) (own:Int) (w:World) (hk0:0≤kd) (hk1:kd≤255) (hs:shpL kd=some (ps,own)) (hl:l.length=len) (hlb:len≤1000) (hg:ShpAt Wg) (hb:Below Wg.heap.size Wg w)
  (hko:∀ y ∈ l,KOk n y) (hzy:∀ y ∈ l,y.size≤1000) (hse:∀ y ∈ l,∃ dd,SmX dd y)
  (hat:len=0 ∨ ∃ g o,a=some ⟨g,o,none⟩∧g < w.heap.size ∧ ∀ i (hi:i < l.length),∃ cs',(∀ j,j < 5→w.cell? ⟨g,o+i*5+j,none⟩=cs'[j]?)∧ExAt n w cs' l[i]) :
  Calls Tryz.prog 73 #[.agg #[.int .u8 kd,.string r,.string nm,.int .i64 d,.slice a len cap]] w (U8P w (srtP kd r nm d (l.map Ex.srt))):=by
 obtain ⟨W0,hW0⟩:∃ W0,W0=w.alloc (.cells #[.int .u8 kd,.string r,.string nm,.int .i64 d,.slice a len cap] 25):=⟨_,rfl⟩
 have hB0:Below w.heap.size w W0:=by rw [hW0];exact own_below w _
 have hbx:W0.heap[w.heap.size]? = some (.cells #[.int .u8 kd,.string r,.string nm,.int .i64 d,.slice a len cap] 25):=by rw [hW0];exact heap_alloc_new w _
 have hbg:Below Wg.heap.size Wg W0:=hb.trans (hB0.mono hb.size)
 obtain ⟨bm,hc,hkk⟩:=hg
 obtain ⟨gs,os,cs,hgs,hlook',hcells⟩:=(hkk kd hk0 hk1).2 ps own hs
 have hlook:=hlook' W0 hbg
 have hgc:W0.cell? ⟨1,0,none⟩=some (.map (some bm)):=((bcell hbg).1 _ _ (cell_lt (a:=⟨_,0,none⟩) hc)).trans hc
 have HPC:Hid (∀ W,Below Wg.heap.size Wg W → ∀ i,i < ps.length→W.cell? ⟨gs,os+i,none⟩=some (.int .u8 (ps[i]?.getD 0))):=fun W hW i hi => ((bcell hW).1 _ _ hgs).trans (hcells i hi)
 obtain ⟨m,hm⟩:∃ m,m=ps.length:=⟨_,rfl⟩
 rw [← hm] at hlook HPC
 have hm3:m≤3:=by rw [hm];exact (shpL_pos hs).2
 obtain ⟨bl,ql⟩:∃ b,((len:Int) != (m:Int))=b:=⟨_,rfl⟩
 obtain ⟨br,qr⟩:∃ b,r.toList.isEmpty=b:=⟨_,rfl⟩
 obtain ⟨bn,qn⟩:∃ b,nm.toList.isEmpty=b:=⟨_,rfl⟩
 obtain ⟨bd,qd⟩:∃ b,((d:Int) != 0)=b:=⟨_,rfl⟩
 have HQL:Hid (bl=false ↔ len=m):=by show bl=false ↔ _;rw [← ql];simp;omega
 have HQB:Hid (bareB r nm d=(br && bn && !bd)):=by
  show bareB r nm d=_
  unfold bareB
  rw [← qr,← qn,← qd,toList_data,toList_data,bne,Bool.not_not]
 obtain ⟨R,hR⟩:∃ R,R=srtP kd r nm d (l.map Ex.srt):=⟨_,rfl⟩
 rw [← hR]
 have HRR:=Lib.hid hR
 have HSH:=Lib.hid hs
 obtain ⟨c0,c1,c2,c3,c4⟩:=exCells hbx
 have hz:w.heap.size < W0.heap.size:=(Array.getElem?_eq_some_iff.1 hbx).1
 have HW0:=Lib.hid hW0
 have HB0:=Lib.hid hB0
 have HBG:=Lib.hid hbg
 have HBX:=Lib.hid hbx
 have HM:=Lib.hid hm
 have HL:=Lib.hid hl
 have HI:=Lib.hid ih
 have HKO:=Lib.hid hko
 have HZY:=Lib.hid hzy
 have HSE:=Lib.hid hse
 have HAT:=Lib.hid hat
 obtain ⟨W1,hW1⟩:∃ W1,W1=W0.alloc (.cells #[.slice (some ⟨gs,os,none⟩) m cs,.int .u8 own] 108):=⟨_,rfl⟩
 have hB1:Below w.heap.size w W1:=by rw [hW1];exact hB0.alloc hB0.size _
 have hsb:W1.heap[W0.heap.size]? = some (.cells #[.slice (some ⟨gs,os,none⟩) m cs,.int .u8 own] 108):=by rw [hW1];exact heap_alloc_new W0 _
 have hbx1:W1.heap[w.heap.size]? = some (.cells #[.int .u8 kd,.string r,.string nm,.int .i64 d,.slice a len cap] 25):=by rw [hW1];exact (Below.heap_alloc W0 _ _ hz).trans hbx
 have HB1:=Lib.hid hB1
 have HSB:=Lib.hid hsb
 have HBX1:=Lib.hid hbx1
 have HG1:Hid (Below Wg.heap.size Wg W1):=hb.trans (hB1.mono hb.size)
 have HW1:=Lib.hid hW1
 have hz1:W0.heap.size < W1.heap.size:=(Array.getElem?_eq_some_iff.1 hsb).1
 clear hR hW0 hB0 hbx hbg hc hkk hs hl hb hk0 hk1 hlook' hcells hm ih hko hzy hse hat hB1 hsb hbx1 hgs hW1
 go_enter Tryz.func73,Tryz.ntmps73
 go_upto_region 1 with (fail)
 rw [← HW0.out]
 clear HW0
 go_upto_region 2 with (fail)
 rw [← HW1.out]
 clear HW1 c0 c1 c2 c3 c4
 obtain ⟨c0,c1,c2,c3,c4⟩:=exCells HBX1.out
 have s0:W1.cell? ⟨W0.heap.size,0,none⟩=some (.slice (some ⟨gs,os,none⟩) m cs):=exCell HSB.out 0
 have s1:W1.cell? ⟨W0.heap.size,1,none⟩=some (.int .u8 own):=exCell HSB.out 1
 cases bl with
 | true =>
  have e:R=0:=by
   rw [HRR.out]
   exact srt_ne HSH.out (list_len_ne (by
    rw [List.length_map,HL.out,← HM.out]
    intro h;have:=HQL.out.2 h;cases this))
  have E:=Lib.hid e
  clear e
  go_wp2_with fail
  go_ret
  exact ⟨by rw [E.out];rfl,HB1.out⟩
 | false =>
 cases br with
 | false =>
  have e:R=0:=by rw [HRR.out];exact srt_bare HSH.out (by rw [HQB.out];rfl)
  have E:=Lib.hid e
  clear e
  go_wp2_with fail
  go_ret
  exact ⟨by rw [E.out];rfl,HB1.out⟩
 | true =>
 cases bn with
 | false =>
  have e:R=0:=by rw [HRR.out];exact srt_bare HSH.out (by rw [HQB.out];rfl)
  have E:=Lib.hid e
  clear e
  go_wp2_with fail
  go_ret
  exact ⟨by rw [E.out];rfl,HB1.out⟩
 | true =>
 cases bd with
 | true =>
  have e:R=0:=by rw [HRR.out];exact srt_bare HSH.out (by rw [HQB.out];rfl)
  have E:=Lib.hid e
  clear e
  go_wp2_with fail
  go_ret
  exact ⟨by rw [E.out];rfl,HB1.out⟩
 | false =>
 have hlm:len=m:=HQL.out.1 rfl
 have HBA:Hid (bareB r nm d=true):=by show _=true;rw [HQB.out];rfl
 have HLM:=Lib.hid hlm
 clear hlm
 go_wp2_with fail
 go_loopw [5,6,43] (fun _ _ iv wr => PsR W1 l ps len iv wr) (fun _ _ iv _ => len - (intOf iv).toNat)
 case atStart => exact ⟨0,Nat.zero_le _,rfl,Lib.hid (fun i h => absurd h (Nat.not_lt_zero _)),Below.refl _ _⟩
 case round =>
  obtain ⟨w1,rfl⟩:∃ w1:World,w1=wr:=⟨_,rfl⟩
  obtain ⟨k,hk,rfl,HK,hb⟩:=hrel
  have HB:=Lib.hid hb
  have HBW:=Lib.hid (HB1.out.trans (hb.mono HB1.out.size))
  have hs0:w1.cell? ⟨W0.heap.size,0,none⟩=some (.slice (some ⟨gs,os,none⟩) m cs):=((bcell hb).1 _ _ hz1).trans s0
  have hs1:w1.cell? ⟨W0.heap.size,1,none⟩=some (.int .u8 own):=((bcell hb).1 _ _ hz1).trans s1
  clear hb c0 c1 c2 c3 c4 s0 s1
  by_cases hlt:k < len
  ·have hlt2:k < l.length:=by rw [HL.out];exact hlt
   rcases HAT.out with h0 | ⟨g,o,ha,hg,hel⟩
   ·omega
   ·subst ha
    obtain ⟨p1,l1,cc,⟨e0,e1,e2,e3,e4⟩,hx1⟩:=ExAt.elem (x:=Ex.mk 0 ByteArray.empty ByteArray.empty 0 l) hg HBW.out hlt2 hel
    have hym:l[k] ∈ l:=List.getElem_mem _
    simp only [Ex.sub] at e0 e1 e2 e3 hx1
    have hsk:(l.map Ex.srt)[k]?.getD 0=l[k].srt:=by rw [List.getElem?_map,List.getElem?_eq_getElem hlt2];rfl
    obtain ⟨y,hy⟩:∃ y,y=l[k]:=⟨_,rfl⟩
    rw [← hy] at e0 e1 e2 e3 hx1 hym hsk
    obtain ⟨V,hV⟩:∃ V,V=w1.alloc (.cells #[.int .u8 y.kind,.string y.rat,.string y.name,.int .i64 y.date,.slice p1 l1 cc] 25):=⟨_,rfl⟩
    have hbv:V.heap[w1.heap.size]? = some (.cells #[.int .u8 y.kind,.string y.rat,.string y.name,.int .i64 y.date,.slice p1 l1 cc] 25):=by rw [hV];exact heap_alloc_new w1 _
    have hBV:Below w1.heap.size w1 V:=by rw [hV];exact own_below w1 _
    have hz0:W0.heap.size < w1.heap.size:=Nat.lt_of_lt_of_le hz1 HB.out.size
    have hgv:Below Wg.heap.size Wg V:=HG1.out.trans ((HB.out.trans (hBV.mono HB.out.size)).mono HG1.out.size)
    obtain ⟨p,hp⟩:∃ p,p=ps[k]?.getD 0:=⟨_,rfl⟩
    have hkm:k < m:=by rw [← HLM.out];exact hlt
    have SBf:∀ W,Below V.heap.size V W→W.cell? ⟨w1.heap.size,0,none⟩=some (.int .u8 y.kind)∧W.cell? ⟨w1.heap.size,1,none⟩=some (.string y.rat)∧W.cell? ⟨w1.heap.size,2,none⟩=some (.string y.name)∧W.cell? ⟨w1.heap.size,3,none⟩=some (.int .i64 y.date)∧W.cell? ⟨w1.heap.size,4,none⟩=some (.slice p1 l1 cc) ∧
      W.cell? ⟨W0.heap.size,0,none⟩=some (.slice (some ⟨gs,os,none⟩) m cs)∧W.cell? ⟨gs,os+k,none⟩=some (.int .u8 p):=fun W hW => by
     obtain ⟨q0,q1,q2,q3,q4⟩:=exCells ((hW.block _ (Array.getElem?_eq_some_iff.1 hbv).1).trans hbv)
     have hVW:Below w1.heap.size w1 W:=hBV.trans (hW.mono hBV.size)
     exact ⟨q0,q1,q2,q3,q4,((bcell hVW).1 _ _ hz0).trans hs0,by rw [hp];exact HPC.out W (hgv.trans (hW.mono hgv.size)) k hkm⟩
    have hcall:∀ W,Below V.heap.size V W→Calls Tryz.prog 73 #[.agg #[.int .u8 y.kind,.string y.rat,.string y.name,.int .i64 y.date,.slice p1 l1 cc]] W (U8P W y.srt):=fun W hW => by
     have hVW:Below w1.heap.size w1 W:=hBV.trans (hW.mono hBV.size)
     have:=HI.out y _ W (ExAt.below hVW hx1) (HKO.out y hym) (HZY.out y hym) (HSE.out y hym) (hgv.trans (hW.mono hgv.size))
     rwa [← Ex.srt_is] at this
    obtain ⟨s,hs⟩:∃ s,s=y.srt:=⟨_,rfl⟩
    rw [← hs] at hcall hsk
    have HSF:=Lib.hid SBf
    have HCL:=Lib.hid hcall
    have HSK:=Lib.hid hsk
    have HP:=Lib.hid hp
    have HV:=Lib.hid hV
    have HBV:=Lib.hid hBV
    have HC0:Hid (Below V.heap.size V V):=Below.refl _ V
    have HC:Hid (Below V.heap.size V V.drew):=(Below.refl _ V).drew
    have hi0:(0:Int)≤(k:Int):=by omega
    have hi1:(k:Int) < (m:Int):=by omega
    by_cases hsp:s=p
    ·have qsp:((s:Int) != (p:Int))=false:=ine_false hsp
     have HSP:=Lib.hid hsp
     clear hel hx1 hym hy hbv hBV hgv SBf hcall hsk hs hp hV hsp hs0 hs1
     go_upto_region 9 with (fail)
     rw [← HV.out]
     clear HV e0 e1 e2 e3 e4
     obtain ⟨q0,q1,q2,q3,q4,q5,q6⟩:=HSF.out V HC0.out
     go_region_held3 (fun W => W.cell? ⟨w1.heap.size,0,none⟩=some (.int .u8 y.kind)∧W.cell? ⟨w1.heap.size,1,none⟩=some (.string y.rat)∧W.cell? ⟨w1.heap.size,2,none⟩=some (.string y.name)∧W.cell? ⟨w1.heap.size,3,none⟩=some (.int .i64 y.date)∧W.cell? ⟨w1.heap.size,4,none⟩=some (.slice p1 l1 cc) ∧
      W.cell? ⟨W0.heap.size,0,none⟩=some (.slice (some ⟨gs,os,none⟩) m cs)∧W.cell? ⟨gs,os+k,none⟩=some (.int .u8 p))
      ((first | with_reducible exact HSF.out _ HC.out | with_reducible exact HSF.out _ HC0.out))
      ((go_at_call 73;refine (HCL.out _ HC.out).mono ?_;rintro e u ⟨rfl,hb⟩;have HC:=Lib.hid (HC.out.trans (hb.mono HC.out.size));clear hb))
     have HNX:=Lib.hid ((HB.out.trans (HBV.out.mono HB.out.size)).trans (HC.out.mono (Nat.le_trans HB.out.size HBV.out.size)))
     clear q0 q1 q2 q3 q4 q5 q6
     go_wp2_with fail
     go_roundw
     case rel => exact ⟨k+1,by omega,by go_num,Lib.hid (fun i hi => by
      rcases Nat.lt_or_ge i k with h | h
      ·exact HK.out i h
      ·obtain rfl:i=k:=by omega
       rw [HSK.out,← HP.out];exact HSP.out),HNX.out⟩
     case measure => simp [intOf] <;> omega
    ·have qsp:((s:Int) != (p:Int))=true:=ine_true hsp
     have e:R=0:=by
      rw [HRR.out]
      exact srt_ne HSH.out (list_at_ne (i:=k) (by rw [HSK.out,← HP.out];exact hsp))
     have E:=Lib.hid e
     clear hel hx1 hym hy hbv hBV hgv SBf hcall hsk hs hp hV hsp hs0 hs1 e
     go_upto_region 9 with (fail)
     rw [← HV.out]
     clear HV e0 e1 e2 e3 e4
     obtain ⟨q0,q1,q2,q3,q4,q5,q6⟩:=HSF.out V HC0.out
     go_region_held3 (fun W => W.cell? ⟨w1.heap.size,0,none⟩=some (.int .u8 y.kind)∧W.cell? ⟨w1.heap.size,1,none⟩=some (.string y.rat)∧W.cell? ⟨w1.heap.size,2,none⟩=some (.string y.name)∧W.cell? ⟨w1.heap.size,3,none⟩=some (.int .i64 y.date)∧W.cell? ⟨w1.heap.size,4,none⟩=some (.slice p1 l1 cc) ∧
      W.cell? ⟨W0.heap.size,0,none⟩=some (.slice (some ⟨gs,os,none⟩) m cs)∧W.cell? ⟨gs,os+k,none⟩=some (.int .u8 p))
      ((first | with_reducible exact HSF.out _ HC.out | with_reducible exact HSF.out _ HC0.out))
      ((go_at_call 73;refine (HCL.out _ HC.out).mono ?_;rintro e u ⟨rfl,hb⟩;have HC:=Lib.hid (HC.out.trans (hb.mono HC.out.size));clear hb))
     have HNX:=Lib.hid (HB1.out.trans (((HB.out.trans (HBV.out.mono HB.out.size)).trans (HC.out.mono (Nat.le_trans HB.out.size HBV.out.size))).mono HB1.out.size))
     clear q0 q1 q2 q3 q4 q5 q6
     go_wp2_with fail
     go_ret
     exact ⟨by rw [E.out];rfl,HNX.out⟩
  ·have e:R=own:=by
    rw [HRR.out]
    refine srt_yes HSH.out HBA.out (list_ext_getD (by rw [List.length_map,HL.out,HLM.out,HM.out]) (fun i hi => HK.out i ?_))
    rw [List.length_map,HL.out] at hi;omega
   have E:=Lib.hid e
   clear e
   go_wp2_with fail
   go_ret
   exact ⟨by rw [E.out];rfl,HBW.out⟩
theorem psort_any {Wg:World} (hg:ShpAt Wg):∀ n,PsC n Wg:=by
 intro n
 induction n with
 | zero => intro x cs w h;exact h.elim
 | succ n ih =>
  intro x cs w h hk hz hsm hb
  obtain ⟨hkr,hko⟩:=hk
  obtain ⟨k,r,nm,d,l⟩:=x
  have hsl:=(Ex.mk k r nm d l).sub_len
  obtain ⟨a,len,cap,rfl,hlen,hat⟩:=h
  obtain ⟨hrz,hse⟩:=sm_parts hsm
  cases hs:shpL k with
  | none => exact psort_leaf k r nm d a len cap l w Wg hkr.1 hkr.2 hs hrz.1 hlen hg hb
  | some q =>
   obtain ⟨ps,own⟩:=q
   exact psort_parts ih k r nm d a len cap l ps own w hkr.1 hkr.2 hs hlen (by omega) hg hb hko (fun y hy => by have:=Ex.sub_size (x:=Ex.mk k r nm d l) hy;omega) hse hat
end Go.Proofs.YtijkefflpojmhaaGreatDoor
