/-
  The reference's Sort of an expression, walked: some kinds. No condition but the size.
-/
import Derived.Test.YtijkefflpojmhaaGreatDoorZaf
namespace Go.Proofs.YtijkefflpojmhaaGreatDoor
open Go.RowKit
set_option maxHeartbeats 4000000 in
set_option maxRecDepth 100000 in
theorem rsort_1 {n:Nat} (ih:RsC n) (r nm:ByteArray) (d:Int) (l:List Ex) (cs:List Value) (w:World) (h:ExAt (n+1) w cs (Ex.mk 1 r nm d l)) (hz:(Ex.mk 1 r nm d l).size≤1000) (hsm:∃ dd,SmX dd (Ex.mk 1 r nm d l)) :
  Calls Tryz.prog 81 #[.agg cs.toArray] w (IntP w (srtP 1 r nm d (l.map Ex.srt))):=by
 obtain ⟨a,len,cap,rfl,hlen,hsub⟩:=h
 have hlen2:l.length=len:=hlen
 have hsl:=(Ex.mk 1 r nm d l).sub_len
 have hlb:len≤1000:=by omega
 have hsub2:len=0 ∨ ∃ g o,a=some ⟨g,o,none⟩∧g < w.heap.size ∧ ∀ i (hi:i < l.length),∃ cs',(∀ j,j < 5→w.cell? ⟨g,o+i*5+j,none⟩=cs'[j]?)∧ExAt n w cs' l[i]:=hsub
 obtain ⟨i0,hi,hz0,hz1,hz2⟩:=info_parts infoInt64
 obtain ⟨hrz,hse⟩:=sm_parts hsm
 have HZY:Hid (∀ y ∈ l,y.size≤1000):=fun y hy => by have:=Ex.sub_size (x:=Ex.mk 1 r nm d l) hy;omega
 have HSE:=Lib.hid hse
 have HI:=Lib.hid ih
 have HS:=Lib.hid hsub2
 have HLEN:=Lib.hid hlen2
 have HI0:=Lib.hid hi
 have HI1:=Lib.hid hz0
 have HI2:=Lib.hid hz1
 have HI3:=Lib.hid hz2
 obtain ⟨L,hL⟩:∃ L,L=l.map Ex.srt:=⟨_,rfl⟩
 have HLL:Hid (L.length=len):=by rw [hL];show (l.map Ex.srt).length=len;rw [List.length_map];exact hlen2
 have HL:=Lib.hid hL
 rw [← hL]
 obtain ⟨br,qr⟩:∃ b,r.toList.isEmpty=b:=⟨_,rfl⟩
 obtain ⟨bn,qn⟩:∃ b,nm.toList.isEmpty=b:=⟨_,rfl⟩
 obtain ⟨bd,qd⟩:∃ b,((d:Int) == 0)=b:=⟨_,rfl⟩
 obtain ⟨bb,hbb⟩:∃ b,b=(br && bn && bd):=⟨_,rfl⟩
 have HBB:Hid (bb=bareB r nm d):=by
  show bb=_
  unfold bareB
  rw [hbb,← qr,← qn,← qd,toList_data,toList_data]
 have HBV:=Lib.hid hbb
 have HQR:Hid (r.data.toList.isEmpty=br):=by show _=br;rw [← qr,toList_data]
 have HQN:Hid (nm.data.toList.isEmpty=bn):=by show _=bn;rw [← qn,toList_data]
 have HQD:Hid (bd=true ↔ d=0):=by show bd=true ↔ _;rw [← qd];simp
 obtain ⟨R,hR⟩:∃ R,R=srtP 1 r nm d L:=⟨_,rfl⟩
 rw [← hR]
 have HRR:=Lib.hid hR
 clear ih hsub hsub2 hlen hlen2 hz hsl hi hz0 hz1 hz2 hL hsm hse hbb hR
 show Calls Tryz.prog 81 #[.agg #[.int .u8 1,.string r,.string nm,.int .i64 d,.slice a len cap]] w _
 go_enter Tryz.func81,Tryz.ntmps81
 go_upto_region 1 with (fail)
 obtain ⟨W0,hW0⟩:∃ W0,W0=w.alloc (.cells #[.int .u8 1,.string r,.string nm,.int .i64 d,.slice a len cap] 25):=⟨_,rfl⟩
 have hbx:W0.heap[w.heap.size]? = some (.cells #[.int .u8 1,.string r,.string nm,.int .i64 d,.slice a len cap] 25):=by rw [hW0];exact heap_alloc_new w _
 have hB0:Below w.heap.size w W0:=by rw [hW0];exact own_below w _
 have hzW:w.heap.size < W0.heap.size:=(Array.getElem?_eq_some_iff.1 hbx).1
 rw [← hW0]
 have HBX:=Lib.hid hbx
 have HB0:=Lib.hid hB0
 obtain ⟨c0,c1,c2,c3,c4⟩:=exCells hbx
 clear hW0 hbx hB0
 go_cut [3] (fun s wx => s = .bool bb∧W0=wx)
 case first => as_aux_lemma =>
  have E:=HBV.out
  cases br with
  | false =>
   have e:bb=false:=by rw [E];rfl
   have EE:=Lib.hid e
   clear e E
   go_wp2_with fail
   go_meet
   exact ⟨by rw [EE.out],rfl⟩
  | true =>
   cases bn with
   | false =>
    have e:bb=false:=by rw [E];rfl
    have EE:=Lib.hid e
    clear e E
    go_wp2_with fail
    go_meet
    exact ⟨by rw [EE.out],rfl⟩
   | true =>
    have e:bb=bd:=by rw [E];rfl
    have EE:=Lib.hid e
    clear e E
    go_wp2_with fail
    go_meet
    exact ⟨by rw [EE.out],rfl⟩
 case rest =>
 obtain ⟨rfl,rfl⟩:=hcut
 clear c0 c1 c2 c3 c4
 go_wp2_with fail
 go_loopw [4,5] (fun lv iv wr => RsR W0 L len lv iv wr) (fun _ iv _ => len - (intOf iv).toNat)
 case atStart => exact ⟨0,Nat.zero_le _,rfl,Lib.hid ⟨by simp [ints],.inl ⟨rfl,rfl⟩⟩,Below.refl _ _⟩
 case round =>
  obtain ⟨w1,rfl⟩:∃ w1:World,w1=wr:=⟨_,rfl⟩
  obtain ⟨v,hv⟩:∃ v:Value,v=u4:=⟨_,rfl⟩
  rw [← hv] at hrel ⊢
  clear hv
  obtain ⟨k,hk,rfl,HO,hb⟩:=hrel
  have hBW:=HB0.out.trans (hb.mono HB0.out.size)
  have HBW:=Lib.hid hBW
  obtain ⟨c0,c1,c2,c3,c4⟩:=exCells ((hb.block _ hzW).trans HBX.out)
  have HB:=Lib.hid hb
  clear hb
  by_cases hlt:k < len
  ·have hlt2:k < l.length:=by rw [HLEN.out];exact hlt
   rcases HS.out with h0 | ⟨g,o,ha,hg,hel⟩
   ·omega
   ·subst ha
    obtain ⟨p1,l1,cc,⟨e0,e1,e2,e3,e4⟩,hx1⟩:=ExAt.elem (x:=Ex.mk 0 ByteArray.empty ByteArray.empty 0 l) hg hBW hlt2 hel
    have hym:l[k] ∈ l:=List.getElem_mem _
    simp only [Ex.sub] at e0 e1 e2 e3 hx1
    have hT:L.take (k+1)=L.take k ++ [l[k].srt]:=by
     have e:=HL.out
     subst e
     rw [List.take_succ_eq_append_getElem (by simpa using hlt2)];simp
    obtain ⟨y,hy⟩:∃ y,y=l[k]:=⟨_,rfl⟩
    rw [← hy] at e0 e1 e2 e3 hx1 hT hym
    have hC:=HI.out y _ w1 hx1 (HZY.out y hym) (HSE.out y hym)
    rw [← Ex.srt_is] at hC
    obtain ⟨s,hs⟩:∃ s,s=y.srt:=⟨_,rfl⟩
    rw [← hs] at hC hT
    have HC:=Lib.hid hC
    have HT:=Lib.hid hT
    clear hC hT hs hy hym hx1 hel hBW
    go_wp2_with fail
    refine HC.out.mono ?_
    rintro e u ⟨rfl,hbu⟩
    have hou:=(World.ownsRow.kept (w:=w1) HO.out ⟨hbu.os,hbu.tape,hbu.output,hbu.size,fun i hi _ => hbu.block i hi⟩ (row:=none) (by cases v.ownBlock <;> simp))
    have HOA:=Lib.hid (hou.alloc (.cells #[.int .i64 s] 3))
    have HNW:=Lib.hid (World.news_of_block (heap_alloc_new u (.cells #[.int .i64 s] 3)))
    have HBS:=Lib.hid (show W0.heap.size≤(u.alloc (.cells #[.int .i64 s] 3)).heap.size by rw [World.size_alloc];have:=hbu.size;have:=HB.out.size;omega)
    have HBU:=Lib.hid ((HB.out.trans (hbu.mono HB.out.size)).alloc (by have:=hbu.size;have:=HB.out.size;omega) (.cells #[.int .i64 s] 3))
    clear hou hbu e0 e1 e2 e3 e4 c0 c1 c2 c3 c4
    go_wp2_with (at_builtin;refine wpList_append_own _ rfl _ _ 26 rfl W0.heap.size 3 i0 (.int .i64 0) 1 8 Tryz.underlying26 HI0.out HI1.out HI2.out HI3.out rfl (by decide) _ _ _ rfl HOA.out ⟨u.heap.size,0,none⟩ 1 1 [.int .i64 s] rfl rfl HNW.out (one_cell (by rfl)) (by unfold maxLen;omega) (by omega) HBS.out ?_)
    intro v' w3 hown' hgrow _
    have HR:Hid (RsR W0 L len v' (.int .i64 ((k+1:Nat):Int)) w3):=⟨k+1,hlt,rfl,Lib.hid (by rw [HT.out,← ints_snoc];exact hown'),HBU.out.grown hgrow HBU.out.size (fun q hq => (HOA.out.lt q hq).1)⟩
    clear hown' hgrow
    go_wp2_with fail
    go_roundw
    case rel => exact HR.out
    case measure => simp [intOf] <;> omega
  ·have hke:k=len:=by omega
   subst hke
   have HT:Hid (L.take k=L):=Lib.hid (List.take_of_length_le (by rw [HLL.out];omega))
   have ho:=HO.out
   rw [HT.out] at ho
   have HOW:=Lib.hid ho
   clear ho HO hlt
   obtain ⟨av,cv,rfl,hcl⟩:=sorts_one HOW.out
   have HCL:=Lib.hid hcl
   clear hcl
   have hshp:Hid (shpL 1=none):=shp_no (by decide)
   by_cases hk0:k=0
   ·have qk:((k:Int) == 0)=true:=ieq_true (by omega)
    have hl:L=[]:=List.eq_nil_of_length_eq_zero (by rw [HLL.out];exact hk0)
    have HLV:Hid (R=leafV 1 r nm d):=by show R=_;rw [HRR.out];exact srt_leaf hshp.out hl
    clear hl hk0
    have HCK:Hid (∀ W,Calls Tryz.prog 95 #[.string r] W (ErrPost W (chkR r.data.toList))):=fun W => rrat_any r W (by have:=hrz.1;omega)
    obtain ⟨z,hzz⟩:∃ z,z=chkR r.data.toList:=⟨_,rfl⟩
    rw [← hzz] at HCK
    have HZZ:=Lib.hid hzz
    clear hzz
    cases bn with
    | false =>
     have e:R=0:=by rw [HLV.out];simp [leafV,HQN.out]
     have E:=Lib.hid e
     clear e
     go_wp2_with fail
     go_ret
     exact ⟨by rw [E.out];rfl,HBW.out⟩
    | true =>
     cases bd with
     | false =>
      have e:R=0:=by
       have hd:d ≠ 0:=fun h => by have:=HQD.out.2 h;cases this
       rw [HLV.out];simp [leafV,hd]
      have E:=Lib.hid e
      clear e
      go_wp2_with fail
      go_ret
      exact ⟨by rw [E.out];rfl,HBW.out⟩
     | true =>
      have hd:d=0:=HQD.out.1 rfl
      have HD:=Lib.hid hd
      clear hd
      by_cases hz0:z=0
      ·have qz:((z:Int) == 0)=true:=ieq_true hz0
       have e:R=1:=by rw [HLV.out];simp [leafV,HQN.out,HD.out,← HZZ.out,hz0]
       have E:=Lib.hid e
       clear e hz0
       go_wp2_with fail
       refine (HCK.out _).mono ?_
       rintro e w2 ⟨rfl,hb2⟩
       have HB2:=Lib.hid (HBW.out.trans (hb2.mono HBW.out.size))
       clear hb2
       go_wp2_with fail
       go_ret
       exact ⟨by rw [E.out];rfl,HB2.out⟩
      ·have qz:((z:Int) == 0)=false:=ieq_false hz0
       have e:R=0:=by rw [HLV.out];simp [leafV,← HZZ.out,hz0]
       have E:=Lib.hid e
       clear e hz0
       go_wp2_with fail
       refine (HCK.out _).mono ?_
       rintro e w2 ⟨rfl,hb2⟩
       have HB2:=Lib.hid (HBW.out.trans (hb2.mono HBW.out.size))
       obtain ⟨d0,d1,d2,d3,d4⟩:=exCells ((hb2.block _ (Nat.lt_of_lt_of_le hzW HB.out.size)).trans ((HB.out.block _ hzW).trans HBX.out))
       clear hb2 c0 c1 c2 c3 c4
       go_wp2_with fail
       go_ret
       exact ⟨by rw [E.out];rfl,HB2.out⟩
   ·have qk:((k:Int) == 0)=false:=ieq_false (by omega)
    have e:R=0:=by rw [HRR.out];exact srt_leaf_no hshp.out (fun e => hk0 (by rw [← HLL.out,e];rfl))
    clear hk0
    have E:=Lib.hid e
    clear e
    go_wp2_with fail
    go_ret
    exact ⟨by rw [E.out];rfl,HBW.out⟩
set_option maxHeartbeats 4000000 in
set_option maxRecDepth 100000 in
theorem rsort_2 {n:Nat} (ih:RsC n) (r nm:ByteArray) (d:Int) (l:List Ex) (cs:List Value) (w:World) (h:ExAt (n+1) w cs (Ex.mk 2 r nm d l)) (hz:(Ex.mk 2 r nm d l).size≤1000) (hsm:∃ dd,SmX dd (Ex.mk 2 r nm d l)) :
  Calls Tryz.prog 81 #[.agg cs.toArray] w (IntP w (srtP 2 r nm d (l.map Ex.srt))):=by
 obtain ⟨a,len,cap,rfl,hlen,hsub⟩:=h
 have hlen2:l.length=len:=hlen
 have hsl:=(Ex.mk 2 r nm d l).sub_len
 have hlb:len≤1000:=by omega
 have hsub2:len=0 ∨ ∃ g o,a=some ⟨g,o,none⟩∧g < w.heap.size ∧ ∀ i (hi:i < l.length),∃ cs',(∀ j,j < 5→w.cell? ⟨g,o+i*5+j,none⟩=cs'[j]?)∧ExAt n w cs' l[i]:=hsub
 obtain ⟨i0,hi,hz0,hz1,hz2⟩:=info_parts infoInt64
 obtain ⟨hrz,hse⟩:=sm_parts hsm
 have HZY:Hid (∀ y ∈ l,y.size≤1000):=fun y hy => by have:=Ex.sub_size (x:=Ex.mk 2 r nm d l) hy;omega
 have HSE:=Lib.hid hse
 have HI:=Lib.hid ih
 have HS:=Lib.hid hsub2
 have HLEN:=Lib.hid hlen2
 have HI0:=Lib.hid hi
 have HI1:=Lib.hid hz0
 have HI2:=Lib.hid hz1
 have HI3:=Lib.hid hz2
 obtain ⟨L,hL⟩:∃ L,L=l.map Ex.srt:=⟨_,rfl⟩
 have HLL:Hid (L.length=len):=by rw [hL];show (l.map Ex.srt).length=len;rw [List.length_map];exact hlen2
 have HL:=Lib.hid hL
 rw [← hL]
 obtain ⟨br,qr⟩:∃ b,r.toList.isEmpty=b:=⟨_,rfl⟩
 obtain ⟨bn,qn⟩:∃ b,nm.toList.isEmpty=b:=⟨_,rfl⟩
 obtain ⟨bd,qd⟩:∃ b,((d:Int) == 0)=b:=⟨_,rfl⟩
 obtain ⟨bb,hbb⟩:∃ b,b=(br && bn && bd):=⟨_,rfl⟩
 have HBB:Hid (bb=bareB r nm d):=by
  show bb=_
  unfold bareB
  rw [hbb,← qr,← qn,← qd,toList_data,toList_data]
 have HBV:=Lib.hid hbb
 have HQR:Hid (r.data.toList.isEmpty=br):=by show _=br;rw [← qr,toList_data]
 have HQN:Hid (nm.data.toList.isEmpty=bn):=by show _=bn;rw [← qn,toList_data]
 have HQD:Hid (bd=true ↔ d=0):=by show bd=true ↔ _;rw [← qd];simp
 obtain ⟨R,hR⟩:∃ R,R=srtP 2 r nm d L:=⟨_,rfl⟩
 rw [← hR]
 have HRR:=Lib.hid hR
 clear ih hsub hsub2 hlen hlen2 hz hsl hi hz0 hz1 hz2 hL hsm hse hbb hR
 show Calls Tryz.prog 81 #[.agg #[.int .u8 2,.string r,.string nm,.int .i64 d,.slice a len cap]] w _
 go_enter Tryz.func81,Tryz.ntmps81
 go_upto_region 1 with (fail)
 obtain ⟨W0,hW0⟩:∃ W0,W0=w.alloc (.cells #[.int .u8 2,.string r,.string nm,.int .i64 d,.slice a len cap] 25):=⟨_,rfl⟩
 have hbx:W0.heap[w.heap.size]? = some (.cells #[.int .u8 2,.string r,.string nm,.int .i64 d,.slice a len cap] 25):=by rw [hW0];exact heap_alloc_new w _
 have hB0:Below w.heap.size w W0:=by rw [hW0];exact own_below w _
 have hzW:w.heap.size < W0.heap.size:=(Array.getElem?_eq_some_iff.1 hbx).1
 rw [← hW0]
 have HBX:=Lib.hid hbx
 have HB0:=Lib.hid hB0
 obtain ⟨c0,c1,c2,c3,c4⟩:=exCells hbx
 clear hW0 hbx hB0
 go_cut [3] (fun s wx => s = .bool bb∧W0=wx)
 case first => as_aux_lemma =>
  have E:=HBV.out
  cases br with
  | false =>
   have e:bb=false:=by rw [E];rfl
   have EE:=Lib.hid e
   clear e E
   go_wp2_with fail
   go_meet
   exact ⟨by rw [EE.out],rfl⟩
  | true =>
   cases bn with
   | false =>
    have e:bb=false:=by rw [E];rfl
    have EE:=Lib.hid e
    clear e E
    go_wp2_with fail
    go_meet
    exact ⟨by rw [EE.out],rfl⟩
   | true =>
    have e:bb=bd:=by rw [E];rfl
    have EE:=Lib.hid e
    clear e E
    go_wp2_with fail
    go_meet
    exact ⟨by rw [EE.out],rfl⟩
 case rest =>
 obtain ⟨rfl,rfl⟩:=hcut
 clear c0 c1 c2 c3 c4
 go_wp2_with fail
 go_loopw [4,5] (fun lv iv wr => RsR W0 L len lv iv wr) (fun _ iv _ => len - (intOf iv).toNat)
 case atStart => exact ⟨0,Nat.zero_le _,rfl,Lib.hid ⟨by simp [ints],.inl ⟨rfl,rfl⟩⟩,Below.refl _ _⟩
 case round =>
  obtain ⟨w1,rfl⟩:∃ w1:World,w1=wr:=⟨_,rfl⟩
  obtain ⟨v,hv⟩:∃ v:Value,v=u4:=⟨_,rfl⟩
  rw [← hv] at hrel ⊢
  clear hv
  obtain ⟨k,hk,rfl,HO,hb⟩:=hrel
  have hBW:=HB0.out.trans (hb.mono HB0.out.size)
  have HBW:=Lib.hid hBW
  obtain ⟨c0,c1,c2,c3,c4⟩:=exCells ((hb.block _ hzW).trans HBX.out)
  have HB:=Lib.hid hb
  clear hb
  by_cases hlt:k < len
  ·have hlt2:k < l.length:=by rw [HLEN.out];exact hlt
   rcases HS.out with h0 | ⟨g,o,ha,hg,hel⟩
   ·omega
   ·subst ha
    obtain ⟨p1,l1,cc,⟨e0,e1,e2,e3,e4⟩,hx1⟩:=ExAt.elem (x:=Ex.mk 0 ByteArray.empty ByteArray.empty 0 l) hg hBW hlt2 hel
    have hym:l[k] ∈ l:=List.getElem_mem _
    simp only [Ex.sub] at e0 e1 e2 e3 hx1
    have hT:L.take (k+1)=L.take k ++ [l[k].srt]:=by
     have e:=HL.out
     subst e
     rw [List.take_succ_eq_append_getElem (by simpa using hlt2)];simp
    obtain ⟨y,hy⟩:∃ y,y=l[k]:=⟨_,rfl⟩
    rw [← hy] at e0 e1 e2 e3 hx1 hT hym
    have hC:=HI.out y _ w1 hx1 (HZY.out y hym) (HSE.out y hym)
    rw [← Ex.srt_is] at hC
    obtain ⟨s,hs⟩:∃ s,s=y.srt:=⟨_,rfl⟩
    rw [← hs] at hC hT
    have HC:=Lib.hid hC
    have HT:=Lib.hid hT
    clear hC hT hs hy hym hx1 hel hBW
    go_wp2_with fail
    refine HC.out.mono ?_
    rintro e u ⟨rfl,hbu⟩
    have hou:=(World.ownsRow.kept (w:=w1) HO.out ⟨hbu.os,hbu.tape,hbu.output,hbu.size,fun i hi _ => hbu.block i hi⟩ (row:=none) (by cases v.ownBlock <;> simp))
    have HOA:=Lib.hid (hou.alloc (.cells #[.int .i64 s] 3))
    have HNW:=Lib.hid (World.news_of_block (heap_alloc_new u (.cells #[.int .i64 s] 3)))
    have HBS:=Lib.hid (show W0.heap.size≤(u.alloc (.cells #[.int .i64 s] 3)).heap.size by rw [World.size_alloc];have:=hbu.size;have:=HB.out.size;omega)
    have HBU:=Lib.hid ((HB.out.trans (hbu.mono HB.out.size)).alloc (by have:=hbu.size;have:=HB.out.size;omega) (.cells #[.int .i64 s] 3))
    clear hou hbu e0 e1 e2 e3 e4 c0 c1 c2 c3 c4
    go_wp2_with (at_builtin;refine wpList_append_own _ rfl _ _ 26 rfl W0.heap.size 3 i0 (.int .i64 0) 1 8 Tryz.underlying26 HI0.out HI1.out HI2.out HI3.out rfl (by decide) _ _ _ rfl HOA.out ⟨u.heap.size,0,none⟩ 1 1 [.int .i64 s] rfl rfl HNW.out (one_cell (by rfl)) (by unfold maxLen;omega) (by omega) HBS.out ?_)
    intro v' w3 hown' hgrow _
    have HR:Hid (RsR W0 L len v' (.int .i64 ((k+1:Nat):Int)) w3):=⟨k+1,hlt,rfl,Lib.hid (by rw [HT.out,← ints_snoc];exact hown'),HBU.out.grown hgrow HBU.out.size (fun q hq => (HOA.out.lt q hq).1)⟩
    clear hown' hgrow
    go_wp2_with fail
    go_roundw
    case rel => exact HR.out
    case measure => simp [intOf] <;> omega
  ·have hke:k=len:=by omega
   subst hke
   have HT:Hid (L.take k=L):=Lib.hid (List.take_of_length_le (by rw [HLL.out];omega))
   have ho:=HO.out
   rw [HT.out] at ho
   have HOW:=Lib.hid ho
   clear ho HO hlt
   obtain ⟨av,cv,rfl,hcl⟩:=sorts_one HOW.out
   have HCL:=Lib.hid hcl
   clear hcl
   have hshp:Hid (shpL 2=none):=shp_no (by decide)
   by_cases hk0:k=0
   ·have qk:((k:Int) == 0)=true:=ieq_true (by omega)
    have hl:L=[]:=List.eq_nil_of_length_eq_zero (by rw [HLL.out];exact hk0)
    have HLV:Hid (R=leafV 2 r nm d):=by show R=_;rw [HRR.out];exact srt_leaf hshp.out hl
    clear hl hk0
    have HNM:Hid (∀ W,Calls Tryz.prog 61 #[.string nm] W (fun e w' => e = .returned (.bool (nmB nm.data.toList))∧W=w')):=fun W => rname_any nm W
    obtain ⟨nb,hnb⟩:∃ z,z=nmB nm.data.toList:=⟨_,rfl⟩
    rw [← hnb] at HNM
    have HNB:=Lib.hid hnb
    clear hnb
    cases br with
    | false =>
     have e:R=0:=by rw [HLV.out];simp [leafV,HQR.out]
     have E:=Lib.hid e
     clear e
     go_wp2_with fail
     go_ret
     exact ⟨by rw [E.out];rfl,HBW.out⟩
    | true =>
     cases nb with
     | false =>
      have e:R=0:=by rw [HLV.out];simp [leafV,← HNB.out]
      have E:=Lib.hid e
      clear e
      go_wp2_with fail
      refine (HNM.out _).mono ?_
      rintro e w2 ⟨rfl,rfl⟩
      go_wp2_with fail
      go_ret
      exact ⟨by rw [E.out];rfl,HBW.out⟩
     | true =>
      have HDY:Hid (∀ W,Calls Tryz.prog 65 #[.int .i64 d] W (fun e w' => e = .returned (.bool (decide (0≤d) && decide (d≤99999)))∧W=w')):=fun W => rdayok_any d W
      obtain ⟨db,hdb⟩:∃ z,z=(decide (0≤d) && decide (d≤99999)):=⟨_,rfl⟩
      rw [← hdb] at HDY
      have e:R=if db=true then 1 else 0:=by
       rw [HLV.out,hdb];simp [leafV,HQR.out,← HNB.out]
      clear hdb
      cases db with
      | false =>
       have E:Hid (R=0):=by show R=0;rw [e];rfl
       clear e
       go_wp2_with fail
       refine (HNM.out _).mono ?_
       rintro e w2 ⟨rfl,rfl⟩
       go_wp2_with fail
       refine (HDY.out _).mono ?_
       rintro e w2 ⟨rfl,rfl⟩
       go_wp2_with fail
       go_ret
       exact ⟨by rw [E.out];rfl,HBW.out⟩
      | true =>
       have E:Hid (R=1):=by show R=1;rw [e];rfl
       clear e
       go_wp2_with fail
       refine (HNM.out _).mono ?_
       rintro e w2 ⟨rfl,rfl⟩
       go_wp2_with fail
       refine (HDY.out _).mono ?_
       rintro e w2 ⟨rfl,rfl⟩
       go_wp2_with fail
       go_ret
       exact ⟨by rw [E.out];rfl,HBW.out⟩
   ·have qk:((k:Int) == 0)=false:=ieq_false (by omega)
    have e:R=0:=by rw [HRR.out];exact srt_leaf_no hshp.out (fun e => hk0 (by rw [← HLL.out,e];rfl))
    clear hk0
    have E:=Lib.hid e
    clear e
    go_wp2_with fail
    go_ret
    exact ⟨by rw [E.out];rfl,HBW.out⟩
set_option maxHeartbeats 4000000 in
set_option maxRecDepth 100000 in
theorem rsort_3 {n:Nat} (ih:RsC n) (r nm:ByteArray) (d:Int) (l:List Ex) (cs:List Value) (w:World) (h:ExAt (n+1) w cs (Ex.mk 3 r nm d l)) (hz:(Ex.mk 3 r nm d l).size≤1000) (hsm:∃ dd,SmX dd (Ex.mk 3 r nm d l)) :
  Calls Tryz.prog 81 #[.agg cs.toArray] w (IntP w (srtP 3 r nm d (l.map Ex.srt))):=by
 obtain ⟨a,len,cap,rfl,hlen,hsub⟩:=h
 have hlen2:l.length=len:=hlen
 have hsl:=(Ex.mk 3 r nm d l).sub_len
 have hlb:len≤1000:=by omega
 have hsub2:len=0 ∨ ∃ g o,a=some ⟨g,o,none⟩∧g < w.heap.size ∧ ∀ i (hi:i < l.length),∃ cs',(∀ j,j < 5→w.cell? ⟨g,o+i*5+j,none⟩=cs'[j]?)∧ExAt n w cs' l[i]:=hsub
 obtain ⟨i0,hi,hz0,hz1,hz2⟩:=info_parts infoInt64
 obtain ⟨hrz,hse⟩:=sm_parts hsm
 have HZY:Hid (∀ y ∈ l,y.size≤1000):=fun y hy => by have:=Ex.sub_size (x:=Ex.mk 3 r nm d l) hy;omega
 have HSE:=Lib.hid hse
 have HI:=Lib.hid ih
 have HS:=Lib.hid hsub2
 have HLEN:=Lib.hid hlen2
 have HI0:=Lib.hid hi
 have HI1:=Lib.hid hz0
 have HI2:=Lib.hid hz1
 have HI3:=Lib.hid hz2
 obtain ⟨L,hL⟩:∃ L,L=l.map Ex.srt:=⟨_,rfl⟩
 have HLL:Hid (L.length=len):=by rw [hL];show (l.map Ex.srt).length=len;rw [List.length_map];exact hlen2
 have HL:=Lib.hid hL
 rw [← hL]
 obtain ⟨br,qr⟩:∃ b,r.toList.isEmpty=b:=⟨_,rfl⟩
 obtain ⟨bn,qn⟩:∃ b,nm.toList.isEmpty=b:=⟨_,rfl⟩
 obtain ⟨bd,qd⟩:∃ b,((d:Int) == 0)=b:=⟨_,rfl⟩
 obtain ⟨bb,hbb⟩:∃ b,b=(br && bn && bd):=⟨_,rfl⟩
 have HBB:Hid (bb=bareB r nm d):=by
  show bb=_
  unfold bareB
  rw [hbb,← qr,← qn,← qd,toList_data,toList_data]
 have HBV:=Lib.hid hbb
 have HQR:Hid (r.data.toList.isEmpty=br):=by show _=br;rw [← qr,toList_data]
 have HQN:Hid (nm.data.toList.isEmpty=bn):=by show _=bn;rw [← qn,toList_data]
 have HQD:Hid (bd=true ↔ d=0):=by show bd=true ↔ _;rw [← qd];simp
 obtain ⟨R,hR⟩:∃ R,R=srtP 3 r nm d L:=⟨_,rfl⟩
 rw [← hR]
 have HRR:=Lib.hid hR
 clear ih hsub hsub2 hlen hlen2 hz hsl hi hz0 hz1 hz2 hL hsm hse hbb hR
 show Calls Tryz.prog 81 #[.agg #[.int .u8 3,.string r,.string nm,.int .i64 d,.slice a len cap]] w _
 go_enter Tryz.func81,Tryz.ntmps81
 go_upto_region 1 with (fail)
 obtain ⟨W0,hW0⟩:∃ W0,W0=w.alloc (.cells #[.int .u8 3,.string r,.string nm,.int .i64 d,.slice a len cap] 25):=⟨_,rfl⟩
 have hbx:W0.heap[w.heap.size]? = some (.cells #[.int .u8 3,.string r,.string nm,.int .i64 d,.slice a len cap] 25):=by rw [hW0];exact heap_alloc_new w _
 have hB0:Below w.heap.size w W0:=by rw [hW0];exact own_below w _
 have hzW:w.heap.size < W0.heap.size:=(Array.getElem?_eq_some_iff.1 hbx).1
 rw [← hW0]
 have HBX:=Lib.hid hbx
 have HB0:=Lib.hid hB0
 obtain ⟨c0,c1,c2,c3,c4⟩:=exCells hbx
 clear hW0 hbx hB0
 go_cut [3] (fun s wx => s = .bool bb∧W0=wx)
 case first => as_aux_lemma =>
  have E:=HBV.out
  cases br with
  | false =>
   have e:bb=false:=by rw [E];rfl
   have EE:=Lib.hid e
   clear e E
   go_wp2_with fail
   go_meet
   exact ⟨by rw [EE.out],rfl⟩
  | true =>
   cases bn with
   | false =>
    have e:bb=false:=by rw [E];rfl
    have EE:=Lib.hid e
    clear e E
    go_wp2_with fail
    go_meet
    exact ⟨by rw [EE.out],rfl⟩
   | true =>
    have e:bb=bd:=by rw [E];rfl
    have EE:=Lib.hid e
    clear e E
    go_wp2_with fail
    go_meet
    exact ⟨by rw [EE.out],rfl⟩
 case rest =>
 obtain ⟨rfl,rfl⟩:=hcut
 clear c0 c1 c2 c3 c4
 go_wp2_with fail
 go_loopw [4,5] (fun lv iv wr => RsR W0 L len lv iv wr) (fun _ iv _ => len - (intOf iv).toNat)
 case atStart => exact ⟨0,Nat.zero_le _,rfl,Lib.hid ⟨by simp [ints],.inl ⟨rfl,rfl⟩⟩,Below.refl _ _⟩
 case round =>
  obtain ⟨w1,rfl⟩:∃ w1:World,w1=wr:=⟨_,rfl⟩
  obtain ⟨v,hv⟩:∃ v:Value,v=u4:=⟨_,rfl⟩
  rw [← hv] at hrel ⊢
  clear hv
  obtain ⟨k,hk,rfl,HO,hb⟩:=hrel
  have hBW:=HB0.out.trans (hb.mono HB0.out.size)
  have HBW:=Lib.hid hBW
  obtain ⟨c0,c1,c2,c3,c4⟩:=exCells ((hb.block _ hzW).trans HBX.out)
  have HB:=Lib.hid hb
  clear hb
  by_cases hlt:k < len
  ·have hlt2:k < l.length:=by rw [HLEN.out];exact hlt
   rcases HS.out with h0 | ⟨g,o,ha,hg,hel⟩
   ·omega
   ·subst ha
    obtain ⟨p1,l1,cc,⟨e0,e1,e2,e3,e4⟩,hx1⟩:=ExAt.elem (x:=Ex.mk 0 ByteArray.empty ByteArray.empty 0 l) hg hBW hlt2 hel
    have hym:l[k] ∈ l:=List.getElem_mem _
    simp only [Ex.sub] at e0 e1 e2 e3 hx1
    have hT:L.take (k+1)=L.take k ++ [l[k].srt]:=by
     have e:=HL.out
     subst e
     rw [List.take_succ_eq_append_getElem (by simpa using hlt2)];simp
    obtain ⟨y,hy⟩:∃ y,y=l[k]:=⟨_,rfl⟩
    rw [← hy] at e0 e1 e2 e3 hx1 hT hym
    have hC:=HI.out y _ w1 hx1 (HZY.out y hym) (HSE.out y hym)
    rw [← Ex.srt_is] at hC
    obtain ⟨s,hs⟩:∃ s,s=y.srt:=⟨_,rfl⟩
    rw [← hs] at hC hT
    have HC:=Lib.hid hC
    have HT:=Lib.hid hT
    clear hC hT hs hy hym hx1 hel hBW
    go_wp2_with fail
    refine HC.out.mono ?_
    rintro e u ⟨rfl,hbu⟩
    have hou:=(World.ownsRow.kept (w:=w1) HO.out ⟨hbu.os,hbu.tape,hbu.output,hbu.size,fun i hi _ => hbu.block i hi⟩ (row:=none) (by cases v.ownBlock <;> simp))
    have HOA:=Lib.hid (hou.alloc (.cells #[.int .i64 s] 3))
    have HNW:=Lib.hid (World.news_of_block (heap_alloc_new u (.cells #[.int .i64 s] 3)))
    have HBS:=Lib.hid (show W0.heap.size≤(u.alloc (.cells #[.int .i64 s] 3)).heap.size by rw [World.size_alloc];have:=hbu.size;have:=HB.out.size;omega)
    have HBU:=Lib.hid ((HB.out.trans (hbu.mono HB.out.size)).alloc (by have:=hbu.size;have:=HB.out.size;omega) (.cells #[.int .i64 s] 3))
    clear hou hbu e0 e1 e2 e3 e4 c0 c1 c2 c3 c4
    go_wp2_with (at_builtin;refine wpList_append_own _ rfl _ _ 26 rfl W0.heap.size 3 i0 (.int .i64 0) 1 8 Tryz.underlying26 HI0.out HI1.out HI2.out HI3.out rfl (by decide) _ _ _ rfl HOA.out ⟨u.heap.size,0,none⟩ 1 1 [.int .i64 s] rfl rfl HNW.out (one_cell (by rfl)) (by unfold maxLen;omega) (by omega) HBS.out ?_)
    intro v' w3 hown' hgrow _
    have HR:Hid (RsR W0 L len v' (.int .i64 ((k+1:Nat):Int)) w3):=⟨k+1,hlt,rfl,Lib.hid (by rw [HT.out,← ints_snoc];exact hown'),HBU.out.grown hgrow HBU.out.size (fun q hq => (HOA.out.lt q hq).1)⟩
    clear hown' hgrow
    go_wp2_with fail
    go_roundw
    case rel => exact HR.out
    case measure => simp [intOf] <;> omega
  ·have hke:k=len:=by omega
   subst hke
   have HT:Hid (L.take k=L):=Lib.hid (List.take_of_length_le (by rw [HLL.out];omega))
   have ho:=HO.out
   rw [HT.out] at ho
   have HOW:=Lib.hid ho
   clear ho HO hlt
   obtain ⟨av,cv,rfl,hcl⟩:=sorts_one HOW.out
   have HCL:=Lib.hid hcl
   clear hcl
   have hshp:Hid (shpL 3=none):=shp_no (by decide)
   by_cases hk0:k=0
   ·have qk:((k:Int) == 0)=true:=ieq_true (by omega)
    have hl:L=[]:=List.eq_nil_of_length_eq_zero (by rw [HLL.out];exact hk0)
    have HLV:Hid (R=leafV 3 r nm d):=by show R=_;rw [HRR.out];exact srt_leaf hshp.out hl
    clear hl hk0
    have HNM:Hid (∀ W,Calls Tryz.prog 61 #[.string nm] W (fun e w' => e = .returned (.bool (nmB nm.data.toList))∧W=w')):=fun W => rname_any nm W
    obtain ⟨nb,hnb⟩:∃ z,z=nmB nm.data.toList:=⟨_,rfl⟩
    rw [← hnb] at HNM
    have HNB:=Lib.hid hnb
    clear hnb
    cases br with
    | false =>
     have e:R=0:=by rw [HLV.out];simp [leafV,HQR.out]
     have E:=Lib.hid e
     clear e
     go_wp2_with fail
     go_ret
     exact ⟨by rw [E.out];rfl,HBW.out⟩
    | true =>
     cases nb with
     | false =>
      have e:R=0:=by rw [HLV.out];simp [leafV,← HNB.out]
      have E:=Lib.hid e
      clear e
      go_wp2_with fail
      refine (HNM.out _).mono ?_
      rintro e w2 ⟨rfl,rfl⟩
      go_wp2_with fail
      go_ret
      exact ⟨by rw [E.out];rfl,HBW.out⟩
     | true =>
      cases bd with
      | false =>
       have e:R=0:=by
        have hd:d ≠ 0:=fun h => by have:=HQD.out.2 h;cases this
        rw [HLV.out];simp [leafV,hd]
       have E:=Lib.hid e
       clear e
       go_wp2_with fail
       refine (HNM.out _).mono ?_
       rintro e w2 ⟨rfl,rfl⟩
       go_wp2_with fail
       go_ret
       exact ⟨by rw [E.out];rfl,HBW.out⟩
      | true =>
       have e:R=1:=by
        have hd:d=0:=HQD.out.1 rfl
        rw [HLV.out];simp [leafV,hd,HQR.out,← HNB.out]
       have E:=Lib.hid e
       clear e
       go_wp2_with fail
       refine (HNM.out _).mono ?_
       rintro e w2 ⟨rfl,rfl⟩
       go_wp2_with fail
       go_ret
       exact ⟨by rw [E.out];rfl,HBW.out⟩
   ·have qk:((k:Int) == 0)=false:=ieq_false (by omega)
    have e:R=0:=by rw [HRR.out];exact srt_leaf_no hshp.out (fun e => hk0 (by rw [← HLL.out,e];rfl))
    clear hk0
    have E:=Lib.hid e
    clear e
    go_wp2_with fail
    go_ret
    exact ⟨by rw [E.out];rfl,HBW.out⟩
end Go.Proofs.YtijkefflpojmhaaGreatDoor
