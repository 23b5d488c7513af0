/-
  The reader's list walked. No condition.
-/
import Derived.Test.YtkobkpepgdddeaaGreatDoorZaj
import Derived.WalkMore
import Derived.Deep.LoopGhost
namespace Go.Proofs.YtkobkpepgdddeaaGreatDoor
open Go.RowKit
set_option maxHeartbeats 16000000
set_option maxRecDepth 100000
def fnF(b:Bool):Nat:=if b=true then 64 else 63
def fnV(rb F:Nat):Value:=.func (.func F) #[.pointer (some ⟨rb,0,none⟩)] #[]
theorem z7n(b:Bool)(args:Array Value)(W:World):(callFunc (fnF b) args).run Tryz.prog W=.ok (.enter (fnF b) args) W:=by
 cases b<;>kernel_rfl
theorem zve(ps:List RdX)(c:Bool)(l:List Tk):remR ps [] c l=zfc ps c l:=by
 unfold remR
 cases zfc ps c l<;>rfl
theorem zmg(kd:Int)(ps:List RdX)(l:List Tk):zbf kd ps l=(tEat 5 [40] l).bind fun _ l1=>(remR ps [] false l1).bind fun xs l2=>(tEat 5 [41] l2).bind fun _ l3=>.ok (.mk kd tE0 tE0 0 xs) l3:=by
 show(tEat 5 [40] l).bind _=_
 congr 1
 funext _ l1
 rw[zve]
theorem zbm{α:Type}{V:α→World→Value→Prop}{rb:Nat}{w w':World}{r:Rd α}{l:List Tk}{e:Ending}(E:r=.no l)(h:e=zl9∧RAt rb w' l∧w.grownBy w' (some rb)):zbk V rb w r e w':=by rw[E];exact h
theorem zcz{α:Type}{V:α→World→Value→Prop}{rb:Nat}{w w':World}{r:Rd α}{x:α}{l:List Tk}{e:Ending}(E:r=.ok x l)(h:∃v,e=.returned v∧V x w' v∧RAt rb w' l∧w.grownBy w' (some rb)):zbk V rb w r e w':=by rw[E];exact h
theorem zd9{rb n0:Nat}(S T:RdX)(XB:∀(b:Bool) (W:World) (l:List Tk),RAt rb W l→l.length<n0→Calls Tryz.prog (fnF b) #[.pointer (some ⟨rb,0,none⟩)] W (zbk (VEx W.heap.size) rb W (za9 S T b l)))
 (cS:∀l,(S l).Cons l) (cT:∀l,(T l).Cons l) (kd:Int) (bs:List Bool) (nb gp:Nat) (Zf:bs.length=nb) (hnb3:nb≤3) (w:World) (l:List Tk) (h:RAt rb w l) (hl:l.length≤n0) (VI:gp<w.heap.size) (Y1:gp≠rb)
 (hc:∀i (hi:i<bs.length),w.cell? ⟨gp,i,none⟩=some (fnV rb (fnF bs[i]))) :
 Calls Tryz.prog 112 #[.pointer (some ⟨rb,0,none⟩),.int .u8 kd,.slice (some ⟨gp,0,none⟩) nb nb] w (zbk (VEx w.heap.size) rb w (zbf kd (bs.map (za9 S T)) l)):=by
 obtain⟨i0,hi,ZN,ZO,ZD⟩:=info_parts z1x;have HI0:=Z9 hi;have HI1:=Z9 ZN;have HI2:=Z9 ZO;have HI3:=Z9 ZD;have HMU:=Z9 (fun g2 s W l (hW:RAt rb W l) (hs:W.cell? ⟨g2,0,none⟩=some (.string s))=>zie rb g2 5 s W l hW hs);have HP:=Z9 XB;have HC:=Z9 hc;have HR:=Z9 h;have HNB:=Z9 Zf;have HGP:=Z9 (And.intro VI Y1);have ZH:=h.lt;obtain⟨GR,ZK⟩:∃GR,GR=zbf kd (bs.map (za9 S T)) l:=⟨_,rfl⟩
 rw[←ZK];rw[zmg]at ZK;have HGR:=Z9 ZK;have HL:=Z9 hl
 have HCN:Hid (∀b l,(za9 S T b l).Cons l):=fun b l=>by
  unfold za9
  split
  ·exact cS l
  ·exact cT l
 clear h XB hc Zf VI Y1 ZK hl cS cT hi ZN ZO ZD;go_enter Tryz.func112,Tryz.ntmps112;go_wp2_with fail;obtain⟨B,Yf⟩:∃B,B=w.heap.size:=⟨_,rfl⟩
 obtain⟨W0,Z3⟩:∃W0,W0=((w.alloc (.cells #[.int .u8 0,.string ⟨#[]⟩,.string ⟨#[]⟩,.int .i64 0,.slice none 0 0] 25)).alloc (.cells #[.int .u8 kd,.string ⟨#[]⟩,.string ⟨#[]⟩,.int .i64 0,.slice none 0 0] 25)).alloc (.cells #[.string ⟨#[40]⟩] 9):=⟨_,rfl⟩
 have hT:LsB kd B (.slice none 0 0) W0∧W0.cell? ⟨B+1+1,0,none⟩=some (.string ⟨#[40]⟩):=by
  rw[Z3,Yf];refine⟨⟨?_,?_,?_⟩,?_⟩
  ·show(((w.heap.push _).push _).push _)[w.heap.size]?=_
   rw[Array.getElem?_push,if_neg (by simp;omega),Array.getElem?_push,if_neg (by simp),Array.getElem?_push,if_pos rfl]
  ·show(((w.heap.push _).push _).push _)[w.heap.size+1]?=_
   rw[Array.getElem?_push,if_neg (by simp),Array.getElem?_push,if_pos (by simp)]
  ·simp
  ·have:(((w.heap.push (.cells #[.int .u8 0,.string ⟨#[]⟩,.string ⟨#[]⟩,.int .i64 0,.slice none 0 0] 25)).push (.cells #[.int .u8 kd,.string ⟨#[]⟩,.string ⟨#[]⟩,.int .i64 0,.slice none 0 0] 25)).push (.cells #[.string ⟨#[40]⟩] 9))[w.heap.size+1+1]?=some (.cells #[.string ⟨#[40]⟩] 9):=by
    rw[Array.getElem?_push,if_pos (by simp)]
   exact Boxed.cell (W:=((w.alloc _).alloc _).alloc _) (t:=9) this
 have ZP:Below B w W0:=by rw[Z3,Yf];exact((zaf w _).alloc (by simp) _).alloc (by simp;omega) _
 rw[←Z3];rw[←Yf]at ZH ⊢;have HT:=Z9 hT;have HB0:=Z9 ZP;have HBB:=Z9 Yf;have hB0':Below w.heap.size w W0:=by rw[←Yf];exact ZP
 have HR0:=Z9 (HR.out.below hB0');have HG0:=Z9 (zan (rb:=rb) (zah hB0'));clear hT ZP Z3 Yf hB0'
 cases hq:tEat 5 [40] l with
 |no lq =>
  have E:GR=.no lq:=by rw[HGR.out,hq];rfl
  have HE:=Z9 E;have HM:=Z9 (HMU.out (B+1+1) ⟨#[40]⟩ W0 l HR0.out HT.out.2);rw[show tEat 5 (ByteArray.mk #[40]).data.toList l=.no lq from hq]at HM;clear E hq;refine HM.out.mono ?_;rintro e u ⟨rfl,hr,hg⟩;exact⟨rfl,zbm HE.out ⟨rfl,hr,Lib.grownBy_trans HG0.out hg⟩⟩
 |ok un l1 =>
  obtain⟨R,hR⟩:∃R,R=remR (bs.map (za9 S T)) [] false l1:=⟨_,rfl⟩
  have E:GR=R.bind fun xs l2=>(tEat 5 [41] l2).bind fun _ l3=>.ok (.mk kd tE0 tE0 0 xs) l3:=by rw[HGR.out,hq,hR];rfl
  have HE:=Z9 E;have HRR:=Z9 hR;have HL1:=Z9 (Nat.lt_of_lt_of_le ((zcx 5 [40] l).lt hq) HL.out);have HM:=Z9 (HMU.out (B+1+1) ⟨#[40]⟩ W0 l HR0.out HT.out.2);rw[show tEat 5 (ByteArray.mk #[40]).data.toList l=.ok un l1 from hq]at HM;clear E hq hR;refine HM.out.mono ?_;rintro e u ⟨v,rfl,rfl,hr,hg⟩
  have HLS:Hid (LsAt rb kd B w [] 0 (.slice none 0 0) [] l1 u):=by
   refine Z9 ⟨⟨?_,?_,?_⟩,rfl,⟨0,TwR.nil _ _ _ _⟩,hr,Lib.grownBy_trans HG0.out hg⟩
   ·exact(hg.block _ (Z8 HT.out.1.1) (fun e=>by injection e with e;omega)).trans HT.out.1.1
   ·exact(hg.block _ (Z8 HT.out.1.2.1) (fun e=>by injection e with e;omega)).trans HT.out.1.2.1
   ·exact Nat.le_trans HT.out.1.2.2 hg.size
  clear hr hg;go_wp2_with fail;go_loopw [17] (fun iv wr=>∃(k:Nat)(ys:List Ex)(l':List Tk)(v:Value)(xs:List Value),k≤nb∧iv=.int .i64 (k:Int)∧LsAt rb kd B w ys k v xs l' wr∧l'.length<n0∧Hid (remR ((bs.map (za9 S T)).drop k) ys (decide (0<k)) l'=R)) (fun iv _=>nb-(intOf iv).toNat)
  case atStart=>exact⟨0,[],l1,.slice none 0 0,[],Nat.zero_le _,rfl,HLS.out,HL1.out,HRR.out.symm⟩
  case round =>
   obtain⟨w1,rfl⟩:∃w1:World,w1=wr:=⟨_,rfl⟩
   obtain⟨k,ys,l',v,xs,hk,rfl,T7,Z5,XS⟩:=hrel;have HLSW:=Z9 T7;have HLEN:=Z9 Z5;clear T7 Z5 HLS
   by_cases Z7:k<nb
   ·have hrB:rb<B:=ZH
    have ZX:k<bs.length:=by rw[HNB.out];exact Z7
    obtain⟨b,hb⟩:∃b,b=bs[k]:=⟨_,rfl⟩
    have hdrop:(bs.map (za9 S T)).drop k=za9 S T b :: (bs.map (za9 S T)).drop (k+1):=by
     rw[List.drop_eq_getElem_cons (by simp;omega),List.getElem_map,hb]
    obtain⟨F,hF⟩:∃F,F=fnF b:=⟨_,rfl⟩
    have Z1:w1.cell? ⟨gp,k,none⟩=some (.func (.func F) #[.pointer (some ⟨rb,0,none⟩)] #[]):=by
     rw[hF,hb];exact(World.cell?_of_block (w:=w) (w':=w1) (a:=⟨gp,k,none⟩) (HLSW.out.grown.block gp HGP.out.1 (fun e=>HGP.out.2 (by injection e)))).trans (HC.out k ZX)
    have Uz:gp<w1.heap.size:=Nat.lt_of_lt_of_le HGP.out.1 HLSW.out.grown.size;have HF:=Z9 hF;have TW:∀(args:Array Value)(W:World),(callFunc F args).run Tryz.prog W=.ok (.enter F args) W:=by rw[hF];exact z7n b
    have Yt:(0:Int)≤(k:Int):=by omega
    have Yy:(k:Int)<(nb:Int):=by omega
    have hrw1:rb<w1.heap.size:=HLSW.out.rd.lt;clear hF hb ZX
    by_cases WP:k=0
    ·have Yr:remR ((bs.map (za9 S T)).drop k) ys (decide (0<k)) l'=(za9 S T b l').bind fun x l2=>remR ((bs.map (za9 S T)).drop (k+1)) (ys ++ [x]) true l2:=by
      rw[hdrop,show decide (0<k)=false by simp[WP]];exact zhg _ _ _ _
     have HSTEP:=Z9 Yr;have VK:decide ((0:Int)<(k:Int))=false:=by simp;omega
     have hnk:¬0<k:=by omega
     clear Yr hdrop WP;have hd:=HLSW.out.blocks;have hdr:=(HLSW.out.rd).below (Below.refl _ w1).drew;have HRD:=Z9 hdr;have WW:=Z9 hd.2.1;obtain⟨o0,o1,o2,o3,o4⟩:=zae hd.2.1;have f4:=Lib.frozen_of_heap hd.2.1 4;have zz:B+1<w1.heap.size:=by have:=hd.2.2;omega
     have HHZ:=Z9 hd.2.2;have HGW:=Z9 HLSW.out.grown;obtain⟨m0,Ym⟩:=HLSW.out.parts;have HOWN0:=Z9 Ym.owns;have HCB:=Z9 (HP.out b w1.drew l' HRD.out HLEN.out);rw[←HF.out]at HCB;clear hd hdr Ym
     cases Zb:za9 S T b l' with
     |no lq =>
      have E:GR=.no lq:=by rw[HE.out,←XS.out,HSTEP.out,Zb];rfl
      have HE2:=Z9 E;rw[Zb]at HCB;clear E Zb;go_wp2_with fail;refine wp_region_any (by kernel_rfl) ?_;change wpAny _ _ _ _ _ _ _ (World.drew _);refine wpAny_take (i:=0) (v := ?_) rfl (by kernel_rfl) (by kernel_rfl) (by kernel_rfl) (fun _ _ _ h=>h) (Or.inl ⟨by rfl,?hyAw1⟩) ?restAw1
      case hyAw1=>(intro w;go_simp<;>with_reducible rfl)
      refine wpAny_take (i:=2) (v := ?_) rfl (by kernel_rfl) (by kernel_rfl) (by kernel_rfl) (fun _ _ _ h=>h) (Or.inl ⟨by rfl,?hyBw1⟩) ?restBw1
      case hyBw1=>(intro w;go_simp<;>with_reducible rfl)
      refine wpAny_ready (rs:=[1,3]) (by kernel_rfl) (by simp) ?_;refine AllReady.cons rfl (fun K hK => ?_) ?_
      ·go_simp
       refine hK _ _ ?_;clear hK K;refine wpAny_ready (rs:=[3]) (by kernel_rfl) (by simp) ?_;refine AllReady.cons rfl (fun K hK => ?_) AllReady.nil;go_simp;refine HCB.out.mono ?_;rintro e u ⟨rfl,hr,hg⟩;exact⟨rfl,zbm HE2.out ⟨rfl,hr,Lib.grownBy_trans (zf9 HGW.out) hg⟩⟩
      ·refine AllReady.cons rfl (fun K hK => ?_) AllReady.nil
       go_simp;refine HCB.out.mono ?_;rintro e u ⟨rfl,hr,hg⟩;exact⟨rfl,zbm HE2.out ⟨rfl,hr,Lib.grownBy_trans (zf9 HGW.out) hg⟩⟩
     |ok y l2 =>
      have E:remR ((bs.map (za9 S T)).drop (k+1)) (ys ++ [y]) true l2=R:=by rw[←XS.out,HSTEP.out,Zb];rfl
      have HE2:=Z9 E;have HL2:=Z9 (Nat.lt_of_lt_of_le ((HCN.out b l').lt Zb) (Nat.le_of_lt HLEN.out));rw[Zb]at HCB;clear E Zb;go_wp2_with fail
      go_region_law (first
       |(refine step_append_lies _ (by rfl) (.tmp 28) (.tmp 31) 23 (by rfl) (B+2) 25 i0 zio 5 72 Tryz.underlying23 HI0.out HI1.out HI2.out HI3.out rfl (by decide) v k xs (by rfl) HOW.out ⟨u.heap.size,0,none⟩ 1 1 [.int .u8 y.kind,.string y.rat,.string y.name,.int .i64 y.date,.slice pa pl pc] (by rfl) rfl HNW.out HON.out (by decide) (by unfold maxLen;omega) (by omega) HBS.out _ rfl ?_;intro ga ca w3 ZG Y1 ZB Wl;have YH:=Z9 Y1;have Zj:=Z9 ZG;have ZI:=Z9 ZB;have hd2w:=(Y1.block _ (show B+1<_ by rw[World.size_alloc];omega) (zrz HOWN0.out (by omega))).trans ((Below.heap_alloc u _ _ zu).trans HD2u.out);have HD2w:=Z9 hd2w;have o4w:=(zae hd2w).2.2.2.2;have f4w:=Lib.frozen_of_heap hd2w 4;clear ZG Y1 ZB hd2w)
       |(go_simp;refine HCB.out.mono ?_;rintro e u ⟨vv,rfl,⟨mm,pa,pl,pc,rfl,hx⟩,hr,hb⟩;have HX:=Z9 hx;have HBU:=Z9 hb;have HRU:=Z9 hr;have hd2u:=(hb.block _ (show B+1<w1.heap.size by omega) (fun e=>by injection e with e;omega)).trans WW.out;have HD2u:=Z9 hd2u;have o4u:=(zae hd2u).2.2.2.2;have zu:B+1<u.heap.size:=Nat.lt_of_lt_of_le (show B+1<w1.heap.size by omega) hb.size;have HOW:=Z9 (zkj HOWN0.out hb hrB (.cells #[.int .u8 y.kind,.string y.rat,.string y.name,.int .i64 y.date,.slice pa pl pc] 25));have HNW:=Z9 (World.news_of_block (heap_alloc_new u (.cells #[.int .u8 y.kind,.string y.rat,.string y.name,.int .i64 y.date,.slice pa pl pc] 25)));have HON:=Z9 (zf3 y.kind y.date y.rat y.name pa pl pc);have HBS:=Z9 (show B+2≤(u.alloc (.cells #[.int .u8 y.kind,.string y.rat,.string y.name,.int .i64 y.date,.slice pa pl pc] 25)).heap.size by rw[World.size_alloc];omega);clear hx hb hd2u hr))
      all_goals
       have HNEW:=Z9 (HLSW.out.step HBB.out hrB HBU.out ⟨mm,HX.out⟩ HRU.out YH.out Zj.out ZI.out);clear HX YH Zj ZI HOW HNW HON HBS HBU HD2u HD2w HRU;go_wp2_with fail;go_roundw
       case rel=>exact⟨k+1,ys ++ [y],l2,_,_,by omega,by go_num,HNEW.out,HL2.out,by rw[show decide (0<k+1)=true by simp];exact HE2.out⟩
       case measure=>simp[intOf]<;>omega
    ·have Yr:remR ((bs.map (za9 S T)).drop k) ys (decide (0<k)) l'=(tEat 5 [44] l').bind fun _ l1=>(za9 S T b l1).bind fun x l2=>remR ((bs.map (za9 S T)).drop (k+1)) (ys ++ [x]) true l2:=by
      rw[hdrop,show decide (0<k)=true by simp;omega];exact zms _ _ _ _
     have HSTEP0:=Z9 Yr;have VK:decide ((0:Int)<(k:Int))=true:=by simp;omega
     have hsz1:=HLSW.out.blocks.2.2;have HRC:=Z9 (HLSW.out.rd.below (zaf w1 (.cells #[.string ⟨#[44]⟩] 9)));have HM:=Z9 (HMU.out w1.heap.size ⟨#[44]⟩ (w1.alloc (.cells #[.string ⟨#[44]⟩] 9)) l' HRC.out (Boxed.new w1 9 (.string ⟨#[44]⟩)).cell);clear Yr hdrop
     cases XV:tEat 5 [44] l' with
     |no lq =>
      have E:GR=.no lq:=by rw[HE.out,←XS.out,HSTEP0.out,XV];rfl
      have HE2:=Z9 E;rw[show tEat 5 (ByteArray.mk #[44]).data.toList l'=.no lq from XV]at HM;clear E XV;go_wp2_with fail;refine HM.out.mono ?_;rintro e u ⟨rfl,hr,hg⟩;exact⟨rfl,zbm HE2.out ⟨rfl,hr,Lib.grownBy_trans (Lib.grownBy_allocR HLSW.out.grown _) hg⟩⟩
     |ok un3 l3 =>
      have Y9:remR ((bs.map (za9 S T)).drop k) ys (decide (0<k)) l'=(za9 S T b l3).bind fun x l2=>remR ((bs.map (za9 S T)).drop (k+1)) (ys ++ [x]) true l2:=by rw[HSTEP0.out,XV];rfl
      have HSTEP:=Z9 Y9;have HL3:=Z9 (Nat.lt_of_lt_of_le ((zcx 5 [44] l').lt XV) (Nat.le_of_lt HLEN.out));rw[show tEat 5 (ByteArray.mk #[44]).data.toList l'=.ok un3 l3 from XV]at HM;clear Y9 XV HSTEP0;go_wp2_with fail;refine HM.out.mono ?_;rintro e u1 ⟨v1,rfl,rfl,hr,hg⟩;have HLS1:=Z9 (HLSW.out.same (Lib.grownBy_trans (World.grownBy_alloc w1 _ _) hg) hr hrB);clear hr hg Z1 hrw1;have hrw1:rb<u1.heap.size:=HLS1.out.rd.lt;have hd:=HLS1.out.blocks;have hdr:=(HLS1.out.rd).below (Below.refl _ u1).drew;have HRD:=Z9 hdr;have WW:=Z9 hd.2.1;obtain⟨o0,o1,o2,o3,o4⟩:=zae hd.2.1;have f4:=Lib.frozen_of_heap hd.2.1 4
      have zz:B+1<u1.heap.size:=by have:=hd.2.2;omega
      have HHZ:=Z9 hd.2.2;have HGW:=Z9 HLS1.out.grown;obtain⟨m0,Ym⟩:=HLS1.out.parts;have HOWN0:=Z9 Ym.owns;have HCB:=Z9 (HP.out b u1.drew l3 HRD.out HL3.out);rw[←HF.out]at HCB;clear hd hdr Ym
      cases Zb:za9 S T b l3 with
      |no lq =>
       have E:GR=.no lq:=by rw[HE.out,←XS.out,HSTEP.out,Zb];rfl
       have HE2:=Z9 E;rw[Zb]at HCB;clear E Zb;go_wp2_with fail;refine wp_region_any (by kernel_rfl) ?_;change wpAny _ _ _ _ _ _ _ (World.drew _);refine wpAny_take (i:=0) (v := ?_) rfl (by kernel_rfl) (by kernel_rfl) (by kernel_rfl) (fun _ _ _ h=>h) (Or.inl ⟨by rfl,?hyAu1⟩) ?restAu1
       case hyAu1=>(intro w;go_simp<;>with_reducible rfl)
       refine wpAny_take (i:=2) (v := ?_) rfl (by kernel_rfl) (by kernel_rfl) (by kernel_rfl) (fun _ _ _ h=>h) (Or.inl ⟨by rfl,?hyBu1⟩) ?restBu1
       case hyBu1=>(intro w;go_simp<;>with_reducible rfl)
       refine wpAny_ready (rs:=[1,3]) (by kernel_rfl) (by simp) ?_;refine AllReady.cons rfl (fun K hK => ?_) ?_
       ·go_simp
        refine hK _ _ ?_;clear hK K;refine wpAny_ready (rs:=[3]) (by kernel_rfl) (by simp) ?_;refine AllReady.cons rfl (fun K hK => ?_) AllReady.nil;go_simp;refine HCB.out.mono ?_;rintro e u ⟨rfl,hr,hg⟩;exact⟨rfl,zbm HE2.out ⟨rfl,hr,Lib.grownBy_trans (zf9 HGW.out) hg⟩⟩
       ·refine AllReady.cons rfl (fun K hK => ?_) AllReady.nil
        go_simp;refine HCB.out.mono ?_;rintro e u ⟨rfl,hr,hg⟩;exact⟨rfl,zbm HE2.out ⟨rfl,hr,Lib.grownBy_trans (zf9 HGW.out) hg⟩⟩
      |ok y l2 =>
       have E:remR ((bs.map (za9 S T)).drop (k+1)) (ys ++ [y]) true l2=R:=by rw[←XS.out,HSTEP.out,Zb];rfl
       have HE2:=Z9 E;have HL2:=Z9 (Nat.lt_of_lt_of_le ((HCN.out b l3).lt Zb) (Nat.le_of_lt HL3.out));rw[Zb]at HCB;clear E Zb;go_wp2_with fail
       go_region_law (first
        |(refine step_append_lies _ (by rfl) (.tmp 28) (.tmp 31) 23 (by rfl) (B+2) 25 i0 zio 5 72 Tryz.underlying23 HI0.out HI1.out HI2.out HI3.out rfl (by decide) v k xs (by rfl) HOW.out ⟨u.heap.size,0,none⟩ 1 1 [.int .u8 y.kind,.string y.rat,.string y.name,.int .i64 y.date,.slice pa pl pc] (by rfl) rfl HNW.out HON.out (by decide) (by unfold maxLen;omega) (by omega) HBS.out _ rfl ?_;intro ga ca w3 ZG Y1 ZB Wl;have YH:=Z9 Y1;have Zj:=Z9 ZG;have ZI:=Z9 ZB;have hd2w:=(Y1.block _ (show B+1<_ by rw[World.size_alloc];omega) (zrz HOWN0.out (by omega))).trans ((Below.heap_alloc u _ _ zu).trans HD2u.out);have HD2w:=Z9 hd2w;have o4w:=(zae hd2w).2.2.2.2;have f4w:=Lib.frozen_of_heap hd2w 4;clear ZG Y1 ZB hd2w)
        |(go_simp;refine HCB.out.mono ?_;rintro e u ⟨vv,rfl,⟨mm,pa,pl,pc,rfl,hx⟩,hr,hb⟩;have HX:=Z9 hx;have HBU:=Z9 hb;have HRU:=Z9 hr;have hd2u:=(hb.block _ (show B+1<u1.heap.size by omega) (fun e=>by injection e with e;omega)).trans WW.out;have HD2u:=Z9 hd2u;have o4u:=(zae hd2u).2.2.2.2;have zu:B+1<u.heap.size:=Nat.lt_of_lt_of_le (show B+1<u1.heap.size by omega) hb.size;have HOW:=Z9 (zkj HOWN0.out hb hrB (.cells #[.int .u8 y.kind,.string y.rat,.string y.name,.int .i64 y.date,.slice pa pl pc] 25));have HNW:=Z9 (World.news_of_block (heap_alloc_new u (.cells #[.int .u8 y.kind,.string y.rat,.string y.name,.int .i64 y.date,.slice pa pl pc] 25)));have HON:=Z9 (zf3 y.kind y.date y.rat y.name pa pl pc);have HBS:=Z9 (show B+2≤(u.alloc (.cells #[.int .u8 y.kind,.string y.rat,.string y.name,.int .i64 y.date,.slice pa pl pc] 25)).heap.size by rw[World.size_alloc];omega);clear hx hb hd2u hr))
       all_goals
        have HNEW:=Z9 (HLS1.out.step HBB.out hrB HBU.out ⟨mm,HX.out⟩ HRU.out YH.out Zj.out ZI.out);clear HX YH Zj ZI HOW HNW HON HBS HBU HD2u HD2w HRU;go_wp2_with fail;go_roundw
        case rel=>exact⟨k+1,ys ++ [y],l2,_,_,by omega,by go_num,HNEW.out,HL2.out,by rw[show decide (0<k+1)=true by simp];exact HE2.out⟩
        case measure=>simp[intOf]<;>omega
   ·have YV:ys.length=k:=HLSW.out.len
    have UC:k=nb:=by omega
    have hdn:(bs.map (za9 S T)).drop k=[]:=List.drop_eq_nil_of_le (by rw[List.length_map,HNB.out];omega)
    have hRE:R=.ok ys l':=by
     rw[←XS.out,hdn];exact zqu _ _ _
    have HRE:=Z9 hRE;have HRC:=Z9 (HLSW.out.rd.below (zaf w1 (.cells #[.string ⟨#[41]⟩] 9)));have HM:=Z9 (HMU.out w1.heap.size ⟨#[41]⟩ (w1.alloc (.cells #[.string ⟨#[41]⟩] 9)) l' HRC.out (Boxed.new w1 9 (.string ⟨#[41]⟩)).cell);clear hdn hRE YV
    cases XV:tEat 5 [41] l' with
    |no lq =>
     have E:GR=.no lq:=by rw[HE.out,HRE.out];show(tEat 5 [41] l').bind _=_;rw[XV];rfl
     have HE2:=Z9 E;rw[show tEat 5 (ByteArray.mk #[41]).data.toList l'=.no lq from XV]at HM;clear E XV;go_wp2_with fail;refine HM.out.mono ?_;rintro e u ⟨rfl,hr,hg⟩;exact⟨rfl,zbm HE2.out ⟨rfl,hr,Lib.grownBy_trans (Lib.grownBy_allocR HLSW.out.grown _) hg⟩⟩
    |ok un3 l3 =>
     have E:GR=.ok (.mk kd tE0 tE0 0 ys) l3:=by rw[HE.out,HRE.out];show(tEat 5 [41] l').bind _=_;rw[XV];rfl
     have HE2:=Z9 E;rw[show tEat 5 (ByteArray.mk #[41]).data.toList l'=.ok un3 l3 from XV]at HM;clear E XV;go_wp2_with fail;refine HM.out.mono ?_;rintro e u1 ⟨v1,rfl,rfl,hr,hg⟩;have hrB:rb<B:=ZH;have HLS1:=Z9 (HLSW.out.same (Lib.grownBy_trans (World.grownBy_alloc w1 _ _) hg) hr hrB);clear hr hg;obtain⟨m0,Ym⟩:=HLS1.out.parts;obtain⟨av,lv,cv,rfl,X3⟩:=TwR.done (x:=.mk kd tE0 tE0 0 ys) Ym HLS1.out.len;have Zw:=z57 HBB.out hrB HLS1.out X3;have hd:=HLS1.out.blocks;have h1b:=hd.2.1;have h0b:=hd.1;obtain⟨o0,o1,o2,o3,o4⟩:=zae hd.2.1;obtain⟨z0,z1,z2,z3,z4⟩:=zae hd.1;have fz:∀i,u1.frozen? ⟨B,i,none⟩=false:=Lib.frozen_of_heap hd.1
     have WV:=hd.2.2;have zb:B<u1.heap.size:=by omega
     have HFIN:=Z9 Zw;clear Zw Ym X3 hd h1b h0b WV;go_wp2_with fail;obtain⟨W',hW',hx,Zs,hr,hg⟩:=HFIN.out;rw[←hW'];obtain⟨c0,c1,c2,c3,c4⟩:=zae Zs;exact bodyPost_ret (v:=.agg #[.int .u8 kd,.string ⟨#[]⟩,.string ⟨#[]⟩,.int .i64 0,.slice av lv cv]) (by simp[results,Tryz.results112,go_sem,c0,c1,c2,c3,c4]) rfl (zcz HE2.out ⟨_,rfl,⟨_,av,lv,cv,rfl,hx⟩,hr,hg⟩)
theorem zbu{l:List Tk}{b:List UInt8}(h:zar l=b):zfi l=⟨b.toArray⟩:=by
 have e:=(zgi l).trans h
 cases hq:zfi l with
 |mk d =>
  rw[hq]at e;have e2:d.toList=b:=e;rw[←e2]
theorem zlv{n rb b lo:Nat}{w u:World}{l:List Tk}{x:Ex}{z0 z1 z2 z3 z4 v0 v1 v2 v3 v4:Value}(Zi:rb<b)(hb:w.heap.size≤b)(XP:b<lo)(hz:u.heap[b]?=some (.cells #[z0,z1,z2,z3,z4] 25))
 (hx:ExOn (fun g=>lo≤g∧g<u.heap.size) n u [v0,v1,v2,v3,v4] x) (hr:RAt rb u l) (hg:w.grownBy u (some rb)) :
 ∃W',W'=((((u.setCell ⟨b,0,none⟩ v0).setCell ⟨b,1,none⟩ v1).setCell ⟨b,2,none⟩ v2).setCell ⟨b,3,none⟩ v3).setCell ⟨b,4,none⟩ v4 ∧
  ExOn (fun g=>w.heap.size≤g∧g<W'.heap.size) n W' [v0,v1,v2,v3,v4] x∧W'.heap[b]?=some (.cells #[v0,v1,v2,v3,v4] 25)∧RAt rb W' l∧w.grownBy W' (some rb):=by
 refine⟨_,rfl,?_,?_,?_,?_⟩
 ·refine(hx.keep fun g ⟨g1,_⟩ => ?_).mono fun g ⟨g1,g2⟩=>⟨by omega,by simpa[World.setCell]using g2⟩
  rw[Below.heap_setCell _ _ _ _ (by show g≠b;omega),Below.heap_setCell _ _ _ _ (by show g≠b;omega),Below.heap_setCell _ _ _ _ (by show g≠b;omega),Below.heap_setCell _ _ _ _ (by show g≠b;omega),Below.heap_setCell _ _ _ _ (by show g≠b;omega)]
 ·exact za2 hz _ _ _ _ _
 ·exact((((hr.setNew Zi _ _).setNew Zi _ _).setNew Zi _ _).setNew Zi _ _).setNew Zi _ _
 ·exact zaq (zaq (zaq (zaq (zaq hg hb _ _) hb _ _) hb _ _) hb _ _) hb _ _
def zhq(rb n0:Nat)(S T:RdX):Prop:=∀(b:Bool)(W:World)(l:List Tk),RAt rb W l→l.length<n0→Calls Tryz.prog (fnF b) #[.pointer (some ⟨rb,0,none⟩)] W (zbk (VEx W.heap.size) rb W (za9 S T b l))
theorem zao{w u:World}{o:Obj}{rb b:Nat}(h:w.heap[b]?=some o)(hg:w.grownBy u (some rb))(ZT:rb≠b):u.heap[b]?=some o :=
 (hg.block b (Z8 h) (fun e=>by injection e with e;exact ZT e.symm)).trans h
theorem ztk{rb n0:Nat}(S T:RdX)(hp:zhq rb n0 S T)(cS:∀l,(S l).Cons l)(cT:∀l,(T l).Cons l)(w:World)(l:List Tk)(h:RAt rb w l)(hl:l.length≤n0)(hh:zar l=[109,97,120]) :
 Calls Tryz.prog 113 #[.pointer (some ⟨rb,0,none⟩)] w (zbk (VEx w.heap.size) rb w (zbf 7 (([true,true]:List Bool).map (za9 S T)) l.tail)):=by
 have hmf:∀(fn:Fn)(first cap:Array Value)(w:World),(Instr.makeFunc fn first cap).run Tryz.prog w=.ok (.func fn first cap) w:=fun _ _ _ _=>rfl
 obtain⟨t,r,rfl⟩:=zbp (l:=l) (by rw[hh];simp);have HHD:=Z9 (fun W (hW:RAt rb W (t :: r))=>zbs rb W (t :: r) hW);rw[zbu hh]at HHD;have HTK:=Z9 (fun W (hW:RAt rb W (t :: r))=>zbl rb W t r hW);have HLI:=Z9 (fun W gp (hW:RAt rb W r) (hl:r.length≤n0) (h1:gp<W.heap.size) (h2:gp≠rb) (h3:∀i (hi:i<([true,true]:List Bool).length),W.cell? ⟨gp,i,none⟩=some (fnV rb (fnF (([true,true]:List Bool)[i]'hi))))=>zd9 S T hp cS cT 7 ([true,true]:List Bool) 2 gp rfl (by decide) W r hW hl h1 h2 h3);have HR:=Z9 h;have HL:Hid (r.length≤n0):=Z9 (by rw[List.length_cons]at hl;omega);have ZH:=h.lt;obtain⟨GR,ZK⟩:∃GR,GR=zbf 7 (([true,true]:List Bool).map (za9 S T)) (t :: r).tail:=⟨_,rfl⟩
 rw[←ZK];have HGR:=Z9 ZK;clear h hl hh hp cS cT ZK;go_enter Tryz.func113,Tryz.ntmps113;go_wp2_with fail;have YE:=Z9 (zaf w (.cells #[.int .u8 0,.string ⟨#[]⟩,.string ⟨#[]⟩,.int .i64 0,.slice none 0 0] 25));refine(HHD.out _ (HR.out.below YE.out)).mono ?_;rintro e u ⟨rfl,hb⟩;have HU:=Z9 (And.intro (zao (heap_alloc_new w (.cells #[.int .u8 0,.string ⟨#[]⟩,.string ⟨#[]⟩,.int .i64 0,.slice none 0 0] 25)) (zan (rb:=rb) (zah hb)) (Nat.ne_of_lt ZH)) (And.intro ((HR.out.below YE.out).below hb) (zan (rb:=rb) (zah (YE.out.trans (hb.mono YE.out.size))))));clear hb;go_wp2_with fail;refine(HTK.out _ HU.out.2.1).mono ?_
 rintro e u2 ⟨v,rfl,rfl,hr,hg⟩;have Y2:=Z9 (And.intro (zao HU.out.1 hg (Nat.ne_of_lt ZH)) (And.intro hr (Lib.grownBy_trans HU.out.2.2 hg)));clear hr hg;go_wp2_with fail;have ZD:=(Z8 Y2.out.1);have Zu:=zaf u2 (.cells #[.func (.func 64) #[.pointer (some ⟨rb,0,none⟩)] #[],.func (.func 64) #[.pointer (some ⟨rb,0,none⟩)] #[]] 93)
 have ZM:∀i (hi:i<([true,true]:List Bool).length),(u2.alloc (.cells #[.func (.func 64) #[.pointer (some ⟨rb,0,none⟩)] #[],.func (.func 64) #[.pointer (some ⟨rb,0,none⟩)] #[]] 93)).cell? ⟨u2.heap.size,i,none⟩=some (fnV rb (fnF (([true,true]:List Bool)[i]'hi))):=by
  intro i hi;have ha:=heap_alloc_new u2 (.cells #[.func (.func 64) #[.pointer (some ⟨rb,0,none⟩)] #[],.func (.func 64) #[.pointer (some ⟨rb,0,none⟩)] #[]] 93);simp only[List.length_cons,List.length_nil]at hi;unfold World.cell?
  show(match (u2.alloc _).heap[u2.heap.size]? with |some (.cells c _ _)=>c[i]? |_=>none)=_
  rw[ha]
  match i,hi with
  |0,_=>rfl
  |1,_=>rfl
 have HM:=Z9 (HLI.out _ u2.heap.size (Y2.out.2.1.below Zu) HL.out (by simp) (by omega) ZM);clear ZM Zu;have e2:zbf 7 (([true,true]:List Bool).map (za9 S T)) r=GR:=HGR.out.symm;rw[e2]at HM;have HU3:=Z9 (And.intro (zao Y2.out.1 (World.grownBy_alloc u2 (.cells #[.func (.func 64) #[.pointer (some ⟨rb,0,none⟩)] #[],.func (.func 64) #[.pointer (some ⟨rb,0,none⟩)] #[]] 93) (some rb)) (Nat.ne_of_lt ZH)) (Lib.grownBy_allocR Y2.out.2.2 (.cells #[.func (.func 64) #[.pointer (some ⟨rb,0,none⟩)] #[],.func (.func 64) #[.pointer (some ⟨rb,0,none⟩)] #[]] 93)));refine HM.out.mono ?_;clear e2
 cases hq:GR with
 |no lq =>
  rintro e u3 ⟨rfl,hr,hg⟩;exact⟨rfl,zbm rfl ⟨rfl,hr,Lib.grownBy_trans HU3.out.2 hg⟩⟩
 |ok y ly =>
  rintro e u3 ⟨vv,rfl,⟨mm,pa,pl,pc,rfl,hx⟩,hr,hg⟩;have hz3:=zao HU3.out.1 hg (Nat.ne_of_lt ZH);have HFIN:=Z9 (zlv ZH (Nat.le_refl _) (by rw[World.size_alloc];omega) hz3 hx hr (Lib.grownBy_trans HU3.out.2 hg));have fz:∀i,u3.frozen? ⟨w.heap.size,i,none⟩=false:=Lib.frozen_of_heap hz3
  have zb:w.heap.size<u3.heap.size:=(Z8 hz3);obtain⟨z0,z1,z2,z3,z4⟩:=zae hz3;clear hx hr hg hz3;go_wp2_with fail;obtain⟨W',hW',hx,Zs,hr,hg⟩:=HFIN.out;rw[←hW'];obtain⟨c0,c1,c2,c3,c4⟩:=zae Zs;exact bodyPost_ret (v:=.agg #[.int .u8 y.kind,.string y.rat,.string y.name,.int .i64 y.date,.slice pa pl pc]) (by simp[results,Tryz.results113,go_sem,c0,c1,c2,c3,c4]) rfl (zcz hq ⟨_,rfl,⟨_,pa,pl,pc,rfl,hx⟩,hr,hg⟩)
theorem ztj{rb n0:Nat}(S T:RdX)(hp:zhq rb n0 S T)(cS:∀l,(S l).Cons l)(cT:∀l,(T l).Cons l)(w:World)(l:List Tk)(h:RAt rb w l)(hl:l.length≤n0)(hh:zar l=[109,105,110]) :
 Calls Tryz.prog 113 #[.pointer (some ⟨rb,0,none⟩)] w (zbk (VEx w.heap.size) rb w (zbf 8 (([true,true]:List Bool).map (za9 S T)) l.tail)):=by
 have hmf:∀(fn:Fn)(first cap:Array Value)(w:World),(Instr.makeFunc fn first cap).run Tryz.prog w=.ok (.func fn first cap) w:=fun _ _ _ _=>rfl
 obtain⟨t,r,rfl⟩:=zbp (l:=l) (by rw[hh];simp);have HHD:=Z9 (fun W (hW:RAt rb W (t :: r))=>zbs rb W (t :: r) hW);rw[zbu hh]at HHD;have HTK:=Z9 (fun W (hW:RAt rb W (t :: r))=>zbl rb W t r hW);have HLI:=Z9 (fun W gp (hW:RAt rb W r) (hl:r.length≤n0) (h1:gp<W.heap.size) (h2:gp≠rb) (h3:∀i (hi:i<([true,true]:List Bool).length),W.cell? ⟨gp,i,none⟩=some (fnV rb (fnF (([true,true]:List Bool)[i]'hi))))=>zd9 S T hp cS cT 8 ([true,true]:List Bool) 2 gp rfl (by decide) W r hW hl h1 h2 h3);have HR:=Z9 h;have HL:Hid (r.length≤n0):=Z9 (by rw[List.length_cons]at hl;omega);have ZH:=h.lt;obtain⟨GR,ZK⟩:∃GR,GR=zbf 8 (([true,true]:List Bool).map (za9 S T)) (t :: r).tail:=⟨_,rfl⟩
 rw[←ZK];have HGR:=Z9 ZK;clear h hl hh hp cS cT ZK;go_enter Tryz.func113,Tryz.ntmps113;go_wp2_with fail;have YE:=Z9 (zaf w (.cells #[.int .u8 0,.string ⟨#[]⟩,.string ⟨#[]⟩,.int .i64 0,.slice none 0 0] 25));refine(HHD.out _ (HR.out.below YE.out)).mono ?_;rintro e u ⟨rfl,hb⟩;have HU:=Z9 (And.intro (zao (heap_alloc_new w (.cells #[.int .u8 0,.string ⟨#[]⟩,.string ⟨#[]⟩,.int .i64 0,.slice none 0 0] 25)) (zan (rb:=rb) (zah hb)) (Nat.ne_of_lt ZH)) (And.intro ((HR.out.below YE.out).below hb) (zan (rb:=rb) (zah (YE.out.trans (hb.mono YE.out.size))))));clear hb;go_wp2_with fail;refine(HTK.out _ HU.out.2.1).mono ?_
 rintro e u2 ⟨v,rfl,rfl,hr,hg⟩;have Y2:=Z9 (And.intro (zao HU.out.1 hg (Nat.ne_of_lt ZH)) (And.intro hr (Lib.grownBy_trans HU.out.2.2 hg)));clear hr hg;go_wp2_with fail;have ZD:=(Z8 Y2.out.1);have Zu:=zaf u2 (.cells #[.func (.func 64) #[.pointer (some ⟨rb,0,none⟩)] #[],.func (.func 64) #[.pointer (some ⟨rb,0,none⟩)] #[]] 93)
 have ZM:∀i (hi:i<([true,true]:List Bool).length),(u2.alloc (.cells #[.func (.func 64) #[.pointer (some ⟨rb,0,none⟩)] #[],.func (.func 64) #[.pointer (some ⟨rb,0,none⟩)] #[]] 93)).cell? ⟨u2.heap.size,i,none⟩=some (fnV rb (fnF (([true,true]:List Bool)[i]'hi))):=by
  intro i hi;have ha:=heap_alloc_new u2 (.cells #[.func (.func 64) #[.pointer (some ⟨rb,0,none⟩)] #[],.func (.func 64) #[.pointer (some ⟨rb,0,none⟩)] #[]] 93);simp only[List.length_cons,List.length_nil]at hi;unfold World.cell?
  show(match (u2.alloc _).heap[u2.heap.size]? with |some (.cells c _ _)=>c[i]? |_=>none)=_
  rw[ha]
  match i,hi with
  |0,_=>rfl
  |1,_=>rfl
 have HM:=Z9 (HLI.out _ u2.heap.size (Y2.out.2.1.below Zu) HL.out (by simp) (by omega) ZM);clear ZM Zu;have e2:zbf 8 (([true,true]:List Bool).map (za9 S T)) r=GR:=HGR.out.symm;rw[e2]at HM;have HU3:=Z9 (And.intro (zao Y2.out.1 (World.grownBy_alloc u2 (.cells #[.func (.func 64) #[.pointer (some ⟨rb,0,none⟩)] #[],.func (.func 64) #[.pointer (some ⟨rb,0,none⟩)] #[]] 93) (some rb)) (Nat.ne_of_lt ZH)) (Lib.grownBy_allocR Y2.out.2.2 (.cells #[.func (.func 64) #[.pointer (some ⟨rb,0,none⟩)] #[],.func (.func 64) #[.pointer (some ⟨rb,0,none⟩)] #[]] 93)));refine HM.out.mono ?_;clear e2
 cases hq:GR with
 |no lq =>
  rintro e u3 ⟨rfl,hr,hg⟩;exact⟨rfl,zbm rfl ⟨rfl,hr,Lib.grownBy_trans HU3.out.2 hg⟩⟩
 |ok y ly =>
  rintro e u3 ⟨vv,rfl,⟨mm,pa,pl,pc,rfl,hx⟩,hr,hg⟩;have hz3:=zao HU3.out.1 hg (Nat.ne_of_lt ZH);have HFIN:=Z9 (zlv ZH (Nat.le_refl _) (by rw[World.size_alloc];omega) hz3 hx hr (Lib.grownBy_trans HU3.out.2 hg));have fz:∀i,u3.frozen? ⟨w.heap.size,i,none⟩=false:=Lib.frozen_of_heap hz3
  have zb:w.heap.size<u3.heap.size:=(Z8 hz3);obtain⟨z0,z1,z2,z3,z4⟩:=zae hz3;clear hx hr hg hz3;go_wp2_with fail;obtain⟨W',hW',hx,Zs,hr,hg⟩:=HFIN.out;rw[←hW'];obtain⟨c0,c1,c2,c3,c4⟩:=zae Zs;exact bodyPost_ret (v:=.agg #[.int .u8 y.kind,.string y.rat,.string y.name,.int .i64 y.date,.slice pa pl pc]) (by simp[results,Tryz.results113,go_sem,c0,c1,c2,c3,c4]) rfl (zcz hq ⟨_,rfl,⟨_,pa,pl,pc,rfl,hx⟩,hr,hg⟩)
theorem zpx{rb n0:Nat}(S T:RdX)(hp:zhq rb n0 S T)(cS:∀l,(S l).Cons l)(cT:∀l,(T l).Cons l)(w:World)(l:List Tk)(h:RAt rb w l)(hl:l.length≤n0)(hh:zar l=[99,97,115,101]) :
 Calls Tryz.prog 113 #[.pointer (some ⟨rb,0,none⟩)] w (zbk (VEx w.heap.size) rb w (zbf 9 (([false,true,true]:List Bool).map (za9 S T)) l.tail)):=by
 have hmf:∀(fn:Fn)(first cap:Array Value)(w:World),(Instr.makeFunc fn first cap).run Tryz.prog w=.ok (.func fn first cap) w:=fun _ _ _ _=>rfl
 obtain⟨t,r,rfl⟩:=zbp (l:=l) (by rw[hh];simp);have HHD:=Z9 (fun W (hW:RAt rb W (t :: r))=>zbs rb W (t :: r) hW);rw[zbu hh]at HHD;have HTK:=Z9 (fun W (hW:RAt rb W (t :: r))=>zbl rb W t r hW);have HLI:=Z9 (fun W gp (hW:RAt rb W r) (hl:r.length≤n0) (h1:gp<W.heap.size) (h2:gp≠rb) (h3:∀i (hi:i<([false,true,true]:List Bool).length),W.cell? ⟨gp,i,none⟩=some (fnV rb (fnF (([false,true,true]:List Bool)[i]'hi))))=>zd9 S T hp cS cT 9 ([false,true,true]:List Bool) 3 gp rfl (by decide) W r hW hl h1 h2 h3);have HR:=Z9 h;have HL:Hid (r.length≤n0):=Z9 (by rw[List.length_cons]at hl;omega);have ZH:=h.lt;obtain⟨GR,ZK⟩:∃GR,GR=zbf 9 (([false,true,true]:List Bool).map (za9 S T)) (t :: r).tail:=⟨_,rfl⟩
 rw[←ZK];have HGR:=Z9 ZK;clear h hl hh hp cS cT ZK;go_enter Tryz.func113,Tryz.ntmps113;go_wp2_with fail;have YE:=Z9 (zaf w (.cells #[.int .u8 0,.string ⟨#[]⟩,.string ⟨#[]⟩,.int .i64 0,.slice none 0 0] 25));refine(HHD.out _ (HR.out.below YE.out)).mono ?_;rintro e u ⟨rfl,hb⟩;have HU:=Z9 (And.intro (zao (heap_alloc_new w (.cells #[.int .u8 0,.string ⟨#[]⟩,.string ⟨#[]⟩,.int .i64 0,.slice none 0 0] 25)) (zan (rb:=rb) (zah hb)) (Nat.ne_of_lt ZH)) (And.intro ((HR.out.below YE.out).below hb) (zan (rb:=rb) (zah (YE.out.trans (hb.mono YE.out.size))))));clear hb;go_wp2_with fail;refine(HTK.out _ HU.out.2.1).mono ?_
 rintro e u2 ⟨v,rfl,rfl,hr,hg⟩;have Y2:=Z9 (And.intro (zao HU.out.1 hg (Nat.ne_of_lt ZH)) (And.intro hr (Lib.grownBy_trans HU.out.2.2 hg)));clear hr hg;go_wp2_with fail;have ZD:=(Z8 Y2.out.1);have Zu:=zaf u2 (.cells #[.func (.func 63) #[.pointer (some ⟨rb,0,none⟩)] #[],.func (.func 64) #[.pointer (some ⟨rb,0,none⟩)] #[],.func (.func 64) #[.pointer (some ⟨rb,0,none⟩)] #[]] 93)
 have ZM:∀i (hi:i<([false,true,true]:List Bool).length),(u2.alloc (.cells #[.func (.func 63) #[.pointer (some ⟨rb,0,none⟩)] #[],.func (.func 64) #[.pointer (some ⟨rb,0,none⟩)] #[],.func (.func 64) #[.pointer (some ⟨rb,0,none⟩)] #[]] 93)).cell? ⟨u2.heap.size,i,none⟩=some (fnV rb (fnF (([false,true,true]:List Bool)[i]'hi))):=by
  intro i hi;have ha:=heap_alloc_new u2 (.cells #[.func (.func 63) #[.pointer (some ⟨rb,0,none⟩)] #[],.func (.func 64) #[.pointer (some ⟨rb,0,none⟩)] #[],.func (.func 64) #[.pointer (some ⟨rb,0,none⟩)] #[]] 93);simp only[List.length_cons,List.length_nil]at hi;unfold World.cell?
  show(match (u2.alloc _).heap[u2.heap.size]? with |some (.cells c _ _)=>c[i]? |_=>none)=_
  rw[ha]
  match i,hi with
  |0,_=>rfl
  |1,_=>rfl
  |2,_=>rfl
 have HM:=Z9 (HLI.out _ u2.heap.size (Y2.out.2.1.below Zu) HL.out (by simp) (by omega) ZM);clear ZM Zu;have e2:zbf 9 (([false,true,true]:List Bool).map (za9 S T)) r=GR:=HGR.out.symm;rw[e2]at HM;have HU3:=Z9 (And.intro (zao Y2.out.1 (World.grownBy_alloc u2 (.cells #[.func (.func 63) #[.pointer (some ⟨rb,0,none⟩)] #[],.func (.func 64) #[.pointer (some ⟨rb,0,none⟩)] #[],.func (.func 64) #[.pointer (some ⟨rb,0,none⟩)] #[]] 93) (some rb)) (Nat.ne_of_lt ZH)) (Lib.grownBy_allocR Y2.out.2.2 (.cells #[.func (.func 63) #[.pointer (some ⟨rb,0,none⟩)] #[],.func (.func 64) #[.pointer (some ⟨rb,0,none⟩)] #[],.func (.func 64) #[.pointer (some ⟨rb,0,none⟩)] #[]] 93)))
 refine HM.out.mono ?_;clear e2
 cases hq:GR with
 |no lq =>
  rintro e u3 ⟨rfl,hr,hg⟩;exact⟨rfl,zbm rfl ⟨rfl,hr,Lib.grownBy_trans HU3.out.2 hg⟩⟩
 |ok y ly =>
  rintro e u3 ⟨vv,rfl,⟨mm,pa,pl,pc,rfl,hx⟩,hr,hg⟩;have hz3:=zao HU3.out.1 hg (Nat.ne_of_lt ZH);have HFIN:=Z9 (zlv ZH (Nat.le_refl _) (by rw[World.size_alloc];omega) hz3 hx hr (Lib.grownBy_trans HU3.out.2 hg));have fz:∀i,u3.frozen? ⟨w.heap.size,i,none⟩=false:=Lib.frozen_of_heap hz3
  have zb:w.heap.size<u3.heap.size:=(Z8 hz3);obtain⟨z0,z1,z2,z3,z4⟩:=zae hz3;clear hx hr hg hz3;go_wp2_with fail;obtain⟨W',hW',hx,Zs,hr,hg⟩:=HFIN.out;rw[←hW'];obtain⟨c0,c1,c2,c3,c4⟩:=zae Zs;exact bodyPost_ret (v:=.agg #[.int .u8 y.kind,.string y.rat,.string y.name,.int .i64 y.date,.slice pa pl pc]) (by simp[results,Tryz.results113,go_sem,c0,c1,c2,c3,c4]) rfl (zcz hq ⟨_,rfl,⟨_,pa,pl,pc,rfl,hx⟩,hr,hg⟩)
theorem zcw{l:List Tk}{b:List UInt8}(h:¬zar l=b):((zfi l).toList == b)=false:=by
 rw[zac,zgi];simpa using h
def zC:Obj:=.cells #[.int .u8 0,.string ⟨#[]⟩,.string ⟨#[]⟩,.int .i64 0,.slice none 0 0] 25
structure FAt(rb b:Nat)(w u:World)(l:List Tk):Prop where
 box:u.heap[b]?=some zC
 rd:RAt rb u l
 grown:w.grownBy u (some rb)
 lt:rb<b
theorem FAt.call{rb b:Nat}{w u u':World}{l l':List Tk}(h:FAt rb b w u l)(hg:u.grownBy u' (some rb))(hr:RAt rb u' l'):FAt rb b w u' l' :=
 ⟨zao h.box hg (Nat.ne_of_lt h.lt),hr,Lib.grownBy_trans h.grown hg,h.lt⟩
theorem FAt.below{rb b:Nat}{w u u':World}{l:List Tk}(h:FAt rb b w u l)(hb:Below u.heap.size u u'):FAt rb b w u' l:=h.call (zan (zah hb)) (h.rd.below hb)
theorem FAt.alloc{rb b:Nat}{w u:World}{l:List Tk}(h:FAt rb b w u l)(o:Obj):FAt rb b w (u.alloc o) l:=h.below (zaf u o)
theorem FAt.start{rb:Nat}{w:World}{l:List Tk}(h:RAt rb w l):FAt rb w.heap.size w (w.alloc zC) l:=⟨heap_alloc_new w zC,h.below (zaf w zC),World.grownBy_alloc w zC _,h.lt⟩
theorem FAt.blt{rb b:Nat}{w u:World}{l:List Tk}(h:FAt rb b w u l):b<u.heap.size:=(Z8 h.box)
theorem zhn{lo n rb:Nat}{u u':World}{cs:List Value}{x:Ex}(hx:ExOn (fun g=>lo≤g∧g<u.heap.size) n u cs x)(hg:u.grownBy u' (some rb))(Zi:rb<lo):ExOn (fun g=>lo≤g∧g<u'.heap.size) n u' cs x :=
 (hx.keep (w':=u') fun g ⟨g1,g2⟩=>hg.block g g2 (fun e=>by injection e with e;omega)).mono fun g ⟨g1,g2⟩=>⟨g1,Nat.lt_of_lt_of_le g2 hg.size⟩
theorem FAt.setNew{rb b c:Nat}{w u:World}{l:List Tk}(h:FAt rb b w u l)(hc:b<c)(i:Nat)(v:Value)(hw:w.heap.size≤c:=by omega):FAt rb b w (u.setCell ⟨c,i,none⟩ v) l :=
 ⟨(Below.heap_setCell _ _ _ _ (by show b≠c;omega)).trans h.box,h.rd.setNew (Nat.lt_trans h.lt hc) _ _,zaq h.grown hw _ _,h.lt⟩
theorem FAt.fin{n rb b lo:Nat}{w u:World}{l:List Tk}{x:Ex}{v0 v1 v2 v3 v4:Value}(h:FAt rb b w u l)(hb:w.heap.size≤b)(XP:b<lo)(hx:ExOn (fun g=>lo≤g∧g<u.heap.size) n u [v0,v1,v2,v3,v4] x) :
 ∃W',W'=((((u.setCell ⟨b,0,none⟩ v0).setCell ⟨b,1,none⟩ v1).setCell ⟨b,2,none⟩ v2).setCell ⟨b,3,none⟩ v3).setCell ⟨b,4,none⟩ v4 ∧
  ExOn (fun g=>w.heap.size≤g∧g<W'.heap.size) n W' [v0,v1,v2,v3,v4] x∧W'.heap[b]?=some (.cells #[v0,v1,v2,v3,v4] 25)∧RAt rb W' l∧w.grownBy W' (some rb) :=
 zlv h.lt hb XP h.box hx h.rd h.grown
theorem zpv{rb:Nat}(w:World)(l:List Tk)(h:RAt rb w l)(h1:¬zar l=[109,97,120])(h2:¬zar l=[109,105,110])(h3:¬zar l=[99,97,115,101])(h4:¬zar l=[]) :
 Calls Tryz.prog 113 #[.pointer (some ⟨rb,0,none⟩)] w (zbk (VEx w.heap.size) rb w (.no l)):=by
 have HHD:=Z9 (fun W (hW:RAt rb W l)=>zbs rb W l hW);have HSTOP:=Z9 (fun W=>zgs rb W);have d1:=zcw h1;have d2:=zcw h2;have d3:=zcw h3;have d4:=zcw h4;obtain⟨S,hS⟩:∃S,S=zfi l:=⟨_,rfl⟩
 rw[←hS]at HHD d1 d2 d3 d4;have HR:=Z9 h;clear h h1 h2 h3 h4 hS;go_enter Tryz.func113,Tryz.ntmps113;go_wp2_with fail;have YE:=Z9 (zaf w (.cells #[.int .u8 0,.string ⟨#[]⟩,.string ⟨#[]⟩,.int .i64 0,.slice none 0 0] 25));refine(HHD.out _ (HR.out.below YE.out)).mono ?_;rintro e u ⟨rfl,hb⟩;have HU:=Z9 (And.intro ((HR.out.below YE.out).below hb) (zan (rb:=rb) (zah (YE.out.trans (hb.mono YE.out.size)))));clear hb;go_wp2_with fail;refine(HSTOP.out _).mono ?_;rintro e u2 ⟨rfl,rfl⟩;exact⟨rfl,rfl,HU.out.1,HU.out.2⟩
theorem zno{rb n0:Nat}(S T:RdX)(hp:zhq rb n0 S T)(w:World)(l:List Tk)(h:RAt rb w l)(hl:l.length≤n0)(h4:zar l=[])(h5:tIs 5 [40] l=true) :
 Calls Tryz.prog 113 #[.pointer (some ⟨rb,0,none⟩)] w (zbk (VEx w.heap.size) rb w ((S l.tail).bind fun x l=>(tEat 5 [41] l).bind fun _ l=>.ok x l)):=by
 obtain⟨t,r,rfl⟩:=zb2 h5;have HHD:=Z9 (fun W (hW:RAt rb W (t :: r))=>zbs rb W (t :: r) hW);rw[zbu h4]at HHD;have HIS:=Z9 (fun W (hW:RAt rb W (t :: r))=>zjf rb 5 ⟨#[40]⟩ W (t :: r) hW);rw[show tIs 5 (ByteArray.mk #[40]).data.toList (t :: r)=true from h5]at HIS;have HTK:=Z9 (fun W (hW:RAt rb W (t :: r))=>zbl rb W t r hW);have HMU:=Z9 (fun g2 s W l (hW:RAt rb W l) (hs:W.cell? ⟨g2,0,none⟩=some (.string s))=>zie rb g2 5 s W l hW hs);have Ww:Hid (∀W,RAt rb W r→Calls Tryz.prog 64 #[.pointer (some ⟨rb,0,none⟩)] W (zbk (VEx W.heap.size) rb W (S r))):=Z9 (fun W hW=>hp true W r hW (by rw[List.length_cons]at hl;omega))
 have HR:=Z9 h;have ZH:=h.lt
 obtain⟨GR,ZK⟩:∃GR,GR=(S (t :: r).tail).bind fun x l=>(tEat 5 [41] l).bind fun _ l=>.ok x l:=⟨_,rfl⟩
 rw[←ZK];have HGR:Hid (GR=(S r).bind fun x l=>(tEat 5 [41] l).bind fun _ l=>.ok x l):=Z9 ZK;clear h hl h4 h5 hp ZK;go_enter Tryz.func113,Tryz.ntmps113;go_wp2_with fail;have HF0:=Z9 (FAt.start HR.out);refine(HHD.out _ HF0.out.rd).mono ?_;rintro e u ⟨rfl,hb⟩;have HU:=Z9 (HF0.out.below hb);clear hb;go_wp2_with fail;refine(HIS.out _ HU.out.rd).mono ?_;rintro e u1 ⟨rfl,hb⟩;have HU1:=Z9 (HU.out.below hb);clear hb;go_wp2_with fail;refine(HTK.out _ HU1.out.rd).mono ?_;rintro e u2 ⟨v,rfl,rfl,hr,hg⟩;have Y2:=Z9 (HU1.out.call hg hr);clear hr hg;go_wp2_with fail;refine(Ww.out _ Y2.out.rd).mono ?_
 cases hq:S r with
 |no lq =>
  rintro e u3 ⟨rfl,hr,hg⟩;exact⟨rfl,zbm (l:=lq) (by rw[HGR.out,hq];rfl) ⟨rfl,hr,(Y2.out.call hg hr).grown⟩⟩
 |ok y l1 =>
  rintro e u3 ⟨vv,rfl,⟨mm,pa,pl,pc,rfl,hx⟩,hr,hg⟩;have HU3:=Z9 (Y2.out.call hg hr);obtain⟨yo,Vg⟩:∃yo:Obj,yo=.cells #[.int .u8 y.kind,.string y.rat,.string y.name,.int .i64 y.date,.slice pa pl pc] 25:=⟨_,rfl⟩
  have V5:u3.grownBy ((u3.alloc yo).alloc (.cells #[.string ⟨#[41]⟩] 9)) (some rb):=Lib.grownBy_allocR (World.grownBy_alloc u3 yo _) _;have HU4:=Z9 ((HU3.out.alloc yo).alloc (.cells #[.string ⟨#[41]⟩] 9));have HX:=Z9 (zhn hx V5 (Nat.lt_trans Y2.out.lt Y2.out.blt));have HYB:=Z9 (zao (heap_alloc_new u3 yo) (World.grownBy_alloc (u3.alloc yo) (.cells #[.string ⟨#[41]⟩] 9) (some rb)) (Nat.ne_of_lt HU3.out.rd.lt))
  have HSC:Hid (((u3.alloc yo).alloc (.cells #[.string ⟨#[41]⟩] 9)).cell? ⟨u3.heap.size+1,0,none⟩=some (.string ⟨#[41]⟩)):=by
   have:=Boxed.cell (Boxed.new (u3.alloc yo) 9 (.string ⟨#[41]⟩));rw[World.size_alloc]at this;exact Z9 this
  have HG23:=Z9 hg;rw[Vg]at HU4 HX HYB HSC;clear hr hg hx Vg V5;go_wp2_with fail;refine(HMU.out _ _ _ l1 HU4.out.rd HSC.out).mono ?_;change ∀e u',zbk z43 rb _ (tEat 5 [41] l1) e u'→_
  cases Zb:tEat 5 [41] l1 with
  |no lq =>
   rintro e u5 ⟨rfl,hr,hg⟩;exact⟨rfl,zbm (l:=lq) (by rw[HGR.out,hq];show(tEat 5 [41] l1).bind _=_;rw[Zb];rfl) ⟨rfl,hr,(HU4.out.call hg hr).grown⟩⟩
  |ok un l2 =>
   rintro e u5 ⟨v5,rfl,rfl,hr,hg⟩;have HU5:=Z9 (HU4.out.call hg hr);have hyb:=zao HYB.out hg (Nat.ne_of_lt HU3.out.rd.lt);have HFIN:=Z9 (HU5.out.fin (Nat.le_refl _) Y2.out.blt (zhn HX.out hg (Nat.lt_trans Y2.out.lt Y2.out.blt)));obtain⟨y0,y1,y2,y3,y4⟩:=zae hyb;obtain⟨z0,z1,z2,z3,z4⟩:=zae (show u5.heap[w.heap.size]?=some (.cells #[.int .u8 0,.string ⟨#[]⟩,.string ⟨#[]⟩,.int .i64 0,.slice none 0 0] 25)from HU5.out.box)
   have fz:∀i,u5.frozen? ⟨w.heap.size,i,none⟩=false:=Lib.frozen_of_heap (show u5.heap[w.heap.size]?=some (.cells #[.int .u8 0,.string ⟨#[]⟩,.string ⟨#[]⟩,.int .i64 0,.slice none 0 0] 25)from HU5.out.box)
   have zb:=HU5.out.blt;have hyl:=(Z8 hyb);clear hr hg hyb;go_wp2_with fail;obtain⟨W',hW',hx,Zs,hr,hg⟩:=HFIN.out;rw[←hW'];obtain⟨c0,c1,c2,c3,c4⟩:=zae Zs;exact bodyPost_ret (v:=.agg #[.int .u8 y.kind,.string y.rat,.string y.name,.int .i64 y.date,.slice pa pl pc]) (by simp[results,Tryz.results113,go_sem,c0,c1,c2,c3,c4]) rfl (zcz (x:=y) (l:=l2) (by rw[HGR.out,hq];show(tEat 5 [41] l1).bind _=_;rw[Zb];rfl) ⟨_,rfl,⟨_,pa,pl,pc,rfl,hx⟩,hr,hg⟩)
theorem zhm(S:Nat→Prop)(w:World)(k:Int)(r s:ByteArray)(d:Int):ExOn S 1 w [.int .u8 k,.string r,.string s,.int .i64 d,.slice none 0 0] (.mk k r s d []):=⟨none,0,0,rfl,rfl,.inl rfl⟩
theorem zti{rb:Nat}(w:World)(t:Tk)(r:List Tk)(h:RAt rb w (t :: r))(h4:zar (t :: r)=[])(h5:tIs 5 [40] (t :: r)=false)(h6:t.kind=3) :
 Calls Tryz.prog 113 #[.pointer (some ⟨rb,0,none⟩)] w (zbk (VEx w.heap.size) rb w (.ok (.mk 1 t.rat tE0 0 []) r)):=by
 have hfld:=zwy;have HHD:=Z9 (fun W (hW:RAt rb W (t :: r))=>zbs rb W (t :: r) hW);rw[zbu h4]at HHD;have HIS:=Z9 (fun W (hW:RAt rb W (t :: r))=>zjf rb 5 ⟨#[40]⟩ W (t :: r) hW);rw[show tIs 5 (ByteArray.mk #[40]).data.toList (t :: r)=false from h5]at HIS;have HR:=Z9 h;have ZH:=h.lt;have HTK:=Z9 (fun W (hW:RAt rb W (t :: r))=>zbl rb W t r hW);have HK:=Z9 h6;clear h h4 h5 h6;go_enter Tryz.func113,Tryz.ntmps113;go_wp2_with fail;have HF0:=Z9 (FAt.start HR.out);refine(HHD.out _ HF0.out.rd).mono ?_;rintro e u ⟨rfl,hb⟩;have HU:=Z9 (HF0.out.below hb);clear hb;go_wp2_with fail;refine(HIS.out _ HU.out.rd).mono ?_
 rintro e u1 ⟨rfl,hb⟩;have HU1:=Z9 (HU.out.below hb);clear hb;obtain⟨g,o,cap,hb,hc,hm,Z1,hg,ZT,_⟩:=HU1.out.rd.head;have h0:=hb.cell;obtain⟨c0,_,_,_,_⟩:=zeu Z1;have hl:(0:Int)<((r.length+1:Nat):Int):=by omega
 have hl0:0<r.length+1:=by omega
 obtain⟨n,hn⟩:∃n,n=r.length+1:=⟨_,rfl⟩
 rw[←hn]at h0 hl hl0 hc;have hn0:((n:Int) == 0)=false:=by simp;omega
 have d1:(t.kind == 3)=true:=by simp[HK.out]
 clear hb Z1 hn;go_wp2_with fail;refine(HTK.out _ HU1.out.rd).mono ?_;rintro e u2 ⟨v,rfl,rfl,hr,Yl⟩;have Y2:=Z9 (HU1.out.call Yl hr);obtain⟨z0,z1,z2,z3,z4⟩:=zae (show u2.heap[w.heap.size]?=some (.cells #[.int .u8 0,.string ⟨#[]⟩,.string ⟨#[]⟩,.int .i64 0,.slice none 0 0] 25)from Y2.out.box)
 have fz:∀i,u2.frozen? ⟨w.heap.size,i,none⟩=false:=Lib.frozen_of_heap (show u2.heap[w.heap.size]?=some (.cells #[.int .u8 0,.string ⟨#[]⟩,.string ⟨#[]⟩,.int .i64 0,.slice none 0 0] 25)from Y2.out.box)
 have zb:=Y2.out.blt;have HFIN:=Z9 (Y2.out.fin (Nat.le_refl _) (Nat.lt_succ_self _) (zhm (fun g=>w.heap.size+1≤g∧g<u2.heap.size) u2 1 t.rat ⟨#[]⟩ 0));clear hr Yl h0 c0;go_wp2_with fail;obtain⟨W',hW',hx,Zs,hr,hg⟩:=HFIN.out;rw[←hW'];obtain⟨c0,c1,c2,c3,c4⟩:=zae Zs;exact bodyPost_ret (v:=.agg #[.int .u8 1,.string t.rat,.string ⟨#[]⟩,.int .i64 0,.slice none 0 0]) (by simp[results,Tryz.results113,go_sem,c0,c1,c2,c3,c4]) rfl (⟨_,rfl,⟨_,none,0,0,rfl,hx⟩,hr,hg⟩)
theorem ztl{rb:Nat}(w:World)(t:Tk)(r:List Tk)(h:RAt rb w (t :: r))(h4:zar (t :: r)=[])(h5:tIs 5 [40] (t :: r)=false)(h6:¬t.kind=3) :
 Calls Tryz.prog 113 #[.pointer (some ⟨rb,0,none⟩)] w (zbk (VEx w.heap.size) rb w (tFix (t :: r))):=by
 have hfld:=zlu;have HHD:=Z9 (fun W (hW:RAt rb W (t :: r))=>zbs rb W (t :: r) hW);rw[zbu h4]at HHD;have HIS:=Z9 (fun W (hW:RAt rb W (t :: r))=>zjf rb 5 ⟨#[40]⟩ W (t :: r) hW);rw[show tIs 5 (ByteArray.mk #[40]).data.toList (t :: r)=false from h5]at HIS;have HR:=Z9 h;have ZH:=h.lt;have Zx:=Z9 (fun W (hW:RAt rb W (t :: r))=>zv7 rb W (t :: r) hW);have HMU:=Z9 (fun g2 s W l (hW:RAt rb W l) (hs:W.cell? ⟨g2,0,none⟩=some (.string s))=>zie rb g2 5 s W l hW hs);obtain⟨GR,ZK⟩:∃GR,GR=tFix (t :: r):=⟨_,rfl⟩
 rw[←ZK];have HGR:Hid (GR=(zgf (t :: r)).bind fun n l=>(tEat 5 [64] l).bind fun _ l=>if tIs 1 [110,111,119] l=true then .ok (.mk 3 tE0 n 0 []) l.tail else(tOf 4 l).bind fun t l=>.ok (.mk 2 tE0 n t.date []) l):=Z9 ZK;have HK:=Z9 h6;clear h h4 h5 h6 ZK;go_enter Tryz.func113,Tryz.ntmps113;go_wp2_with fail;have HF0:=Z9 (FAt.start HR.out);refine(HHD.out _ HF0.out.rd).mono ?_;rintro e u ⟨rfl,hb⟩;have HU:=Z9 (HF0.out.below hb);clear hb;go_wp2_with fail;refine(HIS.out _ HU.out.rd).mono ?_;rintro e u1 ⟨rfl,hb⟩;have HU1:=Z9 (HU.out.below hb);clear hb;obtain⟨g,o,cap,hb,hc,hm,Z1,hg,ZT,_⟩:=HU1.out.rd.head;have h0:=hb.cell
 obtain⟨c0,_,_,_,_⟩:=zeu Z1;have hl:(0:Int)<((r.length+1:Nat):Int):=by omega
 have hl0:0<r.length+1:=by omega
 obtain⟨n,hn⟩:∃n,n=r.length+1:=⟨_,rfl⟩
 rw[←hn]at h0 hl hl0 hc;have hn0:((n:Int) == 0)=false:=by simp;omega
 have d1:(t.kind == 3)=false:=by simp[HK.out]
 clear hb Z1 hn;go_wp2_with fail;refine(Zx.out _ HU1.out.rd).mono ?_
 cases hq:zgf (t :: r)with
 |no lq =>
  rintro e u3 ⟨rfl,hr,hg⟩;exact⟨rfl,zbm (l:=lq) (by rw[HGR.out,hq];rfl) ⟨rfl,hr,(HU1.out.call hg hr).grown⟩⟩
 |ok nm l1 =>
  rintro e u3 ⟨vv,rfl,rfl,hr,hg⟩;have HU3:=Z9 (HU1.out.call hg hr);obtain⟨yo,Vg⟩:∃yo:Obj,yo=.cells #[.int .u8 2,.string ⟨#[]⟩,.string nm,.int .i64 0,.slice none 0 0] 25:=⟨_,rfl⟩
  have HU4:=Z9 ((HU3.out.alloc yo).alloc (.cells #[.string ⟨#[64]⟩] 9));have HYB:=Z9 (zao (heap_alloc_new u3 yo) (World.grownBy_alloc (u3.alloc yo) (.cells #[.string ⟨#[64]⟩] 9) (some rb)) (Nat.ne_of_lt HU3.out.rd.lt))
  have HSC:Hid (((u3.alloc yo).alloc (.cells #[.string ⟨#[64]⟩] 9)).cell? ⟨u3.heap.size+1,0,none⟩=some (.string ⟨#[64]⟩)):=by
   have:=Boxed.cell (Boxed.new (u3.alloc yo) 9 (.string ⟨#[64]⟩));rw[World.size_alloc]at this;exact Z9 this
  rw[Vg]at HU4 HYB HSC;clear hr hg Vg;go_wp2_with fail;refine(HMU.out _ _ _ l1 HU4.out.rd HSC.out).mono ?_;change ∀e u',zbk z43 rb _ (tEat 5 [64] l1) e u'→_
  cases Zb:tEat 5 [64] l1 with
  |no lq =>
   rintro e u5 ⟨rfl,hr,hg⟩;exact⟨rfl,zbm (l:=lq) (by rw[HGR.out,hq];show(tEat 5 [64] l1).bind _=_;rw[Zb];rfl) ⟨rfl,hr,(HU4.out.call hg hr).grown⟩⟩
  |ok un l2 =>
   rintro e u5 ⟨v5,rfl,rfl,hr,hg⟩;have HU5:=Z9 (HU4.out.call hg hr);have HYB5:=Z9 (zao HYB.out hg (Nat.ne_of_lt HU3.out.rd.lt));have HG2:Hid (GR=if tIs 1 [110,111,119] l2=true then .ok (.mk 3 tE0 nm 0 []) l2.tail else(tOf 4 l2).bind fun t l=>.ok (.mk 2 tE0 nm t.date []) l):=Z9 (by rw[HGR.out,hq];show(tEat 5 [64] l1).bind _=_;rw[Zb];rfl);have HIN:=Z9 (zjf rb 1 ⟨#[110,111,119]⟩ u5 l2 HU5.out.rd);clear hr hg
   cases XV:tIs 1 [110,111,119] l2 with
   |true =>
    obtain⟨t2,r2,rfl⟩:=zb2 XV;rw[show tIs 1 (ByteArray.mk #[110,111,119]).data.toList (t2 :: r2)=true from XV]at HIN;rw[XV,if_pos rfl]at HG2;clear XV;go_wp2_with fail;refine HIN.out.mono ?_;rintro e u6 ⟨rfl,hb⟩;have HU6:=Z9 (HU5.out.below hb);have HYB6:=Z9 (zao HYB5.out (zan (rb:=rb) (zah hb)) (Nat.ne_of_lt HU3.out.rd.lt));clear hb;go_wp2_with fail;refine(zbl rb u6 t2 r2 HU6.out.rd).mono ?_;rintro e u7 ⟨v7,rfl,rfl,hr,hg⟩;have hyb:=zao HYB6.out hg (Nat.ne_of_lt HU3.out.rd.lt);have hyl:=(Z8 hyb);obtain⟨y0,y1,y2,y3,y4⟩:=zae hyb;have fy:∀i,u7.frozen? ⟨u3.heap.size,i,none⟩=false:=Lib.frozen_of_heap hyb
    have HU7:=Z9 (HU6.out.call hg hr);have ZT:w.heap.size≠u3.heap.size:=Nat.ne_of_lt HU3.out.blt;have HU8:=Z9 (HU7.out.setNew HU3.out.blt 0 (.int .u8 3) (Nat.le_of_lt HU3.out.blt));obtain⟨z0,z1,z2,z3,z4⟩:=zae (show u7.heap[w.heap.size]?=some (.cells #[.int .u8 0,.string ⟨#[]⟩,.string ⟨#[]⟩,.int .i64 0,.slice none 0 0] 25)from HU7.out.box)
    have fz:∀i,u7.frozen? ⟨w.heap.size,i,none⟩=false:=Lib.frozen_of_heap (show u7.heap[w.heap.size]?=some (.cells #[.int .u8 0,.string ⟨#[]⟩,.string ⟨#[]⟩,.int .i64 0,.slice none 0 0] 25)from HU7.out.box)
    have zb:=HU7.out.blt;have HFIN:=Z9 (HU8.out.fin (Nat.le_refl _) (Nat.lt_succ_self _) (zhm (fun g=>w.heap.size+1≤g∧g<(u7.setCell ⟨u3.heap.size,0,none⟩ (.int .u8 3)).heap.size) (u7.setCell ⟨u3.heap.size,0,none⟩ (.int .u8 3)) 3 ⟨#[]⟩ nm 0));clear hr hg hyb;go_wp2_with fail;obtain⟨W',hW',hx,Zs,hr,hg⟩:=HFIN.out;rw[←hW'];obtain⟨c0,c1,c2,c3,c4⟩:=zae Zs;exact bodyPost_ret (v:=.agg #[.int .u8 3,.string ⟨#[]⟩,.string nm,.int .i64 0,.slice none 0 0]) (by simp[results,Tryz.results113,go_sem,c0,c1,c2,c3,c4]) rfl (zcz (x:=.mk 3 tE0 nm 0 []) (l:=r2) HG2.out ⟨_,rfl,⟨_,none,0,0,rfl,hx⟩,hr,hg⟩)
   |false =>
    rw[show tIs 1 (ByteArray.mk #[110,111,119]).data.toList l2=false from XV]at HIN;rw[XV,if_neg (by decide)]at HG2;clear XV;go_wp2_with fail;refine HIN.out.mono ?_;rintro e u6 ⟨rfl,hb⟩;have HU6:=Z9 (HU5.out.below hb);have HYB6:=Z9 (zao HYB5.out (zan (rb:=rb) (zah hb)) (Nat.ne_of_lt HU3.out.rd.lt));clear hb;go_wp2_with fail;refine(z50 rb 4 u6 l2 HU6.out.rd).mono ?_
    cases hq4:tOf 4 l2 with
    |no lq =>
     rintro e u7 ⟨rfl,hr,hg⟩;exact⟨rfl,zbm (l:=lq) (by rw[HG2.out,hq4];rfl) ⟨rfl,hr,(HU6.out.call hg hr).grown⟩⟩
    |ok t2 r2 =>
     rintro e u7 ⟨v7,rfl,rfl,hr,hg⟩;have hyb:=zao HYB6.out hg (Nat.ne_of_lt HU3.out.rd.lt);have hyl:=(Z8 hyb);obtain⟨y0,y1,y2,y3,y4⟩:=zae hyb;have fy:∀i,u7.frozen? ⟨u3.heap.size,i,none⟩=false:=Lib.frozen_of_heap hyb
     have HU7:=Z9 (HU6.out.call hg hr);have ZT:w.heap.size≠u3.heap.size:=Nat.ne_of_lt HU3.out.blt;have HU8:=Z9 (HU7.out.setNew HU3.out.blt 3 (.int .i64 t2.date) (Nat.le_of_lt HU3.out.blt));obtain⟨z0,z1,z2,z3,z4⟩:=zae (show u7.heap[w.heap.size]?=some (.cells #[.int .u8 0,.string ⟨#[]⟩,.string ⟨#[]⟩,.int .i64 0,.slice none 0 0] 25)from HU7.out.box)
     have fz:∀i,u7.frozen? ⟨w.heap.size,i,none⟩=false:=Lib.frozen_of_heap (show u7.heap[w.heap.size]?=some (.cells #[.int .u8 0,.string ⟨#[]⟩,.string ⟨#[]⟩,.int .i64 0,.slice none 0 0] 25)from HU7.out.box)
     have zb:=HU7.out.blt;have HFIN:=Z9 (HU8.out.fin (Nat.le_refl _) (Nat.lt_succ_self _) (zhm (fun g=>w.heap.size+1≤g∧g<(u7.setCell ⟨u3.heap.size,3,none⟩ (.int .i64 t2.date)).heap.size) (u7.setCell ⟨u3.heap.size,3,none⟩ (.int .i64 t2.date)) 2 ⟨#[]⟩ nm t2.date));clear hr hg hyb;go_wp2_with fail;obtain⟨W',hW',hx,Zs,hr,hg⟩:=HFIN.out;rw[←hW'];obtain⟨c0,c1,c2,c3,c4⟩:=zae Zs;exact bodyPost_ret (v:=.agg #[.int .u8 2,.string ⟨#[]⟩,.string nm,.int .i64 t2.date,.slice none 0 0]) (by simp[results,Tryz.results113,go_sem,c0,c1,c2,c3,c4]) rfl (zcz (x:=.mk 2 tE0 nm t2.date []) (l:=r2) (by rw[HG2.out,hq4];rfl) ⟨_,rfl,⟨_,none,0,0,rfl,hx⟩,hr,hg⟩)
theorem zpw{rb:Nat}(w:World)(h:RAt rb w ([]:List Tk))(h4:zar ([]:List Tk)=[])(h5:tIs 5 [40] ([]:List Tk)=false) :
 Calls Tryz.prog 113 #[.pointer (some ⟨rb,0,none⟩)] w (zbk (VEx w.heap.size) rb w (tFix ([]:List Tk))):=by
 have hfld:=zlu;have HHD:=Z9 (fun W (hW:RAt rb W ([]:List Tk))=>zbs rb W ([]:List Tk) hW);rw[zbu h4]at HHD;have HIS:=Z9 (fun W (hW:RAt rb W ([]:List Tk))=>zjf rb 5 ⟨#[40]⟩ W ([]:List Tk) hW);rw[show tIs 5 (ByteArray.mk #[40]).data.toList ([]:List Tk)=false from h5]at HIS;have HR:=Z9 h;have ZH:=h.lt;have Zx:=Z9 (fun W (hW:RAt rb W ([]:List Tk))=>zv7 rb W ([]:List Tk) hW);have HMU:=Z9 (fun g2 s W l (hW:RAt rb W l) (hs:W.cell? ⟨g2,0,none⟩=some (.string s))=>zie rb g2 5 s W l hW hs);obtain⟨GR,ZK⟩:∃GR,GR=tFix ([]:List Tk):=⟨_,rfl⟩
 rw[←ZK];have HGR:Hid (GR=(zgf ([]:List Tk)).bind fun n l=>(tEat 5 [64] l).bind fun _ l=>if tIs 1 [110,111,119] l=true then .ok (.mk 3 tE0 n 0 []) l.tail else(tOf 4 l).bind fun t l=>.ok (.mk 2 tE0 n t.date []) l):=Z9 ZK;clear h h4 h5 ZK;go_enter Tryz.func113,Tryz.ntmps113;go_wp2_with fail;have HF0:=Z9 (FAt.start HR.out);refine(HHD.out _ HF0.out.rd).mono ?_;rintro e u ⟨rfl,hb⟩;have HU:=Z9 (HF0.out.below hb);clear hb;go_wp2_with fail;refine(HIS.out _ HU.out.rd).mono ?_;rintro e u1 ⟨rfl,hb⟩;have HU1:=Z9 (HU.out.below hb);clear hb;obtain⟨a,cap,hb⟩:=HU1.out.rd.nil;have h0:=hb.cell;clear hb;go_wp2_with fail
 refine(Zx.out _ HU1.out.rd).mono ?_;rintro e u3 ⟨rfl,hr,hg⟩;exact⟨rfl,zbm (l:=[]) (by rw[HGR.out];rfl) ⟨rfl,hr,(HU1.out.call hg hr).grown⟩⟩
theorem ztm{rb n0:Nat}(S T:RdX)(hp:zhq rb n0 S T)(cS:∀l,(S l).Cons l)(cT:∀l,(T l).Cons l)(w:World)(l:List Tk)(h:RAt rb w l)(hl:l.length≤n0) :
 Calls Tryz.prog 113 #[.pointer (some ⟨rb,0,none⟩)] w (zbk (VEx w.heap.size) rb w (zbv S T l)):=by
 unfold zbv
 by_cases h1:zar l=[109,97,120]
 ·rw[if_pos h1];exact ztk S T hp cS cT w l h hl h1
 rw[if_neg h1]
 by_cases h2:zar l=[109,105,110]
 ·rw[if_pos h2];exact ztj S T hp cS cT w l h hl h2
 rw[if_neg h2]
 by_cases h3:zar l=[99,97,115,101]
 ·rw[if_pos h3];exact zpx S T hp cS cT w l h hl h3
 rw[if_neg h3]
 by_cases h4:zar l=[]
 ·rw[if_pos h4]
  unfold ziv
  cases h5:tIs 5 [40] l with
  |true=>rw[if_pos rfl];exact zno S T hp w l h hl h4 h5
  |false =>
   rw[if_neg (by decide)]
   cases l with
   |nil=>exact zpw w h h4 h5
   |cons t r =>
    show Calls _ _ _ w (zbk _ rb w (if t.kind=3 then .ok (.mk 1 t.rat tE0 0 []) r else tFix (t :: r)))
    by_cases h6:t.kind=3
    ·rw[if_pos h6];exact zti w t r h h4 h5 h6
    ·rw[if_neg h6];exact ztl w t r h h4 h5 h6
 ·rw[if_neg h4];exact zpv w l h h1 h2 h3 h4
def Rg(B bx:Nat)(u:World)(g:Nat):Prop:=B+2≤g∧g<u.heap.size∧g≠bx
theorem zrk{S:Nat→Prop}{n:Nat}{w:World}{g:Nat}(k:Int){a b:Ex}{a0 a1 a2 a3 a4 b0 b1 b2 b3 b4:Value}(hS:S g)(hg:w.heap[g]?=some (.cells #[a0,a1,a2,a3,a4,b0,b1,b2,b3,b4] 25))(ha:ExOn S n w [a0,a1,a2,a3,a4] a)(hb:ExOn S n w [b0,b1,b2,b3,b4] b) :
 ExOn S (n+1) w [.int .u8 k,.string ⟨#[]⟩,.string ⟨#[]⟩,.int .i64 0,.slice (some ⟨g,0,none⟩) 2 2] (tEx2 k a b):=by
 refine⟨_,2,2,rfl,rfl,.inr ⟨g,rfl,hS,fun i hi => ?_⟩⟩
 have hc:∀j,w.cell? ⟨g,j,none⟩=(#[a0,a1,a2,a3,a4,b0,b1,b2,b3,b4]:Array Value)[j]?:=fun j=>by simp[World.cell?,hg]
 match i,hi with
 |0,_ =>
  refine⟨_,fun j hj => ?_,ha⟩;rw[hc]
  match j,hj with
  |0,_=>rfl
  |1,_=>rfl
  |2,_=>rfl
  |3,_=>rfl
  |4,_=>rfl
 |1,_ =>
  refine⟨_,fun j hj => ?_,hb⟩;rw[hc]
  match j,hj with
  |0,_=>rfl
  |1,_=>rfl
  |2,_=>rfl
  |3,_=>rfl
  |4,_=>rfl
theorem box2{rb B bx m m2:Nat}{w u:World}{l:List Tk}{x y:Ex}{z0 z1 z2 z3 z4 x0 x1 x2 x3 x4 y0 y1 y2 y3 y4:Value}(k:Int)(h:FAt rb B w u l)(hB:w.heap.size≤B)(ZL:B<bx)(xb:u.heap[bx]?=some (.cells #[z0,z1,z2,z3,z4] 25))
 (hx:ExOn (Rg B bx u) m u [x0,x1,x2,x3,x4] x) (hy:ExOn (Rg B bx u) m2 u [y0,y1,y2,y3,y4] y) :
 ∃W',W'=(((((u.setCell ⟨bx,0,none⟩ (.int .u8 k)).setCell ⟨bx,1,none⟩ (.string ⟨#[]⟩)).setCell ⟨bx,2,none⟩ (.string ⟨#[]⟩)).setCell ⟨bx,3,none⟩ (.int .i64 0)).setCell ⟨bx,4,none⟩ (.slice (some ⟨u.heap.size,0,none⟩) 2 2)).alloc (.cells #[x0,x1,x2,x3,x4,y0,y1,y2,y3,y4] 25) ∧
  FAt rb B w W' l∧W'.heap[bx]?=some (.cells #[.int .u8 k,.string ⟨#[]⟩,.string ⟨#[]⟩,.int .i64 0,.slice (some ⟨u.heap.size,0,none⟩) 2 2] 25) ∧
  ExOn (Rg B bx W') (max m m2+1) W' [.int .u8 k,.string ⟨#[]⟩,.string ⟨#[]⟩,.int .i64 0,.slice (some ⟨u.heap.size,0,none⟩) 2 2] (tEx2 k x y) ∧
  (∀n cs z,ExOn (Rg B bx u) n u cs z→ExOn (Rg B bx W') n W' cs z)∧(∀c,c≠bx→c<u.heap.size→W'.heap[c]?=u.heap[c]?)∧u.heap.size<W'.heap.size:=by
 have Zu:=(Z8 xb);have Zw:=za2 xb (.int .u8 k) (.string ⟨#[]⟩) (.string ⟨#[]⟩) (.int .i64 0) (.slice (some ⟨u.heap.size,0,none⟩) 2 2);obtain⟨u1,WF⟩:∃u1,u1=((((u.setCell ⟨bx,0,none⟩ (.int .u8 k)).setCell ⟨bx,1,none⟩ (.string ⟨#[]⟩)).setCell ⟨bx,2,none⟩ (.string ⟨#[]⟩)).setCell ⟨bx,3,none⟩ (.int .i64 0)).setCell ⟨bx,4,none⟩ (.slice (some ⟨u.heap.size,0,none⟩) 2 2):=⟨_,rfl⟩
 have Y9:u1.heap.size=u.heap.size:=by rw[WF];simp[World.setCell]
 have hF1:FAt rb B w u1 l:=by
  rw[WF];have hw:w.heap.size≤bx:=by omega
  exact((((h.setNew ZL _ _ hw).setNew ZL _ _ hw).setNew ZL _ _ hw).setNew ZL _ _ hw).setNew ZL _ _ hw
 have hkeep:∀c,c≠bx→u1.heap[c]?=u.heap[c]?:=fun c hc=>by
  rw[WF,Below.heap_setCell _ _ _ _ (by show c≠bx;exact hc),Below.heap_setCell _ _ _ _ (by show c≠bx;exact hc),Below.heap_setCell _ _ _ _ (by show c≠bx;exact hc),Below.heap_setCell _ _ _ _ (by show c≠bx;exact hc),Below.heap_setCell _ _ _ _ (by show c≠bx;exact hc)]
 rw[←WF]at Zw;rw[←WF];obtain⟨W',hW'⟩:∃W',W'=u1.alloc (.cells #[x0,x1,x2,x3,x4,y0,y1,y2,y3,y4] 25):=⟨_,rfl⟩
 have Zo:W'.heap.size=u.heap.size+1:=by rw[hW',World.size_alloc,Y9]
 have YX:∀c,c≠bx→c<u.heap.size→W'.heap[c]?=u.heap[c]?:=fun c hc hl=>by rw[hW',←hkeep c hc];exact Below.heap_alloc u1 _ _ (by rw[Y9];exact hl)
 have hkx:∀n cs z,ExOn (Rg B bx u) n u cs z→ExOn (Rg B bx W') n W' cs z:=fun n cs z hz =>
  (hz.keep (w':=W') fun g ⟨_,g2,g3⟩=>YX g g3 g2).mono fun g ⟨g1,g2,g3⟩=>⟨g1,by omega,g3⟩
 have YD:W'.heap[u.heap.size]?=some (.cells #[x0,x1,x2,x3,x4,y0,y1,y2,y3,y4] 25):=by
  have:=heap_alloc_new u1 (.cells #[x0,x1,x2,x3,x4,y0,y1,y2,y3,y4] 25);rw[Y9,←hW']at this;exact this
 refine⟨W',hW',?_,?_,?_,hkx,YX,by omega⟩
 ·rw[hW'];exact hF1.alloc _
 ·rw[hW'];exact(Below.heap_alloc u1 _ _ (by rw[Y9];exact Zu)).trans Zw
 ·exact zrk k ⟨by omega,by omega,by omega⟩ YD ((hkx _ _ _ hx).up (by omega)) ((hkx _ _ _ hy).up (by omega))
theorem box1{rb B bx m:Nat}{w u:World}{l:List Tk}{x:Ex}{z0 z1 z2 z3 z4 x0 x1 x2 x3 x4:Value}(h:FAt rb B w u l)(hB:w.heap.size≤B)(ZL:B<bx)(xb:u.heap[bx]?=some (.cells #[z0,z1,z2,z3,z4] 25))
 (hx:ExOn (Rg B bx u) m u [x0,x1,x2,x3,x4] x) :
 ∃W',W'=((((u.setCell ⟨bx,0,none⟩ x0).setCell ⟨bx,1,none⟩ x1).setCell ⟨bx,2,none⟩ x2).setCell ⟨bx,3,none⟩ x3).setCell ⟨bx,4,none⟩ x4 ∧
  FAt rb B w W' l∧W'.heap[bx]?=some (.cells #[x0,x1,x2,x3,x4] 25)∧ExOn (Rg B bx W') m W' [x0,x1,x2,x3,x4] x∧W'.heap.size=u.heap.size:=by
 have Zw:=za2 xb x0 x1 x2 x3 x4;obtain⟨W',hW'⟩:∃W',W'=((((u.setCell ⟨bx,0,none⟩ x0).setCell ⟨bx,1,none⟩ x1).setCell ⟨bx,2,none⟩ x2).setCell ⟨bx,3,none⟩ x3).setCell ⟨bx,4,none⟩ x4:=⟨_,rfl⟩
 rw[←hW']at Zw
 have hkeep:∀c,c≠bx→W'.heap[c]?=u.heap[c]?:=fun c hc=>by
  rw[hW',Below.heap_setCell _ _ _ _ (by show c≠bx;exact hc),Below.heap_setCell _ _ _ _ (by show c≠bx;exact hc),Below.heap_setCell _ _ _ _ (by show c≠bx;exact hc),Below.heap_setCell _ _ _ _ (by show c≠bx;exact hc),Below.heap_setCell _ _ _ _ (by show c≠bx;exact hc)]
 have Zo:W'.heap.size=u.heap.size:=by rw[hW'];simp[World.setCell]
 refine⟨W',hW',?_,Zw,?_,Zo⟩
 ·rw[hW']
  have hw:w.heap.size≤bx:=by omega
  exact((((h.setNew ZL _ _ hw).setNew ZL _ _ hw).setNew ZL _ _ hw).setNew ZL _ _ hw).setNew ZL _ _ hw
 ·exact(hx.keep (w':=W') fun g ⟨_,_,g3⟩=>hkeep g g3).mono fun g ⟨g1,g2,g3⟩=>⟨g1,by omega,g3⟩
theorem zbg{B bx n rb:Nat}{u u':World}{cs:List Value}{x:Ex}(hx:ExOn (Rg B bx u) n u cs x)(hg:u.grownBy u' (some rb))(Zi:rb<B):ExOn (Rg B bx u') n u' cs x :=
 (hx.keep (w':=u') fun g ⟨g1,g2,_⟩=>hg.block g g2 (fun e=>by injection e with e;omega)).mono fun g ⟨g1,g2,g3⟩=>⟨g1,Nat.lt_of_lt_of_le g2 hg.size,g3⟩
theorem z5i{B bx n lo:Nat}{u:World}{cs:List Value}{x:Ex}(hx:ExOn (fun g=>lo≤g∧g<u.heap.size) n u cs x)(h1:B+2≤lo)(h2:bx<lo∨u.heap.size≤bx):ExOn (Rg B bx u) n u cs x :=
 hx.mono fun g ⟨g1,g2⟩=>⟨by omega,g2,by omega⟩
theorem zo4{B bx by' n:Nat}{u:World}{cs:List Value}{x:Ex}(hx:ExOn (Rg B bx u) n u cs x)(h:by'<B+2):ExOn (Rg B by' u) n u cs x:=hx.mono fun g ⟨g1,g2,_⟩=>⟨g1,g2,by omega⟩
theorem zuh{rb B bx:Nat}{w u u5:World}{l:List Tk}{x y tx:Ex}{s:Int}{z0 z1 z2 z3 z4 x0 x1 x2 x3 x4 y0 y1 y2 y3 y4 t0 t1 t2 t3 t4:Value}(ZZ:B+2≤bx)(h:FAt rb B w u5 l)(hB:B=w.heap.size)
 (xb:u5.heap[bx]?=some (.cells #[z0,z1,z2,z3,z4] 25)) (tb:u5.heap[B+1]?=some (.cells #[t0,t1,t2,t3,t4] 25)) (Zz:s=0∨∃m,ExOn (Rg B bx u) m u [t0,t1,t2,t3,t4] tx)
 (hx:∃m,ExOn (Rg B bx u) m u [x0,x1,x2,x3,x4] x) (hg:u.grownBy u5 (some rb)) (hy:∃m,ExOn (fun g=>u.drew.heap.size≤g∧g<u5.heap.size) m u5 [y0,y1,y2,y3,y4] y) (Zu:bx<u.heap.size) :
 ∃W',W'=(((((u5.setCell ⟨bx,0,none⟩ (.int .u8 6)).setCell ⟨bx,1,none⟩ (.string ⟨#[]⟩)).setCell ⟨bx,2,none⟩ (.string ⟨#[]⟩)).setCell ⟨bx,3,none⟩ (.int .i64 0)).setCell ⟨bx,4,none⟩ (.slice (some ⟨u5.heap.size,0,none⟩) 2 2)).alloc (.cells #[x0,x1,x2,x3,x4,y0,y1,y2,y3,y4] 25) ∧
  FAt rb B w W' l∧W'.heap[B+1]?=some (.cells #[t0,t1,t2,t3,t4] 25)∧(s=0∨∃m,ExOn (Rg B bx W') m W' [t0,t1,t2,t3,t4] tx) ∧
  W'.heap[bx]?=some (.cells #[.int .u8 6,.string ⟨#[]⟩,.string ⟨#[]⟩,.int .i64 0,.slice (some ⟨u5.heap.size,0,none⟩) 2 2] 25) ∧
  (∃m,ExOn (Rg B bx W') m W' [.int .u8 6,.string ⟨#[]⟩,.string ⟨#[]⟩,.int .i64 0,.slice (some ⟨u5.heap.size,0,none⟩) 2 2] (tEx2 6 x y)):=by
 obtain⟨m,hx⟩:=hx;obtain⟨m2,hy⟩:=hy;have Zi:=h.lt;have Zo:u.drew.heap.size=u.heap.size:=rfl;have htl:=(Z8 tb);have Uy:=hg.size;have VA:B+2≤u.heap.size:=by omega
 obtain⟨W',hW',ha,hb,hc,hd,he,_⟩:=box2 (bx:=bx) 6 h (by omega) (by omega) xb (zbg hx hg Zi) (z5i hy (by rw[Zo];omega) (by rw[Zo];omega));exact⟨W',hW',ha,(he _ (by omega) htl).trans tb,Zz.imp id fun⟨m3,h3⟩=>⟨m3,hd _ _ _ (zbg h3 hg Zi)⟩,hb,⟨_,hc⟩⟩
theorem zq0{n rb:Nat}{v0 v1 v2 v3 v4:Value}{x:Ex}{sa:Option Addr}{sl sc:Nat}{w W:World}{l:List Tk}(hs:[v0,v1,v2,v3,v4]=[.int .u8 x.kind,.string x.rat,.string x.name,.int .i64 x.date,.slice sa sl sc])
 (hx:ExOn (fun g=>w.heap.size≤g∧g<W.heap.size) n W [v0,v1,v2,v3,v4] x) (hr:RAt rb W l) (hg:w.grownBy W (some rb)) :
 ∃v,Ending.returned (.agg #[v0,v1,v2,v3,v4])=.returned v∧VEx w.heap.size x W v∧RAt rb W l∧w.grownBy W (some rb):=by
 injection hs with h0 hs;injection hs with h1 hs;injection hs with h2 hs;injection hs with h3 hs;injection hs with h4 _
 subst h0 h1 h2 h3 h4;exact⟨_,rfl,⟨n,sa,sl,sc,rfl,hx⟩,hr,hg⟩
def comb(s:Int)(t x:Ex):Ex:=if s=0 then x else tEx2 s t x
end Go.Proofs.YtkobkpepgdddeaaGreatDoor
