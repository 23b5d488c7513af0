/-
  The reader's contract walked (call). No condition.
-/
import Derived.Test.YtkobkpepgdddeaaGreatDoorYaj
import Derived.Defers
import Derived.Recover
import Derived.RangeFuncNested
import Derived.Test.YtkobkpepgdddeaaGreatDoorYag
import Derived.Test.YtkobkpepgdddeaaGreatDoorYab
import Derived.Test.YtkobkpepgdddeaaGreatDoorYad
import Derived.Deep.RegionHeld3
import Derived.Test.YtkobkpepgdddeaaGreatDoorYaa
import Derived.BigQuiet
namespace Go.Proofs.YtkobkpepgdddeaaGreatDoor
open Go.RowKit
set_option maxHeartbeats 16000000
set_option maxRecDepth 100000
theorem z5e{rb n0:Nat}(S T:RdX)(C:RdC)(N:Nat)(hp:zd9 rb (n0+1) S T)(cS:∀l,(S l).Cons l)(cT:∀l,(T l).Cons l)(hC:ConC rb n0 C)(cC:∀l,(C l).Cons l)(w:World)(l:List Tk)(h:RAt rb w l)(hl:l.length≤n0)(hN:l.length≤N)(YQ:N≤100000)(hh:zap l=[99,97,108,108]) :
 Calls Tryz.prog 78 #[.pointer (some ⟨rb,0,none⟩)] w (zaf (VCt w.heap.size) rb w (ziy C N l.tail)):=by
 have hfld:=zco;have HHD:=Z9 (fun W (hW:RAt rb W l)=>za1 rb W l hW);rw[za0 hh]at HHD;have Zd:=Z9 (fun W l (hW:RAt rb W l)=>zd3 rb W l hW);have HOF:=Z9 (fun W l (hW:RAt rb W l)=>zf6 rb 4 W l hW);have HMU5:=Z9 (fun g2 s W l (hW:RAt rb W l) (hs:W.cell? ⟨g2,0,none⟩=some (.string s))=>za8 rb g2 5 s W l hW hs);have HMU1:=Z9 (fun g2 s W l (hW:RAt rb W l) (hs:W.cell? ⟨g2,0,none⟩=some (.string s))=>za8 rb g2 1 s W l hW hs);have HSM:Hid (∀W l,RAt rb W l→l.length<n0+1→Calls Tryz.prog 64 #[.pointer (some ⟨rb,0,none⟩)] W (zaf (VEx W.heap.size) rb W (S l))):=Z9 (fun W l hW hl=>hp true W l hW hl);have ZF:Hid (∀W l,RAt rb W l→l.length<n0+1→Calls Tryz.prog 63 #[.pointer (some ⟨rb,0,none⟩)] W (zaf (VEx W.heap.size) rb W (T l))):=Z9 (fun W l hW hl=>hp false W l hW hl)
 have HIN:Hid (∀W l,RAt rb W l→l.length≤n0→Calls Tryz.prog 135 #[.pointer (some ⟨rb,0,none⟩)] W (zaf (VCt W.heap.size) rb W (zbh C l))):=Z9 (fun W l hW hl=>zcj C hC W l hW hl);have HTW:Hid (∀W l,RAt rb W l→l.length≤n0→Calls Tryz.prog 136 #[.pointer (some ⟨rb,0,none⟩)] W (zaf (VSub W.heap.size) rb W (tTwo C l))):=Z9 (fun W l hW hl=>ze3 C hC cC W l hW hl);have HDS:Hid (∀W l,RAt rb W l→l.length≤N→Calls Tryz.prog 134 #[.pointer (some ⟨rb,0,none⟩)] W (zaf (VDs W.heap.size) rb W (zb9 N l))):=Z9 (fun W l hW hl=>zcu N W l hW hl YQ);have HCC:=Z9 hC;have HCNS:=Z9 (And.intro cS cT);have Z1:=h.lt;have HK0:=Z9 (KAt.start h #[.int .u8 0,.string ⟨#[]⟩,.string ⟨#[]⟩,.string ⟨#[]⟩,.int .u8 0,.string ⟨#[]⟩,.string ⟨#[]⟩,.int .i64 0,.slice none 0 0,.int .i64 0,.slice none 0 0,.slice none 0 0])
 obtain⟨GR,ZX⟩:∃GR:Rd Ct,GR=ziy C N l.tail:=⟨_,rfl⟩
 rw[←ZX];have HGR:=Z9 ZX;obtain⟨t,r,rfl⟩:=zav (l:=l) (by rw[hh];simp);have X9:r.length<n0:=by rw[List.length_cons]at hl;omega
 have hN1:r.length<N:=by rw[List.length_cons]at hN;omega
 have HGR:Hid (GR=ziy C N r):=HGR;clear h ZX hC hp hh hl hN;have Yg:=@run_makeMap Tryz.prog;go_enter Tryz.func78,Tryz.ntmps78;go_wp2_with fail;refine(HHD.out _ HK0.out.rd).mono ?_;rintro e u ⟨rfl,hb⟩;have HKA:=Z9 (HK0.out.below hb);clear hb;obtain⟨i0,i1,i2,i3,i4,i5,i6,i7,i8⟩:=ze4 u;have L0:(Instr.lookup 138 (.map (some u.heap.size)) (.string ⟨#[99,97,108,108]⟩) false).run Tryz.prog (u.alloc (.map tcEs 9))=.ok (.int .u8 8) (u.alloc (.map tcEs 9)):=zas (i:=6) (heap_alloc_new _ _) rfl;have HK1:Hid (KAt rb w.heap.size w ((u.setCell ⟨w.heap.size,0,none⟩ (.int .u8 8)).alloc (.map tcEs 9)) (t :: r) #[.int .u8 8,.string ⟨#[]⟩,.string ⟨#[]⟩,.string ⟨#[]⟩,.int .u8 0,.string ⟨#[]⟩,.string ⟨#[]⟩,.int .i64 0,.slice none 0 0,.int .i64 0,.slice none 0 0,.slice none 0 0]):=Z9 ((HKA.out.put 0 (.int .u8 8)).alloc _)
 obtain⟨z0,z1,z2,z3,z4,z5,z6,z7,z8,z9,za,zb'⟩:=ccs HKA.out.box;have fz:∀i,u.frozen? ⟨w.heap.size,i,none⟩=false:=HKA.out.frozen
 have zb:=HKA.out.blt;go_wp2_with fail;refine(zaz rb _ t r HK1.out.rd).mono ?_;rintro e u2 ⟨v2,rfl,rfl,hr,hg⟩;have HK2:=Z9 (HK1.out.call hg hr);clear hr hg i0 i1 i2 i3 i4 i5 i6 i7 i8 L0 z0 z1 z2 z3 z4 z5 z6 z7 z8 z9 za zb' fz zb;obtain⟨y0,y1,y2,y3,y4,y5,y6,y7,y8,y9,ya,yb⟩:=ccs HK2.out.box;have fz:∀i,u2.frozen? ⟨w.heap.size,i,none⟩=false:=HK2.out.frozen
 have zb:=HK2.out.blt;have HE4:Hid (KAt rb w.heap.size w u2 r #[.int .u8 8,.string ⟨#[]⟩,.string ⟨#[]⟩,.string ⟨#[]⟩,.int .u8 0,.string ⟨#[]⟩,.string ⟨#[]⟩,.int .i64 0,.slice none 0 0,.int .i64 0,.slice none 0 0,.slice none 0 0]):=Z9 HK2.out;have HV4:Hid (Kp w.heap.size u2 u2):=Z9 (Kp.refl w.heap.size u2);go_wp2_with fail;clear y0 y1 y2 y3 y4 y5 y6 y7 y8 y9 ya yb fz zb;refine(Zd.out _ r HE4.out.rd).mono ?_
 cases ZP:zdc r with
 |no lq =>
  rintro e u ⟨rfl,hr,hg⟩;exact⟨rfl,zal (l:=lq) (by rw[HGR.out];simp only[ziy,tBy,ZP,Rd.bind_no]) ⟨rfl,hr,(HE4.out.call hg hr).grown⟩⟩
 |ok r3 l3 =>
  rintro e u3 ⟨v3,rfl,rfl,hr,hg⟩;have HK3:=Z9 (HE4.out.call hg hr);have HQ3:=Z9 ZP;have HLB3:=Z9 (Nat.lt_of_lt_of_le HE4.out.blt (Nat.le_refl _));have XR:=(zbp r).lt ZP;clear hr hg ZP;obtain⟨y0,y1,y2,y3,y4,y5,y6,y7,y8,y9,ya,yb⟩:=ccs HK3.out.box;have fz:∀i,u3.frozen? ⟨w.heap.size,i,none⟩=false:=HK3.out.frozen
  have zb:=HK3.out.blt;have HE6:Hid (KAt rb w.heap.size w (u3.setCell ⟨w.heap.size,3,none⟩ (.string r3)) l3 #[.int .u8 8,.string ⟨#[]⟩,.string ⟨#[]⟩,.string r3,.int .u8 0,.string ⟨#[]⟩,.string ⟨#[]⟩,.int .i64 0,.slice none 0 0,.int .i64 0,.slice none 0 0,.slice none 0 0]):=Z9 (HK3.out.put 3 (.string r3));have HV6:Hid (Kp w.heap.size u3 (u3.setCell ⟨w.heap.size,3,none⟩ (.string r3))):=Z9 ((Kp.refl w.heap.size u3).trans (Kp.put w.heap.size _ 3 (.string r3)))
  have HS5:Hid (((u3.setCell ⟨w.heap.size,3,none⟩ (.string r3)).alloc (.cells #[.string ⟨#[98,121]⟩] 9)).cell? ⟨u3.heap.size,0,none⟩=some (.string ⟨#[98,121]⟩)):=Z9 (by
   have:=zfc (u:=(u3.setCell ⟨w.heap.size,3,none⟩ (.string r3))) (s:=⟨#[98,121]⟩)
   simpa only [World.size_alloc,World.size_setCell]using this)
  go_wp2_with fail;clear y0 y1 y2 y3 y4 y5 y6 y7 y8 y9 ya yb fz zb;refine(HMU1.out _ _ _ l3 (HE6.out.alloc (.cells #[.string ⟨#[98,121]⟩] 9)).rd HS5.out).mono ?_;change ∀e u',zaf zhh rb _ (tEat 1 [98,121] l3) e u'→_
  cases Zl:tEat 1 [98,121] l3 with
  |no lq =>
   rintro e u ⟨rfl,hr,hg⟩;exact⟨rfl,zal (l:=lq) (by rw[HGR.out];simp only[ziy,tBy,HQ3.out,Zl,Rd.bind_ok,Rd.bind_no]) ⟨rfl,hr,((HE6.out.alloc (.cells #[.string ⟨#[98,121]⟩] 9)).call hg hr).grown⟩⟩
  |ok r5 l5 =>
   rintro e u5 ⟨v5,rfl,rfl,hr,hg⟩;have HK5:=Z9 ((HE6.out.alloc (.cells #[.string ⟨#[98,121]⟩] 9)).call hg hr);have HQ5:=Z9 Zl;have HLB5:=Z9 (Nat.lt_of_lt_of_le (HE6.out.alloc (.cells #[.string ⟨#[98,121]⟩] 9)).blt (Nat.le_refl _));have hl5:=(zar 1 [98,121] l3).lt Zl;clear hr hg Zl;obtain⟨y0,y1,y2,y3,y4,y5,y6,y7,y8,y9,ya,yb⟩:=ccs HK5.out.box;have fz:∀i,u5.frozen? ⟨w.heap.size,i,none⟩=false:=HK5.out.frozen
   have zb:=HK5.out.blt;have HE8:Hid (KAt rb w.heap.size w u5 l5 #[.int .u8 8,.string ⟨#[]⟩,.string ⟨#[]⟩,.string r3,.int .u8 0,.string ⟨#[]⟩,.string ⟨#[]⟩,.int .i64 0,.slice none 0 0,.int .i64 0,.slice none 0 0,.slice none 0 0]):=Z9 HK5.out;have HV8:Hid (Kp w.heap.size u5 u5):=Z9 (Kp.refl w.heap.size u5);go_wp2_with fail;clear y0 y1 y2 y3 y4 y5 y6 y7 y8 y9 ya yb fz zb;refine(Zd.out _ l5 HE8.out.rd).mono ?_
   cases YH:zdc l5 with
   |no lq =>
    rintro e u ⟨rfl,hr,hg⟩;exact⟨rfl,zal (l:=lq) (by rw[HGR.out];simp only[ziy,tBy,HQ3.out,HQ5.out,YH,Rd.bind_ok,Rd.bind_no]) ⟨rfl,hr,(HE8.out.call hg hr).grown⟩⟩
   |ok r7 l7 =>
    rintro e u7 ⟨v7,rfl,rfl,hr,hg⟩;have HK7:=Z9 (HE8.out.call hg hr);have HQ7:=Z9 YH;have HLB7:=Z9 (Nat.lt_of_lt_of_le HE8.out.blt (Nat.le_refl _));have hl7:=(zbp l5).lt YH;clear hr hg YH;obtain⟨y0,y1,y2,y3,y4,y5,y6,y7,y8,y9,ya,yb⟩:=ccs HK7.out.box;have fz:∀i,u7.frozen? ⟨w.heap.size,i,none⟩=false:=HK7.out.frozen
    have zb:=HK7.out.blt;have HE10:Hid (KAt rb w.heap.size w (u7.setCell ⟨w.heap.size,1,none⟩ (.string r7)) l7 #[.int .u8 8,.string r7,.string ⟨#[]⟩,.string r3,.int .u8 0,.string ⟨#[]⟩,.string ⟨#[]⟩,.int .i64 0,.slice none 0 0,.int .i64 0,.slice none 0 0,.slice none 0 0]):=Z9 (HK7.out.put 1 (.string r7));have HV10:Hid (Kp w.heap.size u7 (u7.setCell ⟨w.heap.size,1,none⟩ (.string r7))):=Z9 ((Kp.refl w.heap.size u7).trans (Kp.put w.heap.size _ 1 (.string r7)))
    have HS9:Hid (((u7.setCell ⟨w.heap.size,1,none⟩ (.string r7)).alloc (.cells #[.string ⟨#[111,110]⟩] 9)).cell? ⟨u7.heap.size,0,none⟩=some (.string ⟨#[111,110]⟩)):=Z9 (by
     have:=zfc (u:=(u7.setCell ⟨w.heap.size,1,none⟩ (.string r7))) (s:=⟨#[111,110]⟩)
     simpa only [World.size_alloc,World.size_setCell]using this)
    go_wp2_with fail;clear y0 y1 y2 y3 y4 y5 y6 y7 y8 y9 ya yb fz zb;refine(HMU1.out _ _ _ l7 (HE10.out.alloc (.cells #[.string ⟨#[111,110]⟩] 9)).rd HS9.out).mono ?_;change ∀e u',zaf zhh rb _ (tEat 1 [111,110] l7) e u'→_
    cases YS:tEat 1 [111,110] l7 with
    |no lq =>
     rintro e u ⟨rfl,hr,hg⟩;exact⟨rfl,zal (l:=lq) (by rw[HGR.out];simp only[ziy,tBy,zb0,HQ3.out,HQ5.out,HQ7.out,YS,Rd.bind_ok,Rd.bind_no]) ⟨rfl,hr,((HE10.out.alloc (.cells #[.string ⟨#[111,110]⟩] 9)).call hg hr).grown⟩⟩
    |ok r9 l9 =>
     rintro e u9 ⟨v9,rfl,rfl,hr,hg⟩;have HK9:=Z9 ((HE10.out.alloc (.cells #[.string ⟨#[111,110]⟩] 9)).call hg hr);have HQ9:=Z9 YS;have HLB9:=Z9 (Nat.lt_of_lt_of_le (HE10.out.alloc (.cells #[.string ⟨#[111,110]⟩] 9)).blt (Nat.le_refl _));have US:=(zar 1 [111,110] l7).lt YS;clear hr hg YS;obtain⟨y0,y1,y2,y3,y4,y5,y6,y7,y8,y9,ya,yb⟩:=ccs HK9.out.box;have fz:∀i,u9.frozen? ⟨w.heap.size,i,none⟩=false:=HK9.out.frozen
     have zb:=HK9.out.blt;have HE12:Hid (KAt rb w.heap.size w u9 l9 #[.int .u8 8,.string r7,.string ⟨#[]⟩,.string r3,.int .u8 0,.string ⟨#[]⟩,.string ⟨#[]⟩,.int .i64 0,.slice none 0 0,.int .i64 0,.slice none 0 0,.slice none 0 0]):=Z9 HK9.out;have HV12:Hid (Kp w.heap.size u9 u9):=Z9 (Kp.refl w.heap.size u9);go_wp2_with fail;clear y0 y1 y2 y3 y4 y5 y6 y7 y8 y9 ya yb fz zb;refine(HDS.out _ l9 HE12.out.rd (by omega)).mono ?_
     cases XV:zb9 N l9 with
     |no lq =>
      rintro e u ⟨rfl,hr,hg⟩;exact⟨rfl,zal (l:=lq) (by rw[HGR.out];simp only[ziy,tBy,zb0,HQ3.out,HQ5.out,HQ7.out,HQ9.out,XV,Rd.bind_ok,Rd.bind_no]) ⟨rfl,hr,(HE12.out.call hg hr).grown⟩⟩
     |ok r11 l11 =>
      rintro e u11 ⟨v11,rfl,⟨da11,dc11,rfl,hx⟩,hr,hg⟩;have HK11:=Z9 (HE12.out.call hg hr);have HQ11:=Z9 XV;have HLB11:=Z9 (Nat.lt_of_lt_of_le HE12.out.blt (Nat.le_refl _));have hl11:=(zef N l9).lt XV;have HXD11:=Z9 hx;have HPD11:=Z9 (Kp.refl w.heap.size u11);clear hr hg hx XV;obtain⟨y0,y1,y2,y3,y4,y5,y6,y7,y8,y9,ya,yb⟩:=ccs HK11.out.box;have fz:∀i,u11.frozen? ⟨w.heap.size,i,none⟩=false:=HK11.out.frozen
      have zb:=HK11.out.blt;have HE14:Hid (KAt rb w.heap.size w (u11.setCell ⟨w.heap.size,10,none⟩ (.slice da11 r11.length dc11)) l11 #[.int .u8 8,.string r7,.string ⟨#[]⟩,.string r3,.int .u8 0,.string ⟨#[]⟩,.string ⟨#[]⟩,.int .i64 0,.slice none 0 0,.int .i64 0,.slice da11 r11.length dc11,.slice none 0 0]):=Z9 (HK11.out.put 10 (.slice da11 r11.length dc11));have HV14:Hid (Kp w.heap.size u11 (u11.setCell ⟨w.heap.size,10,none⟩ (.slice da11 r11.length dc11))):=Z9 ((Kp.refl w.heap.size u11).trans (Kp.put w.heap.size _ 10 (.slice da11 r11.length dc11)));go_wp2_with fail;clear y0 y1 y2 y3 y4 y5 y6 y7 y8 y9 ya yb fz zb
      refine(HIN.out _ l11 HE14.out.rd (by omega)).mono ?_
      cases XW:zbh C l11 with
      |no lq =>
       rintro e u ⟨rfl,hr,hg⟩;exact⟨rfl,zal (l:=lq) (by rw[HGR.out];simp only[ziy,tBy,zb0,HQ3.out,HQ5.out,HQ7.out,HQ9.out,HQ11.out,XW,Rd.bind_ok,Rd.bind_no]) ⟨rfl,hr,(HE14.out.call hg hr).grown⟩⟩
      |ok r13 l13 =>
       rintro e u13 ⟨v13,rfl,⟨n13,ea13,el13,ec13,da13,dl13,dc13,a13,len13,cap13,Uc,hx⟩,hr,hg⟩;change v13=.agg #[.int .u8 r13.kind,.string r13.frm,.string r13.too,.string r13.name,.int .u8 r13.expr.kind,.string r13.expr.rat,.string r13.expr.name,.int .i64 r13.expr.date,.slice ea13 el13 ec13,.int .i64 r13.date,.slice da13 dl13 dc13,.slice a13 len13 cap13]at Uc;subst Uc;have HK13:=Z9 (HE14.out.call hg hr);have HQ13:=Z9 XW;have HPD13:=Z9 ((HPD11.out.trans HV14.out).trans (Kp.grown hg Z1));have HLB13:=Z9 (Nat.lt_of_lt_of_le HE14.out.blt (Nat.le_refl _));have hl13:=(zbt C cC l11).lt XW;have HXC13:=Z9 hx;have HPC13:=Z9 (Kp.refl w.heap.size u13)
       clear hr hg hx XW;obtain⟨y0,y1,y2,y3,y4,y5,y6,y7,y8,y9,ya,yb⟩:=ccs HK13.out.box;have fz:∀i,u13.frozen? ⟨w.heap.size,i,none⟩=false:=HK13.out.frozen
       have zb:=HK13.out.blt;have HE15:Hid (KAt rb w.heap.size w (u13.setCell ⟨w.heap.size,11,none⟩ (.slice (some ⟨u13.heap.size,0,none⟩) 1 1)) l13 #[.int .u8 8,.string r7,.string ⟨#[]⟩,.string r3,.int .u8 0,.string ⟨#[]⟩,.string ⟨#[]⟩,.int .i64 0,.slice none 0 0,.int .i64 0,.slice da11 r11.length dc11,.slice (some ⟨u13.heap.size,0,none⟩) 1 1]):=Z9 (HK13.out.put 11 (.slice (some ⟨u13.heap.size,0,none⟩) 1 1));have HV15:Hid (Kp w.heap.size u13 (u13.setCell ⟨w.heap.size,11,none⟩ (.slice (some ⟨u13.heap.size,0,none⟩) 1 1))):=Z9 ((Kp.refl w.heap.size u13).trans (Kp.put w.heap.size _ 11 (.slice (some ⟨u13.heap.size,0,none⟩) 1 1)))
       have HFIN:=Z9 (HE15.out.all (.int .u8 8) (.string r7) (.string ⟨#[]⟩) (.string r3) (.int .u8 0) (.string ⟨#[]⟩) (.string ⟨#[]⟩) (.int .i64 0) (.slice none 0 0) (.int .i64 0) (.slice da11 r11.length dc11) (.slice (some ⟨u13.heap.size,0,none⟩) 1 1));have HGE:Hid (GR=.ok (.mk 8 r7 tE0 r3 tX0 0 r11 [r13]) l13):=Z9 (by rw[HGR.out];simp only[ziy,tBy,zb0,HQ3.out,HQ5.out,HQ7.out,HQ9.out,HQ11.out,HQ13.out,Rd.bind_ok]);go_wp2_with fail;clear y0 y1 y2 y3 y4 y5 y6 y7 y8 y9 ya yb fz zb;obtain⟨hK,hP⟩:=HFIN.out;change bodyPost _ _ _ _ _ ((zan (u13.setCell ⟨w.heap.size,11,none⟩ (.slice (some ⟨u13.heap.size,0,none⟩) 1 1)) w.heap.size (.int .u8 8) (.string r7) (.string ⟨#[]⟩) (.string r3) (.int .u8 0) (.string ⟨#[]⟩) (.string ⟨#[]⟩) (.int .i64 0) (.slice none 0 0) (.int .i64 0) (.slice da11 r11.length dc11) (.slice (some ⟨u13.heap.size,0,none⟩) 1 1)).alloc (.cells #[.int .u8 r13.kind,.string r13.frm,.string r13.too,.string r13.name,.int .u8 r13.expr.kind,.string r13.expr.rat,.string r13.expr.name,.int .i64 r13.expr.date,.slice ea13 el13 ec13,.int .i64 r13.date,.slice da13 dl13 dc13,.slice a13 len13 cap13] 40))
       obtain⟨q0,q1,q2,q3,q4,q5,q6,q7,q8,q9,qa,qb⟩:=ccs (hK.alloc (.cells #[.int .u8 r13.kind,.string r13.frm,.string r13.too,.string r13.name,.int .u8 r13.expr.kind,.string r13.expr.rat,.string r13.expr.name,.int .i64 r13.expr.date,.slice ea13 el13 ec13,.int .i64 r13.date,.slice da13 dl13 dc13,.slice a13 len13 cap13] 40)).box;have YT:=((HV15.out.trans hP).trans (Kp.alloc w.heap.size _ (.cells #[.int .u8 r13.kind,.string r13.frm,.string r13.too,.string r13.name,.int .u8 r13.expr.kind,.string r13.expr.rat,.string r13.expr.name,.int .i64 r13.expr.date,.slice ea13 el13 ec13,.int .i64 r13.date,.slice da13 dl13 dc13,.slice a13 len13 cap13] 40)))
       obtain⟨FW,YC⟩:∃FW,FW=((zan (u13.setCell ⟨w.heap.size,11,none⟩ (.slice (some ⟨u13.heap.size,0,none⟩) 1 1)) w.heap.size (.int .u8 8) (.string r7) (.string ⟨#[]⟩) (.string r3) (.int .u8 0) (.string ⟨#[]⟩) (.string ⟨#[]⟩) (.int .i64 0) (.slice none 0 0) (.int .i64 0) (.slice da11 r11.length dc11) (.slice (some ⟨u13.heap.size,0,none⟩) 1 1)).alloc (.cells #[.int .u8 r13.kind,.string r13.frm,.string r13.too,.string r13.name,.int .u8 r13.expr.kind,.string r13.expr.rat,.string r13.expr.name,.int .i64 r13.expr.date,.slice ea13 el13 ec13,.int .i64 r13.date,.slice da13 dl13 dc13,.slice a13 len13 cap13] 40)):=⟨_,rfl⟩
       have he:ExOn (fun g=>w.heap.size<g∧g<((zan (u13.setCell ⟨w.heap.size,11,none⟩ (.slice (some ⟨u13.heap.size,0,none⟩) 1 1)) w.heap.size (.int .u8 8) (.string r7) (.string ⟨#[]⟩) (.string r3) (.int .u8 0) (.string ⟨#[]⟩) (.string ⟨#[]⟩) (.int .i64 0) (.slice none 0 0) (.int .i64 0) (.slice da11 r11.length dc11) (.slice (some ⟨u13.heap.size,0,none⟩) 1 1)).alloc (.cells #[.int .u8 r13.kind,.string r13.frm,.string r13.too,.string r13.name,.int .u8 r13.expr.kind,.string r13.expr.rat,.string r13.expr.name,.int .i64 r13.expr.date,.slice ea13 el13 ec13,.int .i64 r13.date,.slice da13 dl13 dc13,.slice a13 len13 cap13] 40)).heap.size) 1 ((zan (u13.setCell ⟨w.heap.size,11,none⟩ (.slice (some ⟨u13.heap.size,0,none⟩) 1 1)) w.heap.size (.int .u8 8) (.string r7) (.string ⟨#[]⟩) (.string r3) (.int .u8 0) (.string ⟨#[]⟩) (.string ⟨#[]⟩) (.int .i64 0) (.slice none 0 0) (.int .i64 0) (.slice da11 r11.length dc11) (.slice (some ⟨u13.heap.size,0,none⟩) 1 1)).alloc (.cells #[.int .u8 r13.kind,.string r13.frm,.string r13.too,.string r13.name,.int .u8 r13.expr.kind,.string r13.expr.rat,.string r13.expr.name,.int .i64 r13.expr.date,.slice ea13 el13 ec13,.int .i64 r13.date,.slice da13 dl13 dc13,.slice a13 len13 cap13] 40)) [.int .u8 0,.string ⟨#[]⟩,.string ⟨#[]⟩,.int .i64 0,.slice none 0 0] tX0:=zc9 _ _ _ _ _ _
       have hd:=zlf HXD11.out (HPD13.out.trans YT) HLB11.out;have hcx:=ze8 HXC13.out (HPC13.out.trans YT) HLB13.out;have ZS:(zan (u13.setCell ⟨w.heap.size,11,none⟩ (.slice (some ⟨u13.heap.size,0,none⟩) 1 1)) w.heap.size (.int .u8 8) (.string r7) (.string ⟨#[]⟩) (.string r3) (.int .u8 0) (.string ⟨#[]⟩) (.string ⟨#[]⟩) (.int .i64 0) (.slice none 0 0) (.int .i64 0) (.slice da11 r11.length dc11) (.slice (some ⟨u13.heap.size,0,none⟩) 1 1)).heap.size=u13.heap.size:=by unfold zan;simp only[World.size_setCell]
       have YA:((zan (u13.setCell ⟨w.heap.size,11,none⟩ (.slice (some ⟨u13.heap.size,0,none⟩) 1 1)) w.heap.size (.int .u8 8) (.string r7) (.string ⟨#[]⟩) (.string r3) (.int .u8 0) (.string ⟨#[]⟩) (.string ⟨#[]⟩) (.int .i64 0) (.slice none 0 0) (.int .i64 0) (.slice da11 r11.length dc11) (.slice (some ⟨u13.heap.size,0,none⟩) 1 1)).alloc (.cells #[.int .u8 r13.kind,.string r13.frm,.string r13.too,.string r13.name,.int .u8 r13.expr.kind,.string r13.expr.rat,.string r13.expr.name,.int .i64 r13.expr.date,.slice ea13 el13 ec13,.int .i64 r13.date,.slice da13 dl13 dc13,.slice a13 len13 cap13] 40)).heap[u13.heap.size]?=some (.cells #[.int .u8 r13.kind,.string r13.frm,.string r13.too,.string r13.name,.int .u8 r13.expr.kind,.string r13.expr.rat,.string r13.expr.name,.int .i64 r13.expr.date,.slice ea13 el13 ec13,.int .i64 r13.date,.slice da13 dl13 dc13,.slice a13 len13 cap13] 40):=by
        have:=heap_alloc_new (zan (u13.setCell ⟨w.heap.size,11,none⟩ (.slice (some ⟨u13.heap.size,0,none⟩) 1 1)) w.heap.size (.int .u8 8) (.string r7) (.string ⟨#[]⟩) (.string r3) (.int .u8 0) (.string ⟨#[]⟩) (.string ⟨#[]⟩) (.int .i64 0) (.slice none 0 0) (.int .i64 0) (.slice da11 r11.length dc11) (.slice (some ⟨u13.heap.size,0,none⟩) 1 1)) (.cells #[.int .u8 r13.kind,.string r13.frm,.string r13.too,.string r13.name,.int .u8 r13.expr.kind,.string r13.expr.rat,.string r13.expr.name,.int .i64 r13.expr.date,.slice ea13 el13 ec13,.int .i64 r13.date,.slice da13 dl13 dc13,.slice a13 len13 cap13] 40);rw[ZS]at this;exact this
       have hs:=zgg (S:=fun g=>w.heap.size<g∧g<((zan (u13.setCell ⟨w.heap.size,11,none⟩ (.slice (some ⟨u13.heap.size,0,none⟩) 1 1)) w.heap.size (.int .u8 8) (.string r7) (.string ⟨#[]⟩) (.string r3) (.int .u8 0) (.string ⟨#[]⟩) (.string ⟨#[]⟩) (.int .i64 0) (.slice none 0 0) (.int .i64 0) (.slice da11 r11.length dc11) (.slice (some ⟨u13.heap.size,0,none⟩) 1 1)).alloc (.cells #[.int .u8 r13.kind,.string r13.frm,.string r13.too,.string r13.name,.int .u8 r13.expr.kind,.string r13.expr.rat,.string r13.expr.name,.int .i64 r13.expr.date,.slice ea13 el13 ec13,.int .i64 r13.date,.slice da13 dl13 dc13,.slice a13 len13 cap13] 40)).heap.size) (cs:=[.int .u8 r13.kind,.string r13.frm,.string r13.too,.string r13.name,.int .u8 r13.expr.kind,.string r13.expr.rat,.string r13.expr.name,.int .i64 r13.expr.date,.slice ea13 el13 ec13,.int .i64 r13.date,.slice da13 dl13 dc13,.slice a13 len13 cap13]) ⟨HK13.out.blt,by rw[World.size_alloc,ZS];omega⟩ YA hcx
       exact bodyPost_ret (v:=.agg #[.int .u8 8,.string r7,.string ⟨#[]⟩,.string r3,.int .u8 0,.string ⟨#[]⟩,.string ⟨#[]⟩,.int .i64 0,.slice none 0 0,.int .i64 0,.slice da11 r11.length dc11,.slice (some ⟨u13.heap.size,0,none⟩) 1 1]) (by simp only[results,Tryz.results78];simp[go_sem,q0,q1,q2,q3,q4,q5,q6,q7,q8,q9,qa,qb]) rfl (zbl HGE.out ⟨_,rfl,⟨max 1 n13+1,none,0,0,da11,r11.length,dc11,(some ⟨u13.heap.size,0,none⟩),1,1,rfl,(ze7 (x:=(.mk 8 r7 tE0 r3 tX0 0 r11 [r13])) (k:=max 1 n13) he hd hs (by omega) (by omega)).mono fun g ⟨h1,h2⟩=>⟨Nat.le_of_lt h1,h2⟩⟩,(hK.alloc (.cells #[.int .u8 r13.kind,.string r13.frm,.string r13.too,.string r13.name,.int .u8 r13.expr.kind,.string r13.expr.rat,.string r13.expr.name,.int .i64 r13.expr.date,.slice ea13 el13 ec13,.int .i64 r13.date,.slice da13 dl13 dc13,.slice a13 len13 cap13] 40)).rd,(hK.alloc (.cells #[.int .u8 r13.kind,.string r13.frm,.string r13.too,.string r13.name,.int .u8 r13.expr.kind,.string r13.expr.rat,.string r13.expr.name,.int .i64 r13.expr.date,.slice ea13 el13 ec13,.int .i64 r13.date,.slice da13 dl13 dc13,.slice a13 len13 cap13] 40)).grown⟩)
theorem yat{rb n0:Nat}(S T:RdX)(C:RdC)(N:Nat)(hp:zd9 rb (n0+1) S T)(cS:∀l,(S l).Cons l)(cT:∀l,(T l).Cons l)(hC:ConC rb n0 C)(cC:∀l,(C l).Cons l)(w:World)(l:List Tk)(h:RAt rb w l)(hl:l.length≤n0)(hN:l.length≤N)(YQ:N≤100000)(hh:zap l=[]) :
 Calls Tryz.prog 78 #[.pointer (some ⟨rb,0,none⟩)] w (zaf (VCt w.heap.size) rb w (tPay S l)):=by
 have hfld:=zco;have HHD:=Z9 (fun W (hW:RAt rb W l)=>za1 rb W l hW);rw[za0 hh]at HHD;have Zd:=Z9 (fun W l (hW:RAt rb W l)=>zd3 rb W l hW);have HOF:=Z9 (fun W l (hW:RAt rb W l)=>zf6 rb 4 W l hW);have HMU5:=Z9 (fun g2 s W l (hW:RAt rb W l) (hs:W.cell? ⟨g2,0,none⟩=some (.string s))=>za8 rb g2 5 s W l hW hs);have HMU1:=Z9 (fun g2 s W l (hW:RAt rb W l) (hs:W.cell? ⟨g2,0,none⟩=some (.string s))=>za8 rb g2 1 s W l hW hs);have HSM:Hid (∀W l,RAt rb W l→l.length<n0+1→Calls Tryz.prog 64 #[.pointer (some ⟨rb,0,none⟩)] W (zaf (VEx W.heap.size) rb W (S l))):=Z9 (fun W l hW hl=>hp true W l hW hl);have ZF:Hid (∀W l,RAt rb W l→l.length<n0+1→Calls Tryz.prog 63 #[.pointer (some ⟨rb,0,none⟩)] W (zaf (VEx W.heap.size) rb W (T l))):=Z9 (fun W l hW hl=>hp false W l hW hl)
 have HIN:Hid (∀W l,RAt rb W l→l.length≤n0→Calls Tryz.prog 135 #[.pointer (some ⟨rb,0,none⟩)] W (zaf (VCt W.heap.size) rb W (zbh C l))):=Z9 (fun W l hW hl=>zcj C hC W l hW hl);have HTW:Hid (∀W l,RAt rb W l→l.length≤n0→Calls Tryz.prog 136 #[.pointer (some ⟨rb,0,none⟩)] W (zaf (VSub W.heap.size) rb W (tTwo C l))):=Z9 (fun W l hW hl=>ze3 C hC cC W l hW hl);have HDS:Hid (∀W l,RAt rb W l→l.length≤N→Calls Tryz.prog 134 #[.pointer (some ⟨rb,0,none⟩)] W (zaf (VDs W.heap.size) rb W (zb9 N l))):=Z9 (fun W l hW hl=>zcu N W l hW hl YQ);have HCC:=Z9 hC;have HCNS:=Z9 (And.intro cS cT);have Z1:=h.lt;have HK0:=Z9 (KAt.start h #[.int .u8 0,.string ⟨#[]⟩,.string ⟨#[]⟩,.string ⟨#[]⟩,.int .u8 0,.string ⟨#[]⟩,.string ⟨#[]⟩,.int .i64 0,.slice none 0 0,.int .i64 0,.slice none 0 0,.slice none 0 0])
 obtain⟨GR,ZX⟩:∃GR:Rd Ct,GR=tPay S l:=⟨_,rfl⟩
 rw[←ZX];have HGR:=Z9 ZX;have HN1:=Z9 hN;clear h ZX hC hp hh hN;go_enter Tryz.func78,Tryz.ntmps78;go_wp2_with fail;refine(HHD.out _ HK0.out.rd).mono ?_;rintro e u ⟨rfl,hb⟩;have HK2:=Z9 (HK0.out.below hb);clear hb;obtain⟨y0,y1,y2,y3,y4,y5,y6,y7,y8,y9,ya,yb⟩:=ccs HK2.out.box;have fz:∀i,u.frozen? ⟨w.heap.size,i,none⟩=false:=HK2.out.frozen
 have zb:=HK2.out.blt;have HE4:Hid (KAt rb w.heap.size w u l #[.int .u8 0,.string ⟨#[]⟩,.string ⟨#[]⟩,.string ⟨#[]⟩,.int .u8 0,.string ⟨#[]⟩,.string ⟨#[]⟩,.int .i64 0,.slice none 0 0,.int .i64 0,.slice none 0 0,.slice none 0 0]):=Z9 HK2.out;have HV4:Hid (Kp w.heap.size u u):=Z9 (Kp.refl w.heap.size u);go_wp2_with fail;clear y0 y1 y2 y3 y4 y5 y6 y7 y8 y9 ya yb fz zb;refine(Zd.out _ l HE4.out.rd).mono ?_
 cases ZP:zdc l with
 |no lq =>
  rintro e u ⟨rfl,hr,hg⟩;exact⟨rfl,zal (l:=lq) (by rw[HGR.out];simp only[tPay,ZP,Rd.bind_no]) ⟨rfl,hr,(HE4.out.call hg hr).grown⟩⟩
 |ok r3 l3 =>
  rintro e u3 ⟨v3,rfl,rfl,hr,hg⟩;have HK3:=Z9 (HE4.out.call hg hr);have HQ3:=Z9 ZP;have HLB3:=Z9 (Nat.lt_of_lt_of_le HE4.out.blt (Nat.le_refl _));have XR:=(zbp l).lt ZP;clear hr hg ZP;obtain⟨y0,y1,y2,y3,y4,y5,y6,y7,y8,y9,ya,yb⟩:=ccs HK3.out.box;have fz:∀i,u3.frozen? ⟨w.heap.size,i,none⟩=false:=HK3.out.frozen
  have zb:=HK3.out.blt;have HE6:Hid (KAt rb w.heap.size w ((u3.setCell ⟨w.heap.size,0,none⟩ (.int .u8 2)).setCell ⟨w.heap.size,1,none⟩ (.string r3)) l3 #[.int .u8 2,.string r3,.string ⟨#[]⟩,.string ⟨#[]⟩,.int .u8 0,.string ⟨#[]⟩,.string ⟨#[]⟩,.int .i64 0,.slice none 0 0,.int .i64 0,.slice none 0 0,.slice none 0 0]):=Z9 ((HK3.out.put 0 (.int .u8 2)).put 1 (.string r3));have HV6:Hid (Kp w.heap.size u3 ((u3.setCell ⟨w.heap.size,0,none⟩ (.int .u8 2)).setCell ⟨w.heap.size,1,none⟩ (.string r3))):=Z9 (((Kp.refl w.heap.size u3).trans (Kp.put w.heap.size _ 0 (.int .u8 2))).trans (Kp.put w.heap.size _ 1 (.string r3)))
  have HS5:Hid ((((u3.setCell ⟨w.heap.size,0,none⟩ (.int .u8 2)).setCell ⟨w.heap.size,1,none⟩ (.string r3)).alloc (.cells #[.string ⟨#[112,97,121,115]⟩] 9)).cell? ⟨u3.heap.size,0,none⟩=some (.string ⟨#[112,97,121,115]⟩)):=Z9 (by
   have:=zfc (u:=((u3.setCell ⟨w.heap.size,0,none⟩ (.int .u8 2)).setCell ⟨w.heap.size,1,none⟩ (.string r3))) (s:=⟨#[112,97,121,115]⟩)
   simpa only [World.size_alloc,World.size_setCell]using this)
  go_wp2_with fail;clear y0 y1 y2 y3 y4 y5 y6 y7 y8 y9 ya yb fz zb;refine(HMU1.out _ _ _ l3 (HE6.out.alloc (.cells #[.string ⟨#[112,97,121,115]⟩] 9)).rd HS5.out).mono ?_;change ∀e u',zaf zhh rb _ (tEat 1 [112,97,121,115] l3) e u'→_
  cases Zl:tEat 1 [112,97,121,115] l3 with
  |no lq =>
   rintro e u ⟨rfl,hr,hg⟩;exact⟨rfl,zal (l:=lq) (by rw[HGR.out];simp only[tPay,HQ3.out,Zl,Rd.bind_ok,Rd.bind_no]) ⟨rfl,hr,((HE6.out.alloc (.cells #[.string ⟨#[112,97,121,115]⟩] 9)).call hg hr).grown⟩⟩
  |ok r5 l5 =>
   rintro e u5 ⟨v5,rfl,rfl,hr,hg⟩;have HK5:=Z9 ((HE6.out.alloc (.cells #[.string ⟨#[112,97,121,115]⟩] 9)).call hg hr);have HQ5:=Z9 Zl;have HLB5:=Z9 (Nat.lt_of_lt_of_le (HE6.out.alloc (.cells #[.string ⟨#[112,97,121,115]⟩] 9)).blt (Nat.le_refl _));have hl5:=(zar 1 [112,97,121,115] l3).lt Zl;clear hr hg Zl;obtain⟨y0,y1,y2,y3,y4,y5,y6,y7,y8,y9,ya,yb⟩:=ccs HK5.out.box;have fz:∀i,u5.frozen? ⟨w.heap.size,i,none⟩=false:=HK5.out.frozen
   have zb:=HK5.out.blt;have HE8:Hid (KAt rb w.heap.size w u5 l5 #[.int .u8 2,.string r3,.string ⟨#[]⟩,.string ⟨#[]⟩,.int .u8 0,.string ⟨#[]⟩,.string ⟨#[]⟩,.int .i64 0,.slice none 0 0,.int .i64 0,.slice none 0 0,.slice none 0 0]):=Z9 HK5.out;have HV8:Hid (Kp w.heap.size u5 u5):=Z9 (Kp.refl w.heap.size u5);go_wp2_with fail;clear y0 y1 y2 y3 y4 y5 y6 y7 y8 y9 ya yb fz zb;refine(HSM.out _ l5 HE8.out.rd (by omega)).mono ?_
   cases YH:S l5 with
   |no lq =>
    rintro e u ⟨rfl,hr,hg⟩;exact⟨rfl,zal (l:=lq) (by rw[HGR.out];simp only[tPay,HQ3.out,HQ5.out,YH,Rd.bind_ok,Rd.bind_no]) ⟨rfl,hr,(HE8.out.call hg hr).grown⟩⟩
   |ok r7 l7 =>
    rintro e u7 ⟨v7,rfl,⟨nx7,xa7,xl7,xc7,rfl,hx⟩,hr,hg⟩;have HK7:=Z9 (HE8.out.call hg hr);have HQ7:=Z9 YH;have HLB7:=Z9 (Nat.lt_of_lt_of_le HE8.out.blt (Nat.le_refl _));have hl7:=(cS l5).lt YH;have HXX7:=Z9 hx;have HPX7:=Z9 (Kp.refl w.heap.size u7);clear hr hg hx YH;obtain⟨y0,y1,y2,y3,y4,y5,y6,y7,y8,y9,ya,yb⟩:=ccs HK7.out.box;have fz:∀i,u7.frozen? ⟨w.heap.size,i,none⟩=false:=HK7.out.frozen
    have zb:=HK7.out.blt;have HE10:Hid (KAt rb w.heap.size w u7 l7 #[.int .u8 2,.string r3,.string ⟨#[]⟩,.string ⟨#[]⟩,.int .u8 0,.string ⟨#[]⟩,.string ⟨#[]⟩,.int .i64 0,.slice none 0 0,.int .i64 0,.slice none 0 0,.slice none 0 0]):=Z9 HK7.out;have HV10:Hid (Kp w.heap.size u7 u7):=Z9 (Kp.refl w.heap.size u7);go_wp2_with fail;clear y0 y1 y2 y3 y4 y5 y6 y7 y8 y9 ya yb fz zb;refine(Zd.out _ l7 HE10.out.rd).mono ?_
    cases YS:zdc l7 with
    |no lq =>
     rintro e u ⟨rfl,hr,hg⟩;exact⟨rfl,zal (l:=lq) (by rw[HGR.out];simp only[tPay,HQ3.out,HQ5.out,HQ7.out,YS,Rd.bind_ok,Rd.bind_no]) ⟨rfl,hr,(HE10.out.call hg hr).grown⟩⟩
    |ok r9 l9 =>
     rintro e u9 ⟨v9,rfl,rfl,hr,hg⟩;have HK9:=Z9 (HE10.out.call hg hr);have HQ9:=Z9 YS;have HPX9:=Z9 ((HPX7.out.trans HV10.out).trans (Kp.grown hg Z1));have HLB9:=Z9 (Nat.lt_of_lt_of_le HE10.out.blt (Nat.le_refl _));have US:=(zbp l7).lt YS;clear hr hg YS;obtain⟨y0,y1,y2,y3,y4,y5,y6,y7,y8,y9,ya,yb⟩:=ccs HK9.out.box;have fz:∀i,u9.frozen? ⟨w.heap.size,i,none⟩=false:=HK9.out.frozen
     have zb:=HK9.out.blt;have HE12:Hid (KAt rb w.heap.size w ((((((u9.setCell ⟨w.heap.size,4,none⟩ (.int .u8 r7.kind)).setCell ⟨w.heap.size,5,none⟩ (.string r7.rat)).setCell ⟨w.heap.size,6,none⟩ (.string r7.name)).setCell ⟨w.heap.size,7,none⟩ (.int .i64 r7.date)).setCell ⟨w.heap.size,8,none⟩ (.slice xa7 xl7 xc7)).setCell ⟨w.heap.size,3,none⟩ (.string r9)) l9 #[.int .u8 2,.string r3,.string ⟨#[]⟩,.string r9,.int .u8 r7.kind,.string r7.rat,.string r7.name,.int .i64 r7.date,.slice xa7 xl7 xc7,.int .i64 0,.slice none 0 0,.slice none 0 0]):=Z9 ((((((HK9.out.put 4 (.int .u8 r7.kind)).put 5 (.string r7.rat)).put 6 (.string r7.name)).put 7 (.int .i64 r7.date)).put 8 (.slice xa7 xl7 xc7)).put 3 (.string r9))
     have HV12:Hid (Kp w.heap.size u9 ((((((u9.setCell ⟨w.heap.size,4,none⟩ (.int .u8 r7.kind)).setCell ⟨w.heap.size,5,none⟩ (.string r7.rat)).setCell ⟨w.heap.size,6,none⟩ (.string r7.name)).setCell ⟨w.heap.size,7,none⟩ (.int .i64 r7.date)).setCell ⟨w.heap.size,8,none⟩ (.slice xa7 xl7 xc7)).setCell ⟨w.heap.size,3,none⟩ (.string r9))):=Z9 (((((((Kp.refl w.heap.size u9).trans (Kp.put w.heap.size _ 4 (.int .u8 r7.kind))).trans (Kp.put w.heap.size _ 5 (.string r7.rat))).trans (Kp.put w.heap.size _ 6 (.string r7.name))).trans (Kp.put w.heap.size _ 7 (.int .i64 r7.date))).trans (Kp.put w.heap.size _ 8 (.slice xa7 xl7 xc7))).trans (Kp.put w.heap.size _ 3 (.string r9)))
     have HS11:Hid ((((((((u9.setCell ⟨w.heap.size,4,none⟩ (.int .u8 r7.kind)).setCell ⟨w.heap.size,5,none⟩ (.string r7.rat)).setCell ⟨w.heap.size,6,none⟩ (.string r7.name)).setCell ⟨w.heap.size,7,none⟩ (.int .i64 r7.date)).setCell ⟨w.heap.size,8,none⟩ (.slice xa7 xl7 xc7)).setCell ⟨w.heap.size,3,none⟩ (.string r9)).alloc (.cells #[.string ⟨#[116,111]⟩] 9)).cell? ⟨u9.heap.size,0,none⟩=some (.string ⟨#[116,111]⟩)):=Z9 (by
      have:=zfc (u:=((((((u9.setCell ⟨w.heap.size,4,none⟩ (.int .u8 r7.kind)).setCell ⟨w.heap.size,5,none⟩ (.string r7.rat)).setCell ⟨w.heap.size,6,none⟩ (.string r7.name)).setCell ⟨w.heap.size,7,none⟩ (.int .i64 r7.date)).setCell ⟨w.heap.size,8,none⟩ (.slice xa7 xl7 xc7)).setCell ⟨w.heap.size,3,none⟩ (.string r9))) (s:=⟨#[116,111]⟩)
      simpa only [World.size_alloc,World.size_setCell]using this)
     go_wp2_with fail;clear y0 y1 y2 y3 y4 y5 y6 y7 y8 y9 ya yb fz zb;refine(HMU1.out _ _ _ l9 (HE12.out.alloc (.cells #[.string ⟨#[116,111]⟩] 9)).rd HS11.out).mono ?_;change ∀e u',zaf zhh rb _ (tEat 1 [116,111] l9) e u'→_
     cases XV:tEat 1 [116,111] l9 with
     |no lq =>
      rintro e u ⟨rfl,hr,hg⟩;exact⟨rfl,zal (l:=lq) (by rw[HGR.out];simp only[tPay,HQ3.out,HQ5.out,HQ7.out,HQ9.out,XV,Rd.bind_ok,Rd.bind_no]) ⟨rfl,hr,((HE12.out.alloc (.cells #[.string ⟨#[116,111]⟩] 9)).call hg hr).grown⟩⟩
     |ok r11 l11 =>
      rintro e u11 ⟨v11,rfl,rfl,hr,hg⟩;have HK11:=Z9 ((HE12.out.alloc (.cells #[.string ⟨#[116,111]⟩] 9)).call hg hr);have HQ11:=Z9 XV;have HPX11:=Z9 ((HPX9.out.trans (HV12.out.trans (Kp.alloc w.heap.size _ (.cells #[.string ⟨#[116,111]⟩] 9)))).trans (Kp.grown hg Z1));have HLB11:=Z9 (Nat.lt_of_lt_of_le (HE12.out.alloc (.cells #[.string ⟨#[116,111]⟩] 9)).blt (Nat.le_refl _));have hl11:=(zar 1 [116,111] l9).lt XV;clear hr hg XV;obtain⟨y0,y1,y2,y3,y4,y5,y6,y7,y8,y9,ya,yb⟩:=ccs HK11.out.box;have fz:∀i,u11.frozen? ⟨w.heap.size,i,none⟩=false:=HK11.out.frozen
      have zb:=HK11.out.blt;have HE14:Hid (KAt rb w.heap.size w u11 l11 #[.int .u8 2,.string r3,.string ⟨#[]⟩,.string r9,.int .u8 r7.kind,.string r7.rat,.string r7.name,.int .i64 r7.date,.slice xa7 xl7 xc7,.int .i64 0,.slice none 0 0,.slice none 0 0]):=Z9 HK11.out;have HV14:Hid (Kp w.heap.size u11 u11):=Z9 (Kp.refl w.heap.size u11);go_wp2_with fail;clear y0 y1 y2 y3 y4 y5 y6 y7 y8 y9 ya yb fz zb;refine(Zd.out _ l11 HE14.out.rd).mono ?_
      cases XW:zdc l11 with
      |no lq =>
       rintro e u ⟨rfl,hr,hg⟩;exact⟨rfl,zal (l:=lq) (by rw[HGR.out];simp only[tPay,HQ3.out,HQ5.out,HQ7.out,HQ9.out,HQ11.out,XW,Rd.bind_ok,Rd.bind_no]) ⟨rfl,hr,(HE14.out.call hg hr).grown⟩⟩
      |ok r13 l13 =>
       rintro e u13 ⟨v13,rfl,rfl,hr,hg⟩;have HK13:=Z9 (HE14.out.call hg hr);have HQ13:=Z9 XW;have HPX13:=Z9 ((HPX11.out.trans HV14.out).trans (Kp.grown hg Z1));have HLB13:=Z9 (Nat.lt_of_lt_of_le HE14.out.blt (Nat.le_refl _));have hl13:=(zbp l11).lt XW;clear hr hg XW;obtain⟨y0,y1,y2,y3,y4,y5,y6,y7,y8,y9,ya,yb⟩:=ccs HK13.out.box;have fz:∀i,u13.frozen? ⟨w.heap.size,i,none⟩=false:=HK13.out.frozen
       have zb:=HK13.out.blt;have HE15:Hid (KAt rb w.heap.size w (u13.setCell ⟨w.heap.size,2,none⟩ (.string r13)) l13 #[.int .u8 2,.string r3,.string r13,.string r9,.int .u8 r7.kind,.string r7.rat,.string r7.name,.int .i64 r7.date,.slice xa7 xl7 xc7,.int .i64 0,.slice none 0 0,.slice none 0 0]):=Z9 (HK13.out.put 2 (.string r13));have HV15:Hid (Kp w.heap.size u13 (u13.setCell ⟨w.heap.size,2,none⟩ (.string r13))):=Z9 ((Kp.refl w.heap.size u13).trans (Kp.put w.heap.size _ 2 (.string r13)));have HFIN:=Z9 (HE15.out.all (.int .u8 2) (.string r3) (.string r13) (.string r9) (.int .u8 r7.kind) (.string r7.rat) (.string r7.name) (.int .i64 r7.date) (.slice xa7 xl7 xc7) (.int .i64 0) (.slice none 0 0) (.slice none 0 0))
       have HGE:Hid (GR=.ok (.mk 2 r3 r13 r9 r7 0 [] []) l13):=Z9 (by rw[HGR.out];simp only[tPay,HQ3.out,HQ5.out,HQ7.out,HQ9.out,HQ11.out,HQ13.out,Rd.bind_ok]);go_wp2_with fail;clear y0 y1 y2 y3 y4 y5 y6 y7 y8 y9 ya yb fz zb;obtain⟨hK,hP⟩:=HFIN.out;change bodyPost _ _ _ _ _ (zan (u13.setCell ⟨w.heap.size,2,none⟩ (.string r13)) w.heap.size (.int .u8 2) (.string r3) (.string r13) (.string r9) (.int .u8 r7.kind) (.string r7.rat) (.string r7.name) (.int .i64 r7.date) (.slice xa7 xl7 xc7) (.int .i64 0) (.slice none 0 0) (.slice none 0 0));obtain⟨q0,q1,q2,q3,q4,q5,q6,q7,q8,q9,qa,qb⟩:=ccs hK.box;have YT:=(HV15.out.trans hP)
       obtain⟨FW,YC⟩:∃FW,FW=(zan (u13.setCell ⟨w.heap.size,2,none⟩ (.string r13)) w.heap.size (.int .u8 2) (.string r3) (.string r13) (.string r9) (.int .u8 r7.kind) (.string r7.rat) (.string r7.name) (.int .i64 r7.date) (.slice xa7 xl7 xc7) (.int .i64 0) (.slice none 0 0) (.slice none 0 0)):=⟨_,rfl⟩
       have he:=zk9 HXX7.out (HPX13.out.trans YT) HLB7.out;have hd:zf8 (fun g=>w.heap.size<g∧g<(zan (u13.setCell ⟨w.heap.size,2,none⟩ (.string r13)) w.heap.size (.int .u8 2) (.string r3) (.string r13) (.string r9) (.int .u8 r7.kind) (.string r7.rat) (.string r7.name) (.int .i64 r7.date) (.slice xa7 xl7 xc7) (.int .i64 0) (.slice none 0 0) (.slice none 0 0)).heap.size) (zan (u13.setCell ⟨w.heap.size,2,none⟩ (.string r13)) w.heap.size (.int .u8 2) (.string r3) (.string r13) (.string r9) (.int .u8 r7.kind) (.string r7.rat) (.string r7.name) (.int .i64 r7.date) (.slice xa7 xl7 xc7) (.int .i64 0) (.slice none 0 0) (.slice none 0 0)) none 0 []:=⟨rfl,.inl rfl⟩
       have hs:zja (fun g=>w.heap.size<g∧g<(zan (u13.setCell ⟨w.heap.size,2,none⟩ (.string r13)) w.heap.size (.int .u8 2) (.string r3) (.string r13) (.string r9) (.int .u8 r7.kind) (.string r7.rat) (.string r7.name) (.int .i64 r7.date) (.slice xa7 xl7 xc7) (.int .i64 0) (.slice none 0 0) (.slice none 0 0)).heap.size) 0 (zan (u13.setCell ⟨w.heap.size,2,none⟩ (.string r13)) w.heap.size (.int .u8 2) (.string r3) (.string r13) (.string r9) (.int .u8 r7.kind) (.string r7.rat) (.string r7.name) (.int .i64 r7.date) (.slice xa7 xl7 xc7) (.int .i64 0) (.slice none 0 0) (.slice none 0 0)) none 0 []:=zow _ _ _;exact bodyPost_ret (v:=.agg #[.int .u8 2,.string r3,.string r13,.string r9,.int .u8 r7.kind,.string r7.rat,.string r7.name,.int .i64 r7.date,.slice xa7 xl7 xc7,.int .i64 0,.slice none 0 0,.slice none 0 0]) (by simp only[results,Tryz.results78];simp[go_sem,q0,q1,q2,q3,q4,q5,q6,q7,q8,q9,qa,qb]) rfl (zbl HGE.out ⟨_,rfl,⟨max nx7 0+1,xa7,xl7,xc7,none,0,0,none,0,0,rfl,(ze7 (x:=(.mk 2 r3 r13 r9 r7 0 [] [])) (k:=max nx7 0) he hd hs (by omega) (by omega)).mono fun g ⟨h1,h2⟩=>⟨Nat.le_of_lt h1,h2⟩⟩,hK.rd,hK.grown⟩)
theorem z87{B n m:Nat}{V:World}{x y:Ct}{ea da a:Option Addr}{el ec dl dc len cap:Nat}{ea2 da2 a2:Option Addr}{el2 ec2 dl2 dc2 len2 cap2:Nat}(hx:CtOn (fun g=>B<g∧g<V.heap.size) n V [.int .u8 x.kind,.string x.frm,.string x.too,.string x.name,.int .u8 x.expr.kind,.string x.expr.rat,.string x.expr.name,.int .i64 x.expr.date,.slice ea el ec,.int .i64 x.date,.slice da dl dc,.slice a len cap] x)(hy:CtOn (fun g=>B<g∧g<V.heap.size) m V [.int .u8 y.kind,.string y.frm,.string y.too,.string y.name,.int .u8 y.expr.kind,.string y.expr.rat,.string y.expr.name,.int .i64 y.expr.date,.slice ea2 el2 ec2,.int .i64 y.date,.slice da2 dl2 dc2,.slice a2 len2 cap2] y)(Z4:B<V.heap.size) :
 zja (fun g=>B<g∧g<(V.alloc (.cells #[.int .u8 x.kind,.string x.frm,.string x.too,.string x.name,.int .u8 x.expr.kind,.string x.expr.rat,.string x.expr.name,.int .i64 x.expr.date,.slice ea el ec,.int .i64 x.date,.slice da dl dc,.slice a len cap,.int .u8 y.kind,.string y.frm,.string y.too,.string y.name,.int .u8 y.expr.kind,.string y.expr.rat,.string y.expr.name,.int .i64 y.expr.date,.slice ea2 el2 ec2,.int .i64 y.date,.slice da2 dl2 dc2,.slice a2 len2 cap2] 40)).heap.size) (max n m) (V.alloc (.cells #[.int .u8 x.kind,.string x.frm,.string x.too,.string x.name,.int .u8 x.expr.kind,.string x.expr.rat,.string x.expr.name,.int .i64 x.expr.date,.slice ea el ec,.int .i64 x.date,.slice da dl dc,.slice a len cap,.int .u8 y.kind,.string y.frm,.string y.too,.string y.name,.int .u8 y.expr.kind,.string y.expr.rat,.string y.expr.name,.int .i64 y.expr.date,.slice ea2 el2 ec2,.int .i64 y.date,.slice da2 dl2 dc2,.slice a2 len2 cap2] 40)) (some ⟨V.heap.size,0,none⟩) 2 [x,y]:=by
 have hs:∀o:Obj,(V.alloc o).heap.size=V.heap.size+1:=fun o=>by simp
 refine zov (cs:=[.int .u8 x.kind,.string x.frm,.string x.too,.string x.name,.int .u8 x.expr.kind,.string x.expr.rat,.string x.expr.name,.int .i64 x.expr.date,.slice ea el ec,.int .i64 x.date,.slice da dl dc,.slice a len cap]) (ds:=[.int .u8 y.kind,.string y.frm,.string y.too,.string y.name,.int .u8 y.expr.kind,.string y.expr.rat,.string y.expr.name,.int .i64 y.expr.date,.slice ea2 el2 ec2,.int .i64 y.date,.slice da2 dl2 dc2,.slice a2 len2 cap2]) rfl ⟨Z4,by rw[hs];omega⟩ (heap_alloc_new V _) ?_ ?_
 ·exact((hx.keep (w':=V.alloc _) fun g ⟨_,g2⟩=>Below.heap_alloc V _ _ g2).mono fun g ⟨g1,g2⟩=>⟨g1,by rw[hs];omega⟩).up (by omega)
 ·exact((hy.keep (w':=V.alloc _) fun g ⟨_,g2⟩=>Below.heap_alloc V _ _ g2).mono fun g ⟨g1,g2⟩=>⟨g1,by rw[hs];omega⟩).up (by omega)
theorem z5f{rb n0:Nat}(S T:RdX)(C:RdC)(N:Nat)(hp:zd9 rb (n0+1) S T)(cS:∀l,(S l).Cons l)(cT:∀l,(T l).Cons l)(hC:ConC rb n0 C)(cC:∀l,(C l).Cons l)(w:World)(l:List Tk)(h:RAt rb w l)(hl:l.length≤n0)(hN:l.length≤N)(YQ:N≤100000)(hh:zap l=[98,111,116,104]) :
 Calls Tryz.prog 78 #[.pointer (some ⟨rb,0,none⟩)] w (zaf (VCt w.heap.size) rb w (zfs C l.tail)):=by
 have hfld:=zco;have HHD:=Z9 (fun W (hW:RAt rb W l)=>za1 rb W l hW);rw[za0 hh]at HHD;have Zd:=Z9 (fun W l (hW:RAt rb W l)=>zd3 rb W l hW);have HOF:=Z9 (fun W l (hW:RAt rb W l)=>zf6 rb 4 W l hW);have HMU5:=Z9 (fun g2 s W l (hW:RAt rb W l) (hs:W.cell? ⟨g2,0,none⟩=some (.string s))=>za8 rb g2 5 s W l hW hs);have HMU1:=Z9 (fun g2 s W l (hW:RAt rb W l) (hs:W.cell? ⟨g2,0,none⟩=some (.string s))=>za8 rb g2 1 s W l hW hs);have HSM:Hid (∀W l,RAt rb W l→l.length<n0+1→Calls Tryz.prog 64 #[.pointer (some ⟨rb,0,none⟩)] W (zaf (VEx W.heap.size) rb W (S l))):=Z9 (fun W l hW hl=>hp true W l hW hl);have ZF:Hid (∀W l,RAt rb W l→l.length<n0+1→Calls Tryz.prog 63 #[.pointer (some ⟨rb,0,none⟩)] W (zaf (VEx W.heap.size) rb W (T l))):=Z9 (fun W l hW hl=>hp false W l hW hl)
 have HIN:Hid (∀W l,RAt rb W l→l.length≤n0→Calls Tryz.prog 135 #[.pointer (some ⟨rb,0,none⟩)] W (zaf (VCt W.heap.size) rb W (zbh C l))):=Z9 (fun W l hW hl=>zcj C hC W l hW hl);have HTW:Hid (∀W l,RAt rb W l→l.length≤n0→Calls Tryz.prog 136 #[.pointer (some ⟨rb,0,none⟩)] W (zaf (VSub W.heap.size) rb W (tTwo C l))):=Z9 (fun W l hW hl=>ze3 C hC cC W l hW hl);have HDS:Hid (∀W l,RAt rb W l→l.length≤N→Calls Tryz.prog 134 #[.pointer (some ⟨rb,0,none⟩)] W (zaf (VDs W.heap.size) rb W (zb9 N l))):=Z9 (fun W l hW hl=>zcu N W l hW hl YQ);have HCC:=Z9 hC;have HCNS:=Z9 (And.intro cS cT);have Z1:=h.lt;have HK0:=Z9 (KAt.start h #[.int .u8 0,.string ⟨#[]⟩,.string ⟨#[]⟩,.string ⟨#[]⟩,.int .u8 0,.string ⟨#[]⟩,.string ⟨#[]⟩,.int .i64 0,.slice none 0 0,.int .i64 0,.slice none 0 0,.slice none 0 0])
 obtain⟨GR,ZX⟩:∃GR:Rd Ct,GR=zfs C l.tail:=⟨_,rfl⟩
 rw[←ZX];have HGR:=Z9 ZX;obtain⟨t,r,rfl⟩:=zav (l:=l) (by rw[hh];simp);have X9:r.length<n0:=by rw[List.length_cons]at hl;omega
 have hN1:r.length<N:=by rw[List.length_cons]at hN;omega
 have HGR:Hid (GR=zfs C r):=HGR;clear h ZX hC hp hh hl hN;have Yg:=@run_makeMap Tryz.prog;go_enter Tryz.func78,Tryz.ntmps78;go_wp2_with fail;refine(HHD.out _ HK0.out.rd).mono ?_;rintro e u ⟨rfl,hb⟩;have HKA:=Z9 (HK0.out.below hb);clear hb;obtain⟨i0,i1,i2,i3,i4,i5,i6,i7,i8⟩:=ze4 u;have L0:(Instr.lookup 138 (.map (some u.heap.size)) (.string ⟨#[98,111,116,104]⟩) false).run Tryz.prog (u.alloc (.map tcEs 9))=.ok (.int .u8 3) (u.alloc (.map tcEs 9)):=zas (i:=1) (heap_alloc_new _ _) rfl;have HK1:Hid (KAt rb w.heap.size w ((u.setCell ⟨w.heap.size,0,none⟩ (.int .u8 3)).alloc (.map tcEs 9)) (t :: r) #[.int .u8 3,.string ⟨#[]⟩,.string ⟨#[]⟩,.string ⟨#[]⟩,.int .u8 0,.string ⟨#[]⟩,.string ⟨#[]⟩,.int .i64 0,.slice none 0 0,.int .i64 0,.slice none 0 0,.slice none 0 0]):=Z9 ((HKA.out.put 0 (.int .u8 3)).alloc _)
 obtain⟨z0,z1,z2,z3,z4,z5,z6,z7,z8,z9,za,zb'⟩:=ccs HKA.out.box;have fz:∀i,u.frozen? ⟨w.heap.size,i,none⟩=false:=HKA.out.frozen
 have zb:=HKA.out.blt;go_wp2_with fail;refine(zaz rb _ t r HK1.out.rd).mono ?_;rintro e u2 ⟨v2,rfl,rfl,hr,hg⟩;have HK2:=Z9 (HK1.out.call hg hr);clear hr hg i0 i1 i2 i3 i4 i5 i6 i7 i8 L0 z0 z1 z2 z3 z4 z5 z6 z7 z8 z9 za zb' fz zb;obtain⟨y0,y1,y2,y3,y4,y5,y6,y7,y8,y9,ya,yb⟩:=ccs HK2.out.box;have fz:∀i,u2.frozen? ⟨w.heap.size,i,none⟩=false:=HK2.out.frozen
 have zb:=HK2.out.blt;have HE4:Hid (KAt rb w.heap.size w u2 r #[.int .u8 3,.string ⟨#[]⟩,.string ⟨#[]⟩,.string ⟨#[]⟩,.int .u8 0,.string ⟨#[]⟩,.string ⟨#[]⟩,.int .i64 0,.slice none 0 0,.int .i64 0,.slice none 0 0,.slice none 0 0]):=Z9 HK2.out;have HV4:Hid (Kp w.heap.size u2 u2):=Z9 (Kp.refl w.heap.size u2)
 have HS3:Hid ((u2.alloc (.cells #[.string ⟨#[123]⟩] 9)).cell? ⟨u2.heap.size,0,none⟩=some (.string ⟨#[123]⟩)):=Z9 (by
  have:=zfc (u:=u2) (s:=⟨#[123]⟩)
  simpa only [World.size_alloc,World.size_setCell]using this)
 go_wp2_with fail;clear y0 y1 y2 y3 y4 y5 y6 y7 y8 y9 ya yb fz zb;refine(HMU5.out _ _ _ r (HE4.out.alloc (.cells #[.string ⟨#[123]⟩] 9)).rd HS3.out).mono ?_;change ∀e u',zaf zhh rb _ (tEat 5 [123] r) e u'→_
 cases ZP:tEat 5 [123] r with
 |no lq =>
  rintro e u ⟨rfl,hr,hg⟩;exact⟨rfl,zal (l:=lq) (by rw[HGR.out];simp only[zfs,ZP,Rd.bind_no]) ⟨rfl,hr,((HE4.out.alloc (.cells #[.string ⟨#[123]⟩] 9)).call hg hr).grown⟩⟩
 |ok r3 l3 =>
  rintro e u3 ⟨v3,rfl,rfl,hr,hg⟩;have HK3:=Z9 ((HE4.out.alloc (.cells #[.string ⟨#[123]⟩] 9)).call hg hr);have HQ3:=Z9 ZP;have HLB3:=Z9 (Nat.lt_of_lt_of_le (HE4.out.alloc (.cells #[.string ⟨#[123]⟩] 9)).blt (Nat.le_refl _));have XR:=(zar 5 [123] r).lt ZP;clear hr hg ZP;obtain⟨y0,y1,y2,y3,y4,y5,y6,y7,y8,y9,ya,yb⟩:=ccs HK3.out.box;have fz:∀i,u3.frozen? ⟨w.heap.size,i,none⟩=false:=HK3.out.frozen
  have zb:=HK3.out.blt;have HE6:Hid (KAt rb w.heap.size w u3 l3 #[.int .u8 3,.string ⟨#[]⟩,.string ⟨#[]⟩,.string ⟨#[]⟩,.int .u8 0,.string ⟨#[]⟩,.string ⟨#[]⟩,.int .i64 0,.slice none 0 0,.int .i64 0,.slice none 0 0,.slice none 0 0]):=Z9 HK3.out;have HV6:Hid (Kp w.heap.size u3 u3):=Z9 (Kp.refl w.heap.size u3);go_wp2_with fail;clear y0 y1 y2 y3 y4 y5 y6 y7 y8 y9 ya yb fz zb;refine(HCC.out _ l3 HE6.out.rd (by omega)).mono ?_
  cases Zl:C l3 with
  |no lq =>
   rintro e u ⟨rfl,hr,hg⟩;exact⟨rfl,zal (l:=lq) (by rw[HGR.out];simp only[zfs,HQ3.out,Zl,Rd.bind_ok,Rd.bind_no]) ⟨rfl,hr,(HE6.out.call hg hr).grown⟩⟩
  |ok r5 l5 =>
   rintro e u5 ⟨v5,rfl,⟨n5,ea5,el5,ec5,da5,dl5,dc5,a5,len5,cap5,Vz,hx⟩,hr,hg⟩;change v5=.agg #[.int .u8 r5.kind,.string r5.frm,.string r5.too,.string r5.name,.int .u8 r5.expr.kind,.string r5.expr.rat,.string r5.expr.name,.int .i64 r5.expr.date,.slice ea5 el5 ec5,.int .i64 r5.date,.slice da5 dl5 dc5,.slice a5 len5 cap5]at Vz;subst Vz;have HK5:=Z9 (HE6.out.call hg hr);have HQ5:=Z9 Zl;have HLB5:=Z9 (Nat.lt_of_lt_of_le HE6.out.blt (Nat.le_refl _));have hl5:=(cC l3).lt Zl;have HXA5:=Z9 hx;have HPA5:=Z9 (Kp.refl w.heap.size u5);clear hr hg hx Zl;obtain⟨y0,y1,y2,y3,y4,y5,y6,y7,y8,y9,ya,yb⟩:=ccs HK5.out.box
   have fz:∀i,u5.frozen? ⟨w.heap.size,i,none⟩=false:=HK5.out.frozen
   have zb:=HK5.out.blt;have HE8:Hid (KAt rb w.heap.size w u5 l5 #[.int .u8 3,.string ⟨#[]⟩,.string ⟨#[]⟩,.string ⟨#[]⟩,.int .u8 0,.string ⟨#[]⟩,.string ⟨#[]⟩,.int .i64 0,.slice none 0 0,.int .i64 0,.slice none 0 0,.slice none 0 0]):=Z9 HK5.out;have HV8:Hid (Kp w.heap.size u5 u5):=Z9 (Kp.refl w.heap.size u5)
   have HS7:Hid (((u5.alloc (.cells #[.int .u8 r5.kind,.string r5.frm,.string r5.too,.string r5.name,.int .u8 r5.expr.kind,.string r5.expr.rat,.string r5.expr.name,.int .i64 r5.expr.date,.slice ea5 el5 ec5,.int .i64 r5.date,.slice da5 dl5 dc5,.slice a5 len5 cap5] 40)).alloc (.cells #[.string ⟨#[59]⟩] 9)).cell? ⟨u5.heap.size+1,0,none⟩=some (.string ⟨#[59]⟩)):=Z9 (by
    have:=zfc (u:=(u5.alloc (.cells #[.int .u8 r5.kind,.string r5.frm,.string r5.too,.string r5.name,.int .u8 r5.expr.kind,.string r5.expr.rat,.string r5.expr.name,.int .i64 r5.expr.date,.slice ea5 el5 ec5,.int .i64 r5.date,.slice da5 dl5 dc5,.slice a5 len5 cap5] 40))) (s:=⟨#[59]⟩)
    simpa only [World.size_alloc,World.size_setCell]using this)
   go_wp2_with fail;clear y0 y1 y2 y3 y4 y5 y6 y7 y8 y9 ya yb fz zb;refine(HMU5.out _ _ _ l5 ((HE8.out.alloc (.cells #[.int .u8 r5.kind,.string r5.frm,.string r5.too,.string r5.name,.int .u8 r5.expr.kind,.string r5.expr.rat,.string r5.expr.name,.int .i64 r5.expr.date,.slice ea5 el5 ec5,.int .i64 r5.date,.slice da5 dl5 dc5,.slice a5 len5 cap5] 40)).alloc (.cells #[.string ⟨#[59]⟩] 9)).rd HS7.out).mono ?_;change ∀e u',zaf zhh rb _ (tEat 5 [59] l5) e u'→_
   cases YH:tEat 5 [59] l5 with
   |no lq =>
    rintro e u ⟨rfl,hr,hg⟩;exact⟨rfl,zal (l:=lq) (by rw[HGR.out];simp only[zfs,HQ3.out,HQ5.out,YH,Rd.bind_ok,Rd.bind_no]) ⟨rfl,hr,(((HE8.out.alloc (.cells #[.int .u8 r5.kind,.string r5.frm,.string r5.too,.string r5.name,.int .u8 r5.expr.kind,.string r5.expr.rat,.string r5.expr.name,.int .i64 r5.expr.date,.slice ea5 el5 ec5,.int .i64 r5.date,.slice da5 dl5 dc5,.slice a5 len5 cap5] 40)).alloc (.cells #[.string ⟨#[59]⟩] 9)).call hg hr).grown⟩⟩
   |ok r7 l7 =>
    rintro e u7 ⟨v7,rfl,rfl,hr,hg⟩;have HYB7:=Z9 (zaj (zaj (heap_alloc_new u5 (.cells #[.int .u8 r5.kind,.string r5.frm,.string r5.too,.string r5.name,.int .u8 r5.expr.kind,.string r5.expr.rat,.string r5.expr.name,.int .i64 r5.expr.date,.slice ea5 el5 ec5,.int .i64 r5.date,.slice da5 dl5 dc5,.slice a5 len5 cap5] 40)) (World.grownBy_alloc (u5.alloc (.cells #[.int .u8 r5.kind,.string r5.frm,.string r5.too,.string r5.name,.int .u8 r5.expr.kind,.string r5.expr.rat,.string r5.expr.name,.int .i64 r5.expr.date,.slice ea5 el5 ec5,.int .i64 r5.date,.slice da5 dl5 dc5,.slice a5 len5 cap5] 40)) (.cells #[.string ⟨#[59]⟩] 9) (some rb)) (Nat.ne_of_lt HK5.out.rd.lt)) hg (Nat.ne_of_lt HK5.out.rd.lt))
    have HK7:=Z9 (((HE8.out.alloc (.cells #[.int .u8 r5.kind,.string r5.frm,.string r5.too,.string r5.name,.int .u8 r5.expr.kind,.string r5.expr.rat,.string r5.expr.name,.int .i64 r5.expr.date,.slice ea5 el5 ec5,.int .i64 r5.date,.slice da5 dl5 dc5,.slice a5 len5 cap5] 40)).alloc (.cells #[.string ⟨#[59]⟩] 9)).call hg hr);have HQ7:=Z9 YH;have HPA7:=Z9 ((HPA5.out.trans ((HV8.out.trans (Kp.alloc w.heap.size _ (.cells #[.int .u8 r5.kind,.string r5.frm,.string r5.too,.string r5.name,.int .u8 r5.expr.kind,.string r5.expr.rat,.string r5.expr.name,.int .i64 r5.expr.date,.slice ea5 el5 ec5,.int .i64 r5.date,.slice da5 dl5 dc5,.slice a5 len5 cap5] 40))).trans (Kp.alloc w.heap.size _ (.cells #[.string ⟨#[59]⟩] 9)))).trans (Kp.grown hg Z1))
    have HLB7:=Z9 (Nat.lt_of_lt_of_le ((HE8.out.alloc (.cells #[.int .u8 r5.kind,.string r5.frm,.string r5.too,.string r5.name,.int .u8 r5.expr.kind,.string r5.expr.rat,.string r5.expr.name,.int .i64 r5.expr.date,.slice ea5 el5 ec5,.int .i64 r5.date,.slice da5 dl5 dc5,.slice a5 len5 cap5] 40)).alloc (.cells #[.string ⟨#[59]⟩] 9)).blt (Nat.le_refl _));have hl7:=(zar 5 [59] l5).lt YH;clear hr hg YH;obtain⟨y0,y1,y2,y3,y4,y5,y6,y7,y8,y9,ya,yb⟩:=ccs HK7.out.box;have fz:∀i,u7.frozen? ⟨w.heap.size,i,none⟩=false:=HK7.out.frozen
    have zb:=HK7.out.blt;obtain⟨x0,x1,x2,x3,x4,x5,x6,x7,x8,x9,xa,xb⟩:=ccs HYB7.out;have hyl:=(Z8 HYB7.out);have HHC:=Z9 (HCC.out u7.drew l7 (HK7.out.rd.below (Below.refl _ _).drew) (by omega))
    cases YS:C l7 with
    |no lq =>
     have HE:Hid (GR=.no lq):=Z9 (by rw[HGR.out];simp only[zfs,HQ3.out,HQ5.out,HQ7.out,YS,Rd.bind_ok,Rd.bind_no]);rw[YS]at HHC;clear YS;go_wp2_with fail;refine wp_region_any (by kernel_rfl) ?_;change wpAny _ _ _ _ _ _ _ (World.drew _);refine wpAny_take (i:=1) (v := ?_) rfl (by kernel_rfl) (by kernel_rfl) (by kernel_rfl) (fun _ _ _ h=>h) (Or.inl ⟨by rfl,?hyP⟩) ?restP
     case hyP=>(intro w;go_simp<;>with_reducible rfl)
     refine wpAny_ready (rs:=[0,2]) (by kernel_rfl) (by simp) ?_;refine AllReady.cons rfl (fun K hK => ?_) ?_
     ·go_simp
      refine hK _ _ ?_;clear hK K;refine wpAny_ready (rs:=[2]) (by kernel_rfl) (by simp) ?_;refine AllReady.cons rfl (fun K hK => ?_) AllReady.nil;go_simp;refine HHC.out.mono ?_;rintro e v ⟨rfl,hr,hg⟩;exact⟨rfl,zal HE.out ⟨rfl,hr,(HK7.out.call (u':=v) ⟨hg.os,hg.tape,hg.output,hg.size,hg.block⟩ hr).grown⟩⟩
     ·refine AllReady.cons rfl (fun K hK => ?_) AllReady.nil
      go_simp;refine HHC.out.mono ?_;rintro e v ⟨rfl,hr,hg⟩;exact⟨rfl,zal HE.out ⟨rfl,hr,(HK7.out.call (u':=v) ⟨hg.os,hg.tape,hg.output,hg.size,hg.block⟩ hr).grown⟩⟩
    |ok r9 l9 =>
     have HQ9:=Z9 YS;have US:=(cC l7).lt YS;rw[YS]at HHC;clear YS;go_wp2_with fail
     go_region_law (first
      |(go_simp;refine HHC.out.mono ?_;rintro e u9 ⟨v9,rfl,⟨n9,ea9,el9,ec9,da9,dl9,dc9,a9,len9,cap9,hv,hx⟩,hr,hg⟩;change v9=.agg #[.int .u8 r9.kind,.string r9.frm,.string r9.too,.string r9.name,.int .u8 r9.expr.kind,.string r9.expr.rat,.string r9.expr.name,.int .i64 r9.expr.date,.slice ea9 el9 ec9,.int .i64 r9.date,.slice da9 dl9 dc9,.slice a9 len9 cap9]at hv;subst hv;have HXB:=Z9 hx;have HGB:Hid (u7.grownBy u9 (some rb)):=Z9 ⟨hg.os,hg.tape,hg.output,hg.size,hg.block⟩;have HK9:=Z9 (HK7.out.call HGB.out hr);have hyb:=zaj HYB7.out HGB.out (Nat.ne_of_lt HK5.out.rd.lt);obtain⟨t0,t1,t2,t3,t4,t5,t6,t7,t8,t9,ta,tb⟩:=ccs hyb;have hyl2:=(Z8 hyb);obtain⟨p0,p1,p2,p3,p4,p5,p6,p7,p8,p9,pa,pb⟩:=ccs HK9.out.box;have fw:∀i,u9.frozen? ⟨w.heap.size,i,none⟩=false:=HK9.out.frozen;have zbw:=HK9.out.blt;clear hx hr hg hyb))
     all_goals
      clear x0 x1 x2 x3 x4 x5 x6 x7 x8 x9 xa xb hyl y0 y1 y2 y3 y4 y5 y6 y7 y8 y9 ya yb fz zb HHC;have HPA:=Z9 (HPA7.out.trans (Kp.grown HGB.out Z1));have hPP:=(z87 (ze8 HXA5.out (HPA.out.trans (Kp.put w.heap.size _ 11 (.slice (some ⟨u9.heap.size,0,none⟩) 2 2))) HLB5.out) (ze8 HXB.out (Kp.put w.heap.size _ 11 (.slice (some ⟨u9.heap.size,0,none⟩) 2 2)) HK7.out.blt) (by rw[World.size_setCell];exact HK9.out.blt));rw[World.size_setCell]at hPP;have HPP:=Z9 hPP;clear hPP;have HPQ:=Z9 (Kp.refl w.heap.size ((u9.setCell ⟨w.heap.size,11,none⟩ (.slice (some ⟨u9.heap.size,0,none⟩) 2 2)).alloc (.cells #[.int .u8 r5.kind,.string r5.frm,.string r5.too,.string r5.name,.int .u8 r5.expr.kind,.string r5.expr.rat,.string r5.expr.name,.int .i64 r5.expr.date,.slice ea5 el5 ec5,.int .i64 r5.date,.slice da5 dl5 dc5,.slice a5 len5 cap5,.int .u8 r9.kind,.string r9.frm,.string r9.too,.string r9.name,.int .u8 r9.expr.kind,.string r9.expr.rat,.string r9.expr.name,.int .i64 r9.expr.date,.slice ea9 el9 ec9,.int .i64 r9.date,.slice da9 dl9 dc9,.slice a9 len9 cap9] 40)))
      have HE11:Hid (KAt rb w.heap.size w (u9.setCell ⟨w.heap.size,11,none⟩ (.slice (some ⟨u9.heap.size,0,none⟩) 2 2)) l9 #[.int .u8 3,.string ⟨#[]⟩,.string ⟨#[]⟩,.string ⟨#[]⟩,.int .u8 0,.string ⟨#[]⟩,.string ⟨#[]⟩,.int .i64 0,.slice none 0 0,.int .i64 0,.slice none 0 0,.slice (some ⟨u9.heap.size,0,none⟩) 2 2]):=Z9 (HK9.out.put 11 (.slice (some ⟨u9.heap.size,0,none⟩) 2 2));have HV11:Hid (Kp w.heap.size u9 (u9.setCell ⟨w.heap.size,11,none⟩ (.slice (some ⟨u9.heap.size,0,none⟩) 2 2))):=Z9 ((Kp.refl w.heap.size u9).trans (Kp.put w.heap.size _ 11 (.slice (some ⟨u9.heap.size,0,none⟩) 2 2)))
      have HS10:Hid ((((u9.setCell ⟨w.heap.size,11,none⟩ (.slice (some ⟨u9.heap.size,0,none⟩) 2 2)).alloc (.cells #[.int .u8 r5.kind,.string r5.frm,.string r5.too,.string r5.name,.int .u8 r5.expr.kind,.string r5.expr.rat,.string r5.expr.name,.int .i64 r5.expr.date,.slice ea5 el5 ec5,.int .i64 r5.date,.slice da5 dl5 dc5,.slice a5 len5 cap5,.int .u8 r9.kind,.string r9.frm,.string r9.too,.string r9.name,.int .u8 r9.expr.kind,.string r9.expr.rat,.string r9.expr.name,.int .i64 r9.expr.date,.slice ea9 el9 ec9,.int .i64 r9.date,.slice da9 dl9 dc9,.slice a9 len9 cap9] 40)).alloc (.cells #[.string ⟨#[125]⟩] 9)).cell? ⟨u9.heap.size+1,0,none⟩=some (.string ⟨#[125]⟩)):=Z9 (by
       have:=zfc (u:=((u9.setCell ⟨w.heap.size,11,none⟩ (.slice (some ⟨u9.heap.size,0,none⟩) 2 2)).alloc (.cells #[.int .u8 r5.kind,.string r5.frm,.string r5.too,.string r5.name,.int .u8 r5.expr.kind,.string r5.expr.rat,.string r5.expr.name,.int .i64 r5.expr.date,.slice ea5 el5 ec5,.int .i64 r5.date,.slice da5 dl5 dc5,.slice a5 len5 cap5,.int .u8 r9.kind,.string r9.frm,.string r9.too,.string r9.name,.int .u8 r9.expr.kind,.string r9.expr.rat,.string r9.expr.name,.int .i64 r9.expr.date,.slice ea9 el9 ec9,.int .i64 r9.date,.slice da9 dl9 dc9,.slice a9 len9 cap9] 40))) (s:=⟨#[125]⟩)
       simpa only [World.size_alloc,World.size_setCell]using this)
      go_wp2_with fail;clear t0 t1 t2 t3 t4 t5 t6 t7 t8 t9 ta tb p0 p1 p2 p3 p4 p5 p6 p7 p8 p9 pa pb hyl2 fw zbw;refine(HMU5.out _ _ _ l9 ((HE11.out.alloc (.cells #[.int .u8 r5.kind,.string r5.frm,.string r5.too,.string r5.name,.int .u8 r5.expr.kind,.string r5.expr.rat,.string r5.expr.name,.int .i64 r5.expr.date,.slice ea5 el5 ec5,.int .i64 r5.date,.slice da5 dl5 dc5,.slice a5 len5 cap5,.int .u8 r9.kind,.string r9.frm,.string r9.too,.string r9.name,.int .u8 r9.expr.kind,.string r9.expr.rat,.string r9.expr.name,.int .i64 r9.expr.date,.slice ea9 el9 ec9,.int .i64 r9.date,.slice da9 dl9 dc9,.slice a9 len9 cap9] 40)).alloc (.cells #[.string ⟨#[125]⟩] 9)).rd HS10.out).mono ?_
      change ∀e u',zaf zhh rb _ (tEat 5 [125] l9) e u'→_
      cases VP:tEat 5 [125] l9 with
      |no lq =>
       rintro e u ⟨rfl,hr,hg⟩;exact⟨rfl,zal (l:=lq) (by rw[HGR.out];simp only[zfs,HQ3.out,HQ5.out,HQ7.out,HQ9.out,VP,Rd.bind_ok,Rd.bind_no]) ⟨rfl,hr,(((HE11.out.alloc (.cells #[.int .u8 r5.kind,.string r5.frm,.string r5.too,.string r5.name,.int .u8 r5.expr.kind,.string r5.expr.rat,.string r5.expr.name,.int .i64 r5.expr.date,.slice ea5 el5 ec5,.int .i64 r5.date,.slice da5 dl5 dc5,.slice a5 len5 cap5,.int .u8 r9.kind,.string r9.frm,.string r9.too,.string r9.name,.int .u8 r9.expr.kind,.string r9.expr.rat,.string r9.expr.name,.int .i64 r9.expr.date,.slice ea9 el9 ec9,.int .i64 r9.date,.slice da9 dl9 dc9,.slice a9 len9 cap9] 40)).alloc (.cells #[.string ⟨#[125]⟩] 9)).call hg hr).grown⟩⟩
      |ok r10 l10 =>
       rintro e u10 ⟨v10,rfl,rfl,hr,hg⟩;have HK10:=Z9 (((HE11.out.alloc (.cells #[.int .u8 r5.kind,.string r5.frm,.string r5.too,.string r5.name,.int .u8 r5.expr.kind,.string r5.expr.rat,.string r5.expr.name,.int .i64 r5.expr.date,.slice ea5 el5 ec5,.int .i64 r5.date,.slice da5 dl5 dc5,.slice a5 len5 cap5,.int .u8 r9.kind,.string r9.frm,.string r9.too,.string r9.name,.int .u8 r9.expr.kind,.string r9.expr.rat,.string r9.expr.name,.int .i64 r9.expr.date,.slice ea9 el9 ec9,.int .i64 r9.date,.slice da9 dl9 dc9,.slice a9 len9 cap9] 40)).alloc (.cells #[.string ⟨#[125]⟩] 9)).call hg hr);have HQ10:=Z9 VP;have HPP10:=Z9 ((HPQ.out.trans (Kp.alloc w.heap.size _ (.cells #[.string ⟨#[125]⟩] 9))).trans (Kp.grown hg Z1))
       have HLB10:=Z9 (Nat.lt_of_lt_of_le ((HE11.out.alloc (.cells #[.int .u8 r5.kind,.string r5.frm,.string r5.too,.string r5.name,.int .u8 r5.expr.kind,.string r5.expr.rat,.string r5.expr.name,.int .i64 r5.expr.date,.slice ea5 el5 ec5,.int .i64 r5.date,.slice da5 dl5 dc5,.slice a5 len5 cap5,.int .u8 r9.kind,.string r9.frm,.string r9.too,.string r9.name,.int .u8 r9.expr.kind,.string r9.expr.rat,.string r9.expr.name,.int .i64 r9.expr.date,.slice ea9 el9 ec9,.int .i64 r9.date,.slice da9 dl9 dc9,.slice a9 len9 cap9] 40)).alloc (.cells #[.string ⟨#[125]⟩] 9)).blt (Nat.le_refl _));have hl10:=(zar 5 [125] l9).lt VP
       clear hr hg VP;obtain⟨y0,y1,y2,y3,y4,y5,y6,y7,y8,y9,ya,yb⟩:=ccs HK10.out.box;have fz:∀i,u10.frozen? ⟨w.heap.size,i,none⟩=false:=HK10.out.frozen
       have zb:=HK10.out.blt;have HE12:Hid (KAt rb w.heap.size w u10 l10 #[.int .u8 3,.string ⟨#[]⟩,.string ⟨#[]⟩,.string ⟨#[]⟩,.int .u8 0,.string ⟨#[]⟩,.string ⟨#[]⟩,.int .i64 0,.slice none 0 0,.int .i64 0,.slice none 0 0,.slice (some ⟨u9.heap.size,0,none⟩) 2 2]):=Z9 HK10.out;have HV12:Hid (Kp w.heap.size u10 u10):=Z9 (Kp.refl w.heap.size u10);have HFIN:=Z9 (HE12.out.all (.int .u8 3) (.string ⟨#[]⟩) (.string ⟨#[]⟩) (.string ⟨#[]⟩) (.int .u8 0) (.string ⟨#[]⟩) (.string ⟨#[]⟩) (.int .i64 0) (.slice none 0 0) (.int .i64 0) (.slice none 0 0) (.slice (some ⟨u9.heap.size,0,none⟩) 2 2));have HGE:Hid (GR=.ok (.mk 3 tE0 tE0 tE0 tX0 0 [] [r5,r9]) l10):=Z9 (by rw[HGR.out];simp only[zfs,HQ3.out,HQ5.out,HQ7.out,HQ9.out,HQ10.out,Rd.bind_ok])
       go_wp2_with fail;clear y0 y1 y2 y3 y4 y5 y6 y7 y8 y9 ya yb fz zb;obtain⟨hK,hP⟩:=HFIN.out;change bodyPost _ _ _ _ _ (zan u10 w.heap.size (.int .u8 3) (.string ⟨#[]⟩) (.string ⟨#[]⟩) (.string ⟨#[]⟩) (.int .u8 0) (.string ⟨#[]⟩) (.string ⟨#[]⟩) (.int .i64 0) (.slice none 0 0) (.int .i64 0) (.slice none 0 0) (.slice (some ⟨u9.heap.size,0,none⟩) 2 2));obtain⟨q0,q1,q2,q3,q4,q5,q6,q7,q8,q9,qa,qb⟩:=ccs hK.box;have YT:=(HV12.out.trans hP);obtain⟨FW,YC⟩:∃FW,FW=(zan u10 w.heap.size (.int .u8 3) (.string ⟨#[]⟩) (.string ⟨#[]⟩) (.string ⟨#[]⟩) (.int .u8 0) (.string ⟨#[]⟩) (.string ⟨#[]⟩) (.int .i64 0) (.slice none 0 0) (.int .i64 0) (.slice none 0 0) (.slice (some ⟨u9.heap.size,0,none⟩) 2 2)):=⟨_,rfl⟩
       have he:ExOn (fun g=>w.heap.size<g∧g<(zan u10 w.heap.size (.int .u8 3) (.string ⟨#[]⟩) (.string ⟨#[]⟩) (.string ⟨#[]⟩) (.int .u8 0) (.string ⟨#[]⟩) (.string ⟨#[]⟩) (.int .i64 0) (.slice none 0 0) (.int .i64 0) (.slice none 0 0) (.slice (some ⟨u9.heap.size,0,none⟩) 2 2)).heap.size) 1 (zan u10 w.heap.size (.int .u8 3) (.string ⟨#[]⟩) (.string ⟨#[]⟩) (.string ⟨#[]⟩) (.int .u8 0) (.string ⟨#[]⟩) (.string ⟨#[]⟩) (.int .i64 0) (.slice none 0 0) (.int .i64 0) (.slice none 0 0) (.slice (some ⟨u9.heap.size,0,none⟩) 2 2)) [.int .u8 0,.string ⟨#[]⟩,.string ⟨#[]⟩,.int .i64 0,.slice none 0 0] tX0:=zc9 _ _ _ _ _ _
       have hd:zf8 (fun g=>w.heap.size<g∧g<(zan u10 w.heap.size (.int .u8 3) (.string ⟨#[]⟩) (.string ⟨#[]⟩) (.string ⟨#[]⟩) (.int .u8 0) (.string ⟨#[]⟩) (.string ⟨#[]⟩) (.int .i64 0) (.slice none 0 0) (.int .i64 0) (.slice none 0 0) (.slice (some ⟨u9.heap.size,0,none⟩) 2 2)).heap.size) (zan u10 w.heap.size (.int .u8 3) (.string ⟨#[]⟩) (.string ⟨#[]⟩) (.string ⟨#[]⟩) (.int .u8 0) (.string ⟨#[]⟩) (.string ⟨#[]⟩) (.int .i64 0) (.slice none 0 0) (.int .i64 0) (.slice none 0 0) (.slice (some ⟨u9.heap.size,0,none⟩) 2 2)) none 0 []:=⟨rfl,.inl rfl⟩;have hs:=znd HPP.out (HPP10.out.trans YT);exact bodyPost_ret (v:=.agg #[.int .u8 3,.string ⟨#[]⟩,.string ⟨#[]⟩,.string ⟨#[]⟩,.int .u8 0,.string ⟨#[]⟩,.string ⟨#[]⟩,.int .i64 0,.slice none 0 0,.int .i64 0,.slice none 0 0,.slice (some ⟨u9.heap.size,0,none⟩) 2 2]) (by simp only[results,Tryz.results78];simp[go_sem,q0,q1,q2,q3,q4,q5,q6,q7,q8,q9,qa,qb]) rfl (zbl HGE.out ⟨_,rfl,⟨max 1 (max n5 n9)+1,none,0,0,none,0,0,(some ⟨u9.heap.size,0,none⟩),2,2,rfl,(ze7 (x:=(.mk 3 tE0 tE0 tE0 tX0 0 [] [r5,r9])) (k:=max 1 (max n5 n9)) he hd hs (by omega) (by omega)).mono fun g ⟨h1,h2⟩=>⟨Nat.le_of_lt h1,h2⟩⟩,hK.rd,hK.grown⟩)
theorem z77{S:ByteArray}(h:∀b ∈ [[110,111,116,104,105,110,103],[98,111,116,104],[115,99,97,108,101],[105,102],[111,110],[99,104,111,105,99,101],[99,97,108,108],[117,110,116,105,108],[119,104,101,110]],¬S.data.toList=b):Instr.findNow .string (.string S) tcEs.toList 0=some none:=by
 have e:∀b ∈ [[110,111,116,104,105,110,103],[98,111,116,104],[115,99,97,108,101],[105,102],[111,110],[99,104,111,105,99,101],[99,97,108,108],[117,110,116,105,108],[119,104,101,110]],(S == (⟨List.toArray b⟩:ByteArray))=false:=fun b hb=>by
  cases hq:S == (⟨List.toArray b⟩:ByteArray)with
  |false=>rfl
  |true =>
   change (S.data == List.toArray b)=true at hq;exact absurd (congrArg Array.toList (eq_of_beq hq)) (h b hb)
 have e0:(S == (⟨#[110,111,116,104,105,110,103]⟩:ByteArray))=false:=e [110,111,116,104,105,110,103] (by simp);have e1:(S == (⟨#[98,111,116,104]⟩:ByteArray))=false:=e [98,111,116,104] (by simp);have e2:(S == (⟨#[115,99,97,108,101]⟩:ByteArray))=false:=e [115,99,97,108,101] (by simp);have e3:(S == (⟨#[105,102]⟩:ByteArray))=false:=e [105,102] (by simp);have e4:(S == (⟨#[111,110]⟩:ByteArray))=false:=e [111,110] (by simp);have e5:(S == (⟨#[99,104,111,105,99,101]⟩:ByteArray))=false:=e [99,104,111,105,99,101] (by simp);have e6:(S == (⟨#[99,97,108,108]⟩:ByteArray))=false:=e [99,97,108,108] (by simp);have e7:(S == (⟨#[117,110,116,105,108]⟩:ByteArray))=false:=e [117,110,116,105,108] (by simp)
 have e8:(S == (⟨#[119,104,101,110]⟩:ByteArray))=false:=e [119,104,101,110] (by simp)
 show Instr.findNow .string (.string S) [⟨.string ⟨#[110,111,116,104,105,110,103]⟩,.int .u8 1,0⟩,⟨.string ⟨#[98,111,116,104]⟩,.int .u8 3,1⟩,⟨.string ⟨#[115,99,97,108,101]⟩,.int .u8 4,2⟩,⟨.string ⟨#[105,102]⟩,.int .u8 5,3⟩,⟨.string ⟨#[111,110]⟩,.int .u8 6,4⟩,⟨.string ⟨#[99,104,111,105,99,101]⟩,.int .u8 7,5⟩,⟨.string ⟨#[99,97,108,108]⟩,.int .u8 8,6⟩,⟨.string ⟨#[117,110,116,105,108]⟩,.int .u8 9,7⟩,⟨.string ⟨#[119,104,101,110]⟩,.int .u8 10,8⟩] 0=some none
 simp only[Instr.findNow,zs0,e0,e1,e2,e3,e4,e5,e6,e7,e8]
theorem z5d{rb:Nat}(w:World)(l:List Tk)(h:RAt rb w l)(h0:¬zap l=[])(hn:∀b ∈ [[110,111,116,104,105,110,103],[98,111,116,104],[115,99,97,108,101],[105,102],[111,110],[99,104,111,105,99,101],[99,97,108,108],[117,110,116,105,108],[119,104,101,110]],¬zap l=b) :
 Calls Tryz.prog 78 #[.pointer (some ⟨rb,0,none⟩)] w (zaf (VCt w.heap.size) rb w (.no l)):=by
 have HHD:=Z9 (fun W (hW:RAt rb W l)=>za1 rb W l hW);have XC:Instr.findNow .string (.string (zfb l)) tcEs.toList 0=some none:=z77 (fun b hb=>by rw[zfq];exact hn b hb);have d0:=zct h0;obtain⟨S,hS⟩:∃S,S=zfb l:=⟨_,rfl⟩
 rw[←hS]at HHD XC d0;have HSTOP:=Z9 (fun W=>zg2 rb W);have HK0:=Z9 (KAt.start h #[.int .u8 0,.string ⟨#[]⟩,.string ⟨#[]⟩,.string ⟨#[]⟩,.int .u8 0,.string ⟨#[]⟩,.string ⟨#[]⟩,.int .i64 0,.slice none 0 0,.int .i64 0,.slice none 0 0,.slice none 0 0]);have HFN:=Z9 XC;clear h hn hS XC h0;have Yg:=@run_makeMap Tryz.prog;go_enter Tryz.func78,Tryz.ntmps78;go_wp2_with fail;refine(HHD.out _ HK0.out.rd).mono ?_;rintro e u ⟨rfl,hb⟩;have HKA:=Z9 (HK0.out.below hb);clear hb;obtain⟨i0,i1,i2,i3,i4,i5,i6,i7,i8⟩:=ze4 u;have L0:(Instr.lookup 138 (.map (some u.heap.size)) (.string S) false).run Tryz.prog (u.alloc (.map tcEs 9))=.ok (.int .u8 0) (u.alloc (.map tcEs 9)):=zhi (heap_alloc_new _ _) HFN.out
 have HK1:Hid (KAt rb w.heap.size w ((u.setCell ⟨w.heap.size,0,none⟩ (.int .u8 0)).alloc (.map tcEs 9)) l #[.int .u8 0,.string ⟨#[]⟩,.string ⟨#[]⟩,.string ⟨#[]⟩,.int .u8 0,.string ⟨#[]⟩,.string ⟨#[]⟩,.int .i64 0,.slice none 0 0,.int .i64 0,.slice none 0 0,.slice none 0 0]):=Z9 ((HKA.out.put 0 (.int .u8 0)).alloc _);obtain⟨y0,y1,y2,y3,y4,y5,y6,y7,y8,y9,ya,yb⟩:=ccs HKA.out.box;have fz:∀i,u.frozen? ⟨w.heap.size,i,none⟩=false:=HKA.out.frozen
 have zb:=HKA.out.blt;go_wp2_with fail;refine(HSTOP.out _).mono ?_;rintro e u2 ⟨rfl,rfl⟩;exact⟨rfl,rfl,HK1.out.rd,HK1.out.grown⟩
theorem yau{rb n0:Nat}(S T:RdX)(C:RdC)(N:Nat)(hp:zd9 rb (n0+1) S T)(cS:∀l,(S l).Cons l)(cT:∀l,(T l).Cons l)(hC:ConC rb n0 C)(cC:∀l,(C l).Cons l)(w:World)(l:List Tk)(h:RAt rb w l)(hl:l.length≤n0)(hN:l.length≤N)(YQ:N≤100000) :
 Calls Tryz.prog 78 #[.pointer (some ⟨rb,0,none⟩)] w (zaf (VCt w.heap.size) rb w (tCon S T C N l)):=by
 unfold tCon
 by_cases h0:zap l=[]
 ·rw[if_pos h0];exact yat S T C N hp cS cT hC cC w l h hl hN YQ h0
 rw[if_neg h0]
 by_cases h1:zap l=[110,111,116,104,105,110,103]
 ·rw[if_pos h1];exact zr3 S T C N hp cS cT hC cC w l h hl hN YQ h1
 rw[if_neg h1]
 by_cases h2:zap l=[98,111,116,104]
 ·rw[if_pos h2];exact z5f S T C N hp cS cT hC cC w l h hl hN YQ h2
 rw[if_neg h2]
 by_cases h3:zap l=[115,99,97,108,101]
 ·rw[if_pos h3];exact z0g S T C N hp cS cT hC cC w l h hl hN YQ h3
 rw[if_neg h3]
 by_cases h4:zap l=[105,102]
 ·rw[if_pos h4];exact ycy S T C N hp cS cT hC cC w l h hl hN YQ h4
 rw[if_neg h4]
 by_cases h5:zap l=[111,110]
 ·rw[if_pos h5];exact ycx S T C N hp cS cT hC cC w l h hl hN YQ h5
 rw[if_neg h5]
 by_cases h6:zap l=[99,104,111,105,99,101]
 ·rw[if_pos h6];exact zvp S T C N hp cS cT hC cC w l h hl hN YQ h6
 rw[if_neg h6]
 by_cases h7:zap l=[99,97,108,108]
 ·rw[if_pos h7];exact z5e S T C N hp cS cT hC cC w l h hl hN YQ h7
 rw[if_neg h7]
 by_cases h8:zap l=[117,110,116,105,108]
 ·rw[if_pos h8];exact z0f S T C N hp cS cT hC cC w l h hl hN YQ h8
 rw[if_neg h8]
 by_cases h9:zap l=[119,104,101,110]
 ·rw[if_pos h9];exact z5c S T C N hp cS cT hC cC w l h hl hN YQ h9
 rw[if_neg h9]
 exact z5d w l h h0 (by
  intro b hb;simp only[List.mem_cons,List.not_mem_nil,or_false]at hb
  rcases hb with rfl |rfl |rfl |rfl |rfl |rfl |rfl |rfl |rfl
  ·exact h1
  ·exact h2
  ·exact h3
  ·exact h4
  ·exact h5
  ·exact h6
  ·exact h7
  ·exact h8
  ·exact h9)
theorem z0h(rb:Nat):∀n,n≤100000→ConC rb n (rdC n)
 |0,_=>fun W l h hl=>absurd hl (Nat.not_lt_zero _)
 |n+1,hn=>fun W l h hl=>by
  have ih:=z0h rb n (by omega);exact yau (rdE (n+1) true) (rdE (n+1) false) (rdC n) (n+1) (znm rb (n+1)) (zbi _ true) (zbi _ false) ih (znk n) W l h (by omega) (by omega) hn
structure ClAt(rb bt ba be br:Nat)(s:ByteArray)(a e:Int)(w:World)(l:List Tk):Prop where
 rd:RAt rb w l
 text:Boxed w bt 9 (.string s)
 at_:Boxed w ba 3 (.int .i64 a)
 err:Boxed w be 28 (.int .i64 e)
 ptr:Boxed w br 91 (.pointer (some ⟨rb,0,none⟩))
 ne:ba≠be
 na:ba<rb∧be<rb
def zga(l:List Tk)(a e:Int):Int × Int:=match l with | []=>(a,e) |t :: _=>(t.place,12)
def Kp2(ba be:Nat)(w w':World):Prop:=w'.os=w.os∧w'.tape=w.tape∧w'.output=w.output∧w.heap.size≤w'.heap.size∧∀k,k<w.heap.size→k≠ba→k≠be→w'.heap[k]?=w.heap[k]?
theorem Kp2.refl(ba be:Nat)(w:World):Kp2 ba be w w:=⟨rfl,rfl,rfl,Nat.le_refl _,fun _ _ _ _=>rfl⟩
theorem Kp2.put{ba be:Nat}{w w':World}(h:Kp2 ba be w w')(b:Nat)(hb:b=ba∨b=be)(v:Value):Kp2 ba be w (w'.setCell ⟨b,0,none⟩ v) :=
 ⟨h.1,h.2.1,h.2.2.1,by simpa[World.setCell]using h.2.2.2.1,fun k hk h1 h2=>(Below.heap_setCell _ _ _ _ (by show k≠b;rcases hb with rfl |rfl<;>assumption)).trans (h.2.2.2.2 k hk h1 h2)⟩
theorem Kp2.alloc{ba be:Nat}{w w':World}(h:Kp2 ba be w w')(o:Obj):Kp2 ba be w (w'.alloc o) :=
 ⟨h.1,h.2.1,h.2.2.1,by have:=h.2.2.2.1;simp;omega,fun k hk h1 h2=>(Below.heap_alloc _ _ _ (Nat.lt_of_lt_of_le hk h.2.2.2.1)).trans (h.2.2.2.2 k hk h1 h2)⟩
theorem ztx{w:World}{b c:Nat}{t u:TypeId}{v x:Value}(h:Boxed w b t v)(k:Boxed w c u x)(Tb:t≠u):b≠c:=fun e=>by
 subst e;have:=h.symm.trans k;simp at this;exact Tb this.2
theorem zmy{w:World}{b g o:Nat}{t:TypeId}{a k:Int}(h:Boxed w b t (.int .i64 a))(hc:w.cell? ⟨g,o,none⟩=some (.int .u8 k)):g≠b:=fun e=>by
 subst e;rw[show w.cell? ⟨g,o,none⟩=(#[Value.int .i64 a]:Array Value)[o]? by simp[World.cell?,show w.heap[g]?=_ from h]]at hc
 match o,hc with
 |0,hc=>simp at hc
 |o+1,hc=>simp at hc
def yc6(ba be:Nat)(w w':World)(p:Int × Int):Prop:=Boxed w' ba 3 (.int .i64 p.1)∧Boxed w' be 28 (.int .i64 p.2)∧Kp2 ba be w w'
theorem z0k{rb bt ba be br:Nat}{s:ByteArray}{a e:Int}{w:World}{l:List Tk}(h:ClAt rb bt ba be br s a e w l) :
 CallsD Tryz.prog 109 #[.pointer (some ⟨bt,0,none⟩),.pointer (some ⟨ba,0,none⟩),.pointer (some ⟨be,0,none⟩),.pointer (some ⟨br,0,none⟩)] (.returning) w (fun en u' w'=>en=.returned (.tuple #[])∧u'=.returning∧yc6 ba be w w' (zga l (a) (e))):=by
 have hta:∀W,(Instr.typeAssert (.iface 136 (.agg #[])) 20 136 true).run Tryz.prog W=.ok (.tuple #[.agg #[],.bool true]) W:=fun _=>by kernel_rfl
 have t0:=h.text.cell;have p0:=h.ptr.cell;have a0:=h.at_.cell;have af:=h.at_.frozen;have e0:=h.err.cell;have ef:=h.err.frozen;have Z0:=h.ne;have Xd:=h.na.1;have Zo:=h.na.2;have nra:rb≠ba:=by omega
 have nrb:rb≠be:=by omega
 have npa:br≠ba:=ztx h.ptr h.at_ (by decide);have npb:br≠be:=ztx h.ptr h.err (by decide);have hal:=h.at_.lt;have Zq:=h.err.lt;have XL:=h.ptr.lt;have htl:=h.text.lt;have hrl:=h.rd.lt;have HH:=Z9 h
 have fin:∀{fn:Func}{R:Ending→FrameMode→World→Prop}{tm:Array Value}{cs:List Frame}{c₀:Frame}{u':FrameMode}{w':World},fn.results=#[]→R (.returned (.tuple #[])) u' w'→c₀.mode=u'→bodyPostS Tryz.prog fn c₀ cs R .normal ⟨tm,[]⟩ (c₀ :: cs) w':=by
  intro fn R tm cs c₀ u' w' hr h1 hu;exact⟨rfl,u',by cases c₀;simp_all,_,results_none hr _ _ _,h1⟩
 have fin2:∀{fn:Func}{R:Ending→FrameMode→World→Prop}{tm:Array Value}{cs:List Frame}{c₀:Frame}{u':FrameMode}{w':World},fn.results=#[]→R (.returned (.tuple #[])) u' w'→bodyPostS Tryz.prog fn c₀ cs R .normal ⟨tm,[]⟩ ({ c₀ with mode:=u' } :: cs) w':=by
  intro fn R tm cs c₀ u' w' hr h1;exact⟨rfl,u',rfl,_,results_none hr _ _ _,h1⟩
 cases l with
 |nil =>
  obtain⟨g1,cap,hb⟩:=h.rd.nil;have r0:=hb.cell;clear h hb
  refine callsD_of_wpS Tryz.func109 rfl fun c₀ cs hu => ?_
  simp only[Tryz.ntmps109,List.size_toArray,List.length_cons,List.length_nil,Nat.reduceAdd,Nat.reduceSub,Array.replicate_succ,Array.replicate_zero,List.push_toArray,List.append_toArray,List.nil_append,List.cons_append];apply wpS_seq;apply wpS_seq;apply wpS_region;simp[wpOpsS,go_sem,recoverD,hu,Exit.thenS];apply wpS_seq;apply wpS_region;simp[wpOpsS,go_sem,Exit.thenS];refine wpS_cond (t:=false) (by simp[Act.eval]) ?_;simp only[Bool.false_eq_true,if_false];refine wpS_of_wp (wp_skip ?_)
  show Code.wpS _ _ _ _ _ _
  refine wpS_of_wp ?_;go_wp2_with fail;exact fin rfl ⟨rfl,rfl,HH.out.at_,HH.out.err,Kp2.refl _ _ _⟩ hu
 |cons t l =>
  obtain⟨g,o,cap,hb,hc,hm,Z5,hg,Z4,_⟩:=h.rd.head;have r0:=hb.cell;obtain⟨c0,_,_,_,c4⟩:=zfp Z5;have nga:g≠ba:=zmy h.at_ c0;have ngb:g≠be:=zmy h.err c0;have hl:(0:Int)<((l.length+1:Nat):Int):=by omega
  have hl0:0<l.length+1:=by omega
  obtain⟨n,hn⟩:∃n,n=l.length+1:=⟨_,rfl⟩
  rw[←hn]at r0 hl hl0 hc;clear h hb Z5 hn
  refine callsD_of_wpS Tryz.func109 rfl fun c₀ cs hu => ?_
  simp only[Tryz.ntmps109,List.size_toArray,List.length_cons,List.length_nil,Nat.reduceAdd,Nat.reduceSub,Array.replicate_succ,Array.replicate_zero,List.push_toArray,List.append_toArray,List.nil_append,List.cons_append];apply wpS_seq;apply wpS_seq;apply wpS_region;simp[wpOpsS,go_sem,recoverD,hu,Exit.thenS];apply wpS_seq;apply wpS_region;simp[wpOpsS,go_sem,Exit.thenS];refine wpS_cond (t:=false) (by simp[Act.eval]) ?_;simp only[Bool.false_eq_true,if_false];refine wpS_of_wp (wp_skip ?_)
  show Code.wpS _ _ _ _ _ _
  refine wpS_of_wp ?_;go_wp2_with fail;exact fin rfl ⟨rfl,rfl,(HH.out.at_.set _).other Z0 _,(HH.out.err.other Z0.symm _).set _,((Kp2.refl ba be w).put ba (.inl rfl) _).put be (.inr rfl) _⟩ hu
theorem z0l{rb bt ba be br:Nat}{s:ByteArray}{a e:Int}{w:World}{l:List Tk}(older:List PanicEntry)(h:ClAt rb bt ba be br s a e w l) :
 CallsD Tryz.prog 109 #[.pointer (some ⟨bt,0,none⟩),.pointer (some ⟨ba,0,none⟩),.pointer (some ⟨be,0,none⟩),.pointer (some ⟨br,0,none⟩)] (.panicking ({ v:=.iface 136 (.agg #[]),recovered:=false } :: older)) w (fun en u' w'=>en=.returned (.tuple #[])∧u'=.panicking ({ v:=.iface 136 (.agg #[]),recovered:=true } :: older)∧yc6 ba be w w' (zga l ((s.size:Int)) (12))):=by
 have hta:∀W,(Instr.typeAssert (.iface 136 (.agg #[])) 20 136 true).run Tryz.prog W=.ok (.tuple #[.agg #[],.bool true]) W:=fun _=>by kernel_rfl
 have t0:=h.text.cell;have p0:=h.ptr.cell;have a0:=h.at_.cell;have af:=h.at_.frozen;have e0:=h.err.cell;have ef:=h.err.frozen;have Z0:=h.ne;have Xd:=h.na.1;have Zo:=h.na.2;have nra:rb≠ba:=by omega
 have nrb:rb≠be:=by omega
 have npa:br≠ba:=ztx h.ptr h.at_ (by decide);have npb:br≠be:=ztx h.ptr h.err (by decide);have hal:=h.at_.lt;have Zq:=h.err.lt;have XL:=h.ptr.lt;have htl:=h.text.lt;have hrl:=h.rd.lt;have HH:=Z9 h
 have fin:∀{fn:Func}{R:Ending→FrameMode→World→Prop}{tm:Array Value}{cs:List Frame}{c₀:Frame}{u':FrameMode}{w':World},fn.results=#[]→R (.returned (.tuple #[])) u' w'→c₀.mode=u'→bodyPostS Tryz.prog fn c₀ cs R .normal ⟨tm,[]⟩ (c₀ :: cs) w':=by
  intro fn R tm cs c₀ u' w' hr h1 hu;exact⟨rfl,u',by cases c₀;simp_all,_,results_none hr _ _ _,h1⟩
 have fin2:∀{fn:Func}{R:Ending→FrameMode→World→Prop}{tm:Array Value}{cs:List Frame}{c₀:Frame}{u':FrameMode}{w':World},fn.results=#[]→R (.returned (.tuple #[])) u' w'→bodyPostS Tryz.prog fn c₀ cs R .normal ⟨tm,[]⟩ ({ c₀ with mode:=u' } :: cs) w':=by
  intro fn R tm cs c₀ u' w' hr h1;exact⟨rfl,u',rfl,_,results_none hr _ _ _,h1⟩
 cases l with
 |nil =>
  obtain⟨g1,cap,hb⟩:=h.rd.nil;have r0:=hb.cell;clear h hb
  refine callsD_of_wpS Tryz.func109 rfl fun c₀ cs hu => ?_
  simp only[Tryz.ntmps109,List.size_toArray,List.length_cons,List.length_nil,Nat.reduceAdd,Nat.reduceSub,Array.replicate_succ,Array.replicate_zero,List.push_toArray,List.append_toArray,List.nil_append,List.cons_append];apply wpS_seq;apply wpS_seq;apply wpS_region;simp[wpOpsS,go_sem,recoverD,hu,Exit.thenS];apply wpS_seq;apply wpS_region;simp[wpOpsS,go_sem,Exit.thenS];refine wpS_cond (t:=true) (by simp[Act.eval]) ?_;simp only[if_true];refine wpS_of_wp ?_;go_wp2_with fail
  show Code.wpS _ _ _ _ _ _
  refine wpS_of_wp ?_;go_wp2_with fail;exact fin2 rfl ⟨rfl,rfl,((HH.out.at_.set _).other Z0 _).alloc _,((HH.out.err.other Z0.symm _).set _).alloc _,(((Kp2.refl ba be w).put ba (.inl rfl) _).put be (.inr rfl) _).alloc _⟩
 |cons t l =>
  obtain⟨g,o,cap,hb,hc,hm,Z5,hg,Z4,_⟩:=h.rd.head;have r0:=hb.cell;obtain⟨c0,_,_,_,c4⟩:=zfp Z5;have nga:g≠ba:=zmy h.at_ c0;have ngb:g≠be:=zmy h.err c0;have hl:(0:Int)<((l.length+1:Nat):Int):=by omega
  have hl0:0<l.length+1:=by omega
  obtain⟨n,hn⟩:∃n,n=l.length+1:=⟨_,rfl⟩
  rw[←hn]at r0 hl hl0 hc;clear h hb Z5 hn
  refine callsD_of_wpS Tryz.func109 rfl fun c₀ cs hu => ?_
  simp only[Tryz.ntmps109,List.size_toArray,List.length_cons,List.length_nil,Nat.reduceAdd,Nat.reduceSub,Array.replicate_succ,Array.replicate_zero,List.push_toArray,List.append_toArray,List.nil_append,List.cons_append];apply wpS_seq;apply wpS_seq;apply wpS_region;simp[wpOpsS,go_sem,recoverD,hu,Exit.thenS];apply wpS_seq;apply wpS_region;simp[wpOpsS,go_sem,Exit.thenS];refine wpS_cond (t:=true) (by simp[Act.eval]) ?_;simp only[if_true];refine wpS_of_wp ?_;go_wp2_with fail
  show Code.wpS _ _ _ _ _ _
  refine wpS_of_wp ?_;go_wp2_with fail;exact fin2 rfl ⟨rfl,rfl,((((HH.out.at_.set _).other Z0 _).set _).other Z0 _).alloc _,((((HH.out.err.other Z0.symm _).set _).other Z0.symm _).set _).alloc _,(((((Kp2.refl ba be w).put ba (.inl rfl) _).put be (.inr rfl) _).put ba (.inl rfl) _).put be (.inr rfl) _).alloc _⟩
def numV(l:List UInt8):Nat:=l.foldl (fun n c=>10*n+(c.toNat-48)) 0
theorem zei(l:List UInt8)(c:UInt8):numV (l ++ [c])=10*numV l+(c.toNat-48):=by unfold numV;rw[List.foldl_append];rfl
theorem zgl(l:List UInt8)(h:∀c ∈ l,48≤c.toNat∧c.toNat≤57):numV l<10 ^ l.length:=by
 have key:∀m:List UInt8,(∀c ∈ m.reverse,48≤c.toNat∧c.toNat≤57)→numV m.reverse<10 ^ m.length:=by
  intro m
  induction m with
  |nil=>intro _;decide
  |cons a m ih =>
   intro h;rw[List.reverse_cons]at h ⊢;rw[zei,List.length_cons,Nat.pow_succ];have a1:=ih (fun c hc=>h c (List.mem_append_left _ hc));have a2:=h a (by simp);omega
 have:=key l.reverse (by simpa using h);simpa using this
def NuR(s:ByteArray)(nv iv:Value):Prop:=∃k:Nat,k≤s.size∧iv=.int .i64 (k:Int)∧nv=.int .i64 (numV (s.data.toList.take k):Int)
theorem zmi(s:ByteArray)(w:World)(hs:s.size≤10)(hd:∀c ∈ s.data.toList,48≤c.toNat∧c.toNat≤57) :
 Calls Tryz.prog 182 #[.string s] w fun e w'=>e=.returned (.tuple #[.int .i64 (numV s.data.toList:Int),.bool true])∧w=w':=by
 have HD:=Z9 hd
 have HB:Hid (∀k,k≤s.size→numV (s.data.toList.take k)<10 ^ 10):=fun k hk=>by
  have h1:=zgl (s.data.toList.take k) (fun c hc=>hd c (List.mem_of_mem_take hc));have h2:(s.data.toList.take k).length≤10:=by rw[List.length_take,zab];omega
  exact Nat.lt_of_lt_of_le h1 (Nat.pow_le_pow_right (by omega) h2)
 clear hd;go_enter Tryz.func182,Tryz.ntmps182;go_wp2_with fail;go_loop [2,7] (NuR s) (fun _ i=>s.size-(intOf i).toNat)
 case atStart=>exact⟨0,Nat.zero_le _,rfl,rfl⟩
 case round =>
  obtain⟨k,hk,rfl,rfl⟩:=hrel;have hb:=HB.out k hk
  by_cases Z4:k<s.size
  ·obtain⟨c1,c2⟩:=HD.out s[k] (zhd s k Z4)
   have HS:Hid (numV (s.data.toList.take (k+1))=10*numV (s.data.toList.take k)+(s[k].toNat-48)):=by rw[zep s k Z4,zei];exact rfl
   obtain⟨V,hV⟩:∃V,V=numV (s.data.toList.take k):=⟨_,rfl⟩
   rw[←hV]at hb HS ⊢;clear hV;have hb':V<10000000000:=hb;clear hb;go_wp2_with fail;go_round
   case rel=>exact⟨k+1,by omega,by go_num,by rw[HS.out];congr 1;omega⟩
   case measure=>simp[intOf];omega
  ·have HT:Hid (s.data.toList.take k=s.data.toList):=List.take_of_length_le (by rw[zab];omega)
   rw[HT.out];go_wp2_with fail;go_ret2;exact⟨rfl,rfl⟩
theorem zpq(y:Nat)(w:World)(h1:1900≤y)(h2:y≤2173):Calls Tryz.prog 229 #[.int .i64 (y:Int)] w (RetB w true):=by
 have t1:decide ((1900:Int)≤(y:Int))=true:=by simp;omega
 have t2:decide ((y:Int)≤2173)=true:=by simp;omega
 go_enter Tryz.func229,Tryz.ntmps229;go_wp2;go_ret;exact⟨rfl,rfl⟩
theorem yaa(y m:Nat)(m1:1≤m)(m2:m≤12)(W:World):(Instr.index 219 (.agg (zgo y)) (.int .i64 (m:Int))).run Tryz.prog W=.ok (.int .i64 (zb8 y m:Int)) W:=by
 have hm:m=1∨m=2∨m=3∨m=4∨m=5∨m=6∨m=7∨m=8∨m=9∨m=10∨m=11∨m=12:=by omega
 rcases hm with rfl |rfl |rfl |rfl |rfl |rfl |rfl |rfl |rfl |rfl |rfl |rfl<;>rfl
theorem zi5(y m:Nat)(w:World)(h1:1900≤y)(h2:y≤2173)(m1:1≤m)(m2:m≤12) :
 Calls Tryz.prog 207 #[.int .i64 (y:Int),.int .i64 (m:Int)] w fun e w'=>e=.returned (.tuple #[.int .i64 (zb8 y m:Int),.int .i64 0])∧Below w.heap.size w w':=by
 have HK:=Z9 (fun W=>zpq y W h1 h2);have HL:=Z9 (fun W=>zfx y W (by omega))
 have hidx:=fun W=>yaa y m m1 m2 W
 obtain⟨V,hV⟩:∃V,V=zgo y:=⟨_,rfl⟩
 rw[←hV]at HL;simp only[←hV]at hidx;obtain⟨L,hL⟩:∃L,L=zb8 y m:=⟨_,rfl⟩
 rw[←hL]at hidx ⊢;clear hV hL;go_enter Tryz.func207,Tryz.ntmps207;go_wp2_with fail;refine(HK.out _).mono ?_;rintro e w' ⟨rfl,rfl⟩;go_wp2_with fail;refine(HL.out _).mono ?_;rintro e w2 ⟨rfl,b2⟩;have B2:=Z9 b2;clear b2;go_wp2_with fail;go_ret2;exact⟨rfl,B2.out⟩
def OfRd(y base m:Nat)(dv iv:Value):Prop:=∃k:Nat,k≤m∧iv=.int .i64 (k:Int)∧dv=.int .i64 ((base+mdR y (k-1):Nat):Int)
theorem yb4(day y m d:Nat)(w:World)(hd:day≤99999)(h:DateIs day y m d) :
 Calls Tryz.prog 183 #[.int .i64 (y:Int),.int .i64 (m:Int),.int .i64 (d:Int)] w fun e w'=>e=.returned (.tuple #[.int .i64 (day:Int),.int .i64 0])∧Below w.heap.size w w':=by
 obtain⟨h1,h2,h3,h4,h5,h6⟩:=h;have Z4:=DateIs.lt ⟨h1,h2,h3,h4,h5,h6⟩
 have hy:y≤2173:=by
  rcases Nat.lt_or_ge 2173 y with e |e
  ·have a:=zm1 (a:=2174) (b:=y) (by omega) (by omega)
   have b:yd 2174=100077:=by decide
   omega
  ·exact e
 have HN:=Z9 (fun W=>zi5 y m W h1 hy h2 h3);have HF:=Z9 (fun W=>zhb y W h1 (by omega))
 have hL:=fun W=>zfx y W (by omega)
 unfold zgo at hL;have HL:=Z9 hL
 have hc:∀W:World,∀k:Nat,k≤12→(W.alloc (.cells (zgo y) 219)).cell? ⟨W.heap.size,k,none⟩=some (.int .i64 (((if k=0 then 0 else zb8 y k):Nat):Int)):=fun W k a2=>by
  rw[RowAt.cell (zc0 (t:=219) (c:=zgo y) rfl rfl) (by show k<13;omega)]
  by_cases e:k=0
  ·subst e;rfl
  ·rw[if_neg e];simpa using zk5 y k (by omega) a2
 unfold zgo at hc;have HC:=Z9 hc;obtain⟨n,hn⟩:∃n,n=zb8 y m:=⟨_,rfl⟩
 rw[←hn]at HN h5;have hn31:n≤31:=by rw[hn];exact zg5 _ _
 obtain⟨Y0,Wf⟩:∃Y0,Y0=yd y:=⟨_,rfl⟩
 rw[←Wf]at HF h6 Z4;have HST:Hid (OfRd y (Y0+d-1) m (.int .i64 ((Y0:Int)+(d:Int)-1)) (.int .i64 0)):=⟨0,Nat.zero_le _,rfl,by congr 1;show _=((Y0+d-1+0:Nat):Int);omega⟩
 have H6:Hid (Y0+d-1+mdR y (m-1)=day):=by show _=_;omega
 have hYb:Y0≤99999:=by omega
 have hmd:∀k,k≤m→mdR y (k-1)≤372:=fun k hk=>by
  have a:=zif y (a:=k-1) (b:=12) (by omega);rw[zy2]at a
  split at a<;>omega
 have HMD:=Z9 hmd;have hal:Tryz.prog.arrayLen 219=13:=by kernel_rfl
 have Zq:Tryz.prog.elem 219=3:=by kernel_rfl
 have hsl:∀(W:World)(g:Nat),(Instr.sliceAt 219 (.pointer (some ⟨g,0,none⟩)) none (some (.int .i64 (m:Int))) none).run Tryz.prog W=.ok (.slice (some ⟨g,0,none⟩) m 13) W:=fun W g=>by
  rw[run_sliceAt_array_h W 219 ⟨g,0,none⟩ (by kernel_rfl) .i64 (m:Int) (by omega) (by rw[hal];omega),hal,Zq,Tryz.sizeOf3];simp[slicedAt,Addr.add,Result.andThen]
 clear hL hc hn Wf h6 Z4 hmd;go_enter Tryz.func183,Tryz.ntmps183;go_wp2_with fail;refine(HN.out _).mono ?_;rintro e w1 ⟨rfl,b1⟩;have B1:=Z9 b1;clear b1;go_wp2_with fail;refine(HF.out _).mono ?_;rintro e w' ⟨rfl,rfl⟩;go_wp2_with fail;refine(HL.out _).mono ?_;rintro e w2 ⟨rfl,b2⟩;have B2:=Z9 (B1.out.trans (b2.mono B1.out.size));clear b2;go_wp2_with fail;go_loop [10,41] (OfRd y (Y0+d-1) m) (fun _ i=>m-(intOf i).toNat)
 case atStart=>exact HST.out
 case round =>
  obtain⟨k,hk,rfl,rfl⟩:=hrel;have hb:=HMD.out k hk
  by_cases Z4:k<m
  ·have hc:=HC.out w2 k (by omega)
   obtain⟨L,hL⟩:∃L,L=(if k=0 then 0 else zb8 y k):=⟨_,rfl⟩
   rw[←hL]at hc
   have hL31:L≤31:=by
    rw[hL];split
    ·omega
    ·exact zg5 _ _
   have hs:mdR y (k+1-1)=mdR y (k-1)+L:=by
    rw[hL]
    cases k with
    |zero=>rfl
    |succ k=>rfl
   obtain⟨M,hM⟩:∃M,M=mdR y (k-1):=⟨_,rfl⟩
   rw[←hM]at hb hs ⊢;have HS:Hid (OfRd y (Y0+d-1) m (.int .i64 (((Y0+d-1+M:Nat):Int)+(L:Int))) (.int .i64 ((k:Int)+1))):=⟨k+1,by omega,by congr 1,by rw[hs];congr 1;omega⟩;clear hL hs hM HST H6 HC;go_wp2_with fail;go_round
   case rel=>exact HS.out
   case measure=>simp[intOf];omega
  ·have Vo:k=m:=by omega
   subst Vo;rw[H6.out];clear hb HST HC;go_wp2_with fail;go_ret2;exact⟨rfl,B2.out.alloc (Nat.le_trans (by simp) B2.out.size) _⟩
theorem z4q(n k:Nat):∀c ∈ figB n k,48≤c.toNat∧c.toNat≤57:=by
 induction k generalizing n with
 |zero=>intro c hc;cases hc
 |succ k ih =>
  intro c hc
  rcases List.mem_append.1 hc with hc |hc
  ·exact ih _ c hc
  ·rw[List.mem_singleton.1 hc,UInt8.toNat_ofNat'];omega
theorem zej(n k:Nat):numV (figB n k)=n % 10 ^ k:=by
 induction k generalizing n with
 |zero=>show 0=_;simp[Nat.mod_one]
 |succ k ih =>
  show numV (figB (n / 10) k ++ [_])=_
  have hp:n % (10*10 ^ k)=n % 10+10*(n / 10 % 10 ^ k):=Nat.mod_mul;rw[zei,ih,UInt8.toNat_ofNat',show 10 ^ (k+1)=10*10 ^ k by rw[Nat.pow_succ,Nat.mul_comm],hp];omega
theorem zpw(s:ByteArray)(y m d day:Nat)(w:World)(hs:s.size=10)(e4:(((s[4]'(by omega)).toNat:Int) != 45)=false)(e7:(((s[7]'(by omega)).toNat:Int) != 45)=false)
 (H1:Hid (∀W,Calls Tryz.prog 182 #[.string (s.extract 0 4)] W fun e w'=>e=.returned (.tuple #[.int .i64 (y:Int),.bool true])∧W=w'))
 (H2:Hid (∀W,Calls Tryz.prog 182 #[.string (s.extract 5 7)] W fun e w'=>e=.returned (.tuple #[.int .i64 (m:Int),.bool true])∧W=w'))
 (H3:Hid (∀W,Calls Tryz.prog 182 #[.string (s.extract 8 10)] W fun e w'=>e=.returned (.tuple #[.int .i64 (d:Int),.bool true])∧W=w'))
 (HO:Hid (∀W,Calls Tryz.prog 183 #[.int .i64 (y:Int),.int .i64 (m:Int),.int .i64 (d:Int)] W fun e w'=>e=.returned (.tuple #[.int .i64 (day:Int),.int .i64 0])∧Below W.heap.size W w')) :
 Calls Tryz.prog 145 #[.string s] w fun e w'=>e=.returned (.tuple #[.int .i64 (day:Int),.int .i64 0])∧Below w.heap.size w w':=by
 have t10:((s.size:Int) != 10)=false:=by rw[hs];rfl
 go_enter Tryz.func145,Tryz.ntmps145;go_wp2_with fail;refine(H1.out _).mono ?_;rintro e w' ⟨rfl,rfl⟩;go_wp2_with fail;refine(H2.out _).mono ?_;rintro e w' ⟨rfl,rfl⟩;go_wp2_with fail;refine(H3.out _).mono ?_;rintro e w' ⟨rfl,rfl⟩;go_wp2_with fail;refine(HO.out _).mono ?_;rintro e w2 ⟨rfl,b2⟩;have B2:=Z9 b2;clear b2;go_wp2_with fail;go_ret2;exact⟨rfl,B2.out⟩
theorem zi3(s:ByteArray)(n k:Nat)(h:s.data.toList=figB n k)(hk:k≤10)(hn:n<10 ^ k):Hid (∀W,Calls Tryz.prog 182 #[.string s] W fun e w'=>e=.returned (.tuple #[.int .i64 (n:Int),.bool true])∧W=w'):=fun W=>by
 have hs:s.size=k:=by rw[←zab,h,zim]
 have:=zmi s W (by omega) (by rw[h];exact z4q n k)
 rwa [h,zej,Nat.mod_eq_of_lt hn]at this
theorem zvm(s:ByteArray)(day y m d:Nat)(w:World)(hd:day≤99999)(h:DateIs day y m d)(hs:s.data.toList=zb4 y m d) :
 Calls Tryz.prog 145 #[.string s] w fun e w'=>e=.returned (.tuple #[.int .i64 (day:Int),.int .i64 0])∧Below w.heap.size w w':=by
 have Yi:s.size=10:=by rw[←zab,hs,zio]
 obtain⟨hy,VZ⟩:=h.small hd;have hm:m≤12:=h.2.2.1
 have hx:∀a b:Nat,(s.extract a b).data.toList=((zb4 y m d).drop a).take (b-a):=fun a b=>by rw[Lib.extract_data,hs]
 have l4:figB y 4=[UInt8.ofNat (48+y / 10 / 10 / 10 % 10),UInt8.ofNat (48+y / 10 / 10 % 10),UInt8.ofNat (48+y / 10 % 10),UInt8.ofNat (48+y % 10)]:=rfl;have l2:figB m 2=[UInt8.ofNat (48+m / 10 % 10),UInt8.ofNat (48+m % 10)]:=rfl;have l3:figB d 2=[UInt8.ofNat (48+d / 10 % 10),UInt8.ofNat (48+d % 10)]:=rfl
 have g:∀(i:Nat)(hi:i<s.size),(zb4 y m d)[i]?=some s[i]:=fun i hi=>by rw[←hs];exact Lib.data_getElem? s i hi
 have c4:=g 4 (by omega);have c7:=g 7 (by omega);have e4:(45:UInt8)=s[4]:=by unfold zb4 at c4;rw[l4,l2,l3]at c4;simpa using c4
 have e7:(45:UInt8)=s[7]:=by unfold zb4 at c7;rw[l4,l2,l3]at c7;simpa using c7
 refine zpw s y m d day w Yi (by rw[←e4];rfl) (by rw[←e7];rfl) (zi3 _ y 4 (by rw[hx];unfold zb4;rw[l4,l2,l3];rfl) (by omega) (by omega))
  (zi3 _ m 2 (by rw[hx];unfold zb4;rw[l4,l2,l3];rfl) (by omega) (by omega)) (zi3 _ d 2 (by rw[hx];unfold zb4;rw[l4,l2,l3];rfl) (by omega) (by omega)) (fun W=>yb4 day y m d W hd h)
def zdq(w:World)(e:Ending)(w':World):Prop:=∃q:Int,(1≤q∧q≤100)∧e=.returned (.tuple #[.int .i64 0,.int .i64 q])∧Below w.heap.size w w'
def NuD(s:ByteArray)(nv iv:Value):Prop:=∃k:Nat,k≤s.size∧iv=.int .i64 (k:Int)∧nv=.int .i64 (numV (s.data.toList.take k):Int)∧∀c ∈ s.data.toList.take k,48≤c.toNat∧c.toNat≤57
theorem zyr(s:ByteArray)(w:World)(hs:s.size≤10)(hd:∃c ∈ s.data.toList,¬(48≤c.toNat∧c.toNat≤57)) :
 Calls Tryz.prog 182 #[.string s] w fun e w'=>e=.returned (.tuple #[.int .i64 0,.bool false])∧w=w':=by
 have HD:=Z9 hd
 have HB:Hid (∀k,k≤s.size→(∀c ∈ s.data.toList.take k,48≤c.toNat∧c.toNat≤57)→numV (s.data.toList.take k)<10 ^ 10):=fun k hk h=>by
  have h1:=zgl (s.data.toList.take k) h;have h2:(s.data.toList.take k).length≤10:=by rw[List.length_take,zab];omega
  exact Nat.lt_of_lt_of_le h1 (Nat.pow_le_pow_right (by omega) h2)
 have HST:Hid (NuD s (.int .i64 0) (.int .i64 0)):=⟨0,Nat.zero_le _,rfl,rfl,fun c hc=>by cases hc⟩;clear hd;go_enter Tryz.func182,Tryz.ntmps182;go_wp2_with fail;go_loop [2,7] (NuD s) (fun _ i=>s.size-(intOf i).toNat)
 case atStart=>exact HST.out
 case round =>
  obtain⟨k,hk,rfl,rfl,Vj⟩:=hrel;have hb:=HB.out k hk Vj
  by_cases Z4:k<s.size
  ·have HN:Hid (∀V,V=numV (s.data.toList.take k)→48≤s[k].toNat→s[k].toNat≤57→NuD s (.int .i64 (10*(V:Int)+((s[k].toNat:Int)-48))) (.int .i64 ((k:Int)+1))):=fun V hV c1 c2=>by
    refine⟨k+1,by omega,by congr 1,?_,?_⟩
    ·rw[zep s k Z4,zei,hV];congr 1;omega
    ·rw[zep s k Z4]
     intro c hc
     rcases List.mem_append.1 hc with hc |hc
     ·exact Vj c hc
     ·rw[List.mem_singleton.1 hc];exact⟨c1,c2⟩
   obtain⟨V,hV⟩:∃V,V=numV (s.data.toList.take k):=⟨_,rfl⟩
   rw[←hV]at hb HN ⊢;have HN2:=Z9 (HN.out V rfl);clear hV Vj HN HD HB HST;have hb':V<10000000000:=hb;clear hb
   by_cases c1:s[k].toNat<48
   ·go_wp2_with fail
    go_ret2;exact⟨rfl,rfl⟩
   ·by_cases c2:57<s[k].toNat
    ·go_wp2_with fail
     go_ret2;exact⟨rfl,rfl⟩
    ·have HR:=Z9 (HN2.out (by omega) (by omega))
     have c1':48≤s[k].toNat:=by omega
     have c2':s[k].toNat≤57:=by omega
     clear HN2;go_wp2_with fail;go_round
     case rel=>simpa using HR.out
     case measure=>simp[intOf];omega
  ·obtain⟨c,hc,Wy⟩:=HD.out
   exact absurd (Vj c (by rw[List.take_of_length_le (by rw[zab];omega)];exact hc)) Wy
theorem z4f(y:Nat)(w:World)(h:y<1900∨2173<y):Calls Tryz.prog 229 #[.int .i64 (y:Int)] w (RetB w false):=by
 rcases h with h |h
 ·go_enter Tryz.func229,Tryz.ntmps229
  go_wp2;go_ret;exact⟨rfl,rfl⟩
 ·have t1:decide ((1900:Int)≤(y:Int))=true:=by simp;omega
  have t2:decide ((y:Int)≤2173)=false:=by simp;omega
  go_enter Tryz.func229,Tryz.ntmps229;go_wp2;go_ret;exact⟨rfl,rfl⟩
theorem zzc(y m:Nat)(w:World)(h:(y<1900∨2173<y)∨m<1∨12<m) :
 Calls Tryz.prog 207 #[.int .i64 (y:Int),.int .i64 (m:Int)] w fun e w'=>e=.returned (.tuple #[.int .i64 0,.int .i64 2])∧w=w':=by
 by_cases hy:y<1900∨2173<y
 ·have HK:=Z9 (fun W=>z4f y W hy)
  clear h hy;go_enter Tryz.func207,Tryz.ntmps207;go_wp2_with fail;refine(HK.out _).mono ?_;rintro e w' ⟨rfl,rfl⟩;go_wp2_with fail;go_ret2;exact⟨rfl,rfl⟩
 ·have HK:=Z9 (fun W=>zpq y W (by omega) (by omega))
  have hm:m<1∨12<m:=by omega
  clear h hy
  rcases hm with hm |hm
  ·go_enter Tryz.func207,Tryz.ntmps207
   go_wp2_with fail;refine(HK.out _).mono ?_;rintro e w' ⟨rfl,rfl⟩;go_wp2_with fail;go_ret2;exact⟨rfl,rfl⟩
  ·have WW:1≤m:=by omega
   go_enter Tryz.func207,Tryz.ntmps207;go_wp2_with fail;refine(HK.out _).mono ?_;rintro e w' ⟨rfl,rfl⟩;go_wp2_with fail;go_ret2;exact⟨rfl,rfl⟩
theorem yb6(y m d:Nat)(w:World)(h:(y<1900∨2173<y)∨m<1∨12<m):Calls Tryz.prog 183 #[.int .i64 (y:Int),.int .i64 (m:Int),.int .i64 (d:Int)] w (zdq w):=by
 have HL:=Z9 (fun W=>zzc y m W h);clear h;go_enter Tryz.func183,Tryz.ntmps183;go_wp2_with fail;refine(HL.out _).mono ?_;rintro e w' ⟨rfl,rfl⟩;go_wp2_with fail;go_ret2;exact⟨2,by omega,rfl,Below.refl _ _⟩
theorem yb5(y m d n:Nat)(w:World)(hn:n≤31)(h:d<1∨n<d)
 (HN:Hid (∀W,Calls Tryz.prog 207 #[.int .i64 (y:Int),.int .i64 (m:Int)] W fun e w'=>e=.returned (.tuple #[.int .i64 (n:Int),.int .i64 0])∧Below W.heap.size W w')):Calls Tryz.prog 183 #[.int .i64 (y:Int),.int .i64 (m:Int),.int .i64 (d:Int)] w (zdq w):=by
 rcases h with h |h
 ·go_enter Tryz.func183,Tryz.ntmps183
  go_wp2_with fail;refine(HN.out _).mono ?_;rintro e w1 ⟨rfl,b1⟩;have B1:=Z9 b1;clear b1;go_wp2_with fail;go_ret2;exact⟨2,by omega,rfl,B1.out⟩
 ·have h1:1≤d:=by omega
  go_enter Tryz.func183,Tryz.ntmps183;go_wp2_with fail;refine(HN.out _).mono ?_;rintro e w1 ⟨rfl,b1⟩;have B1:=Z9 b1;clear b1;go_wp2_with fail;go_ret2;exact⟨2,by omega,rfl,B1.out⟩
theorem z9g(day y m d:Nat)(w:World)(hd:99999<day)(hy:y≤2173)(h:DateIs day y m d) :
 Calls Tryz.prog 183 #[.int .i64 (y:Int),.int .i64 (m:Int),.int .i64 (d:Int)] w (zdq w):=by
 obtain⟨h1,h2,h3,h4,h5,h6⟩:=h;have Z4:=DateIs.lt ⟨h1,h2,h3,h4,h5,h6⟩;have HN:=Z9 (fun W=>zi5 y m W h1 hy h2 h3);have HF:=Z9 (fun W=>zhb y W h1 (by omega))
 have hL:=fun W=>zfx y W (by omega)
 unfold zgo at hL;have HL:=Z9 hL
 have hc:∀W:World,∀k:Nat,k≤12→(W.alloc (.cells (zgo y) 219)).cell? ⟨W.heap.size,k,none⟩=some (.int .i64 (((if k=0 then 0 else zb8 y k):Nat):Int)):=fun W k a2=>by
  rw[RowAt.cell (zc0 (t:=219) (c:=zgo y) rfl rfl) (by show k<13;omega)]
  by_cases e:k=0
  ·subst e;rfl
  ·rw[if_neg e];simpa using zk5 y k (by omega) a2
 unfold zgo at hc;have HC:=Z9 hc;obtain⟨n,hn⟩:∃n,n=zb8 y m:=⟨_,rfl⟩
 rw[←hn]at HN h5;have hn31:n≤31:=by rw[hn];exact zg5 _ _
 obtain⟨Y0,Wf⟩:∃Y0,Y0=yd y:=⟨_,rfl⟩
 rw[←Wf]at HF h6 Z4;have hdm:d≤31:=by omega
 have HST:Hid (OfRd y (Y0+d-1) m (.int .i64 ((Y0:Int)+(d:Int)-1)) (.int .i64 0)):=⟨0,Nat.zero_le _,rfl,by congr 1;show _=((Y0+d-1+0:Nat):Int);omega⟩
 have H6:Hid (Y0+d-1+mdR y (m-1)=day):=by show _=_;omega
 have hYb:Y0≤200000:=by
  rw[Wf];have a:=zm1 (a:=y) (b:=2174) (by omega) (by omega);have b:yd 2174=100077:=by decide
  omega
 have hmd:∀k,k≤m→mdR y (k-1)≤372:=fun k hk=>by
  have a:=zif y (a:=k-1) (b:=12) (by omega);rw[zy2]at a
  split at a<;>omega
 have HMD:=Z9 hmd;have hal:Tryz.prog.arrayLen 219=13:=by kernel_rfl
 have Zq:Tryz.prog.elem 219=3:=by kernel_rfl
 have hsl:∀(W:World)(g:Nat),(Instr.sliceAt 219 (.pointer (some ⟨g,0,none⟩)) none (some (.int .i64 (m:Int))) none).run Tryz.prog W=.ok (.slice (some ⟨g,0,none⟩) m 13) W:=fun W g=>by
  rw[run_sliceAt_array_h W 219 ⟨g,0,none⟩ (by kernel_rfl) .i64 (m:Int) (by omega) (by rw[hal];omega),hal,Zq,Tryz.sizeOf3];simp[slicedAt,Addr.add,Result.andThen]
 clear hL hc hn Wf h6 Z4 hmd;go_enter Tryz.func183,Tryz.ntmps183;go_wp2_with fail;refine(HN.out _).mono ?_;rintro e w1 ⟨rfl,b1⟩;have B1:=Z9 b1;clear b1;go_wp2_with fail;refine(HF.out _).mono ?_;rintro e w' ⟨rfl,rfl⟩;go_wp2_with fail;refine(HL.out _).mono ?_;rintro e w2 ⟨rfl,b2⟩;have B2:=Z9 (B1.out.trans (b2.mono B1.out.size));clear b2;go_wp2_with fail;go_loop [10,41] (OfRd y (Y0+d-1) m) (fun _ i=>m-(intOf i).toNat)
 case atStart=>exact HST.out
 case round =>
  obtain⟨k,hk,rfl,rfl⟩:=hrel;have hb:=HMD.out k hk
  by_cases Z4:k<m
  ·have hc:=HC.out w2 k (by omega)
   obtain⟨L,hL⟩:∃L,L=(if k=0 then 0 else zb8 y k):=⟨_,rfl⟩
   rw[←hL]at hc
   have hL31:L≤31:=by
    rw[hL];split
    ·omega
    ·exact zg5 _ _
   have hs:mdR y (k+1-1)=mdR y (k-1)+L:=by
    rw[hL]
    cases k with
    |zero=>rfl
    |succ k=>rfl
   obtain⟨M,hM⟩:∃M,M=mdR y (k-1):=⟨_,rfl⟩
   rw[←hM]at hb hs ⊢;have HS:Hid (OfRd y (Y0+d-1) m (.int .i64 (((Y0+d-1+M:Nat):Int)+(L:Int))) (.int .i64 ((k:Int)+1))):=⟨k+1,by omega,by congr 1,by rw[hs];congr 1;omega⟩;clear hL hs hM HST H6 HC;go_wp2_with fail;go_round
   case rel=>exact HS.out
   case measure=>simp[intOf];omega
  ·have Vo:k=m:=by omega
   subst Vo;rw[H6.out];clear hb HST HC;go_wp2_with fail;go_ret2;exact⟨2,by omega,rfl,B2.out.alloc (Nat.le_trans (by simp) B2.out.size) _⟩
theorem ydo(y m d:Nat)(w:World)(hd:d≤1000)(h:∀day,day≤99999→¬DateIs day y m d):Calls Tryz.prog 183 #[.int .i64 (y:Int),.int .i64 (m:Int),.int .i64 (d:Int)] w (zdq w):=by
 by_cases h1:(y<1900∨2173<y)∨m<1∨12<m
 ·exact yb6 y m d w h1
 ·by_cases h2:d<1∨zb8 y m<d
  ·exact yb5 y m d (zb8 y m) w (zg5 _ _) h2 (fun W=>zi5 y m W (by omega) (by omega) (by omega) (by omega))
  ·have hi:DateIs (yd y+mdR y (m-1)+d-1) y m d:=⟨by omega,by omega,by omega,by omega,by omega,by omega⟩
   refine z9g _ y m d w ?_ (by omega) hi
   rcases Nat.lt_or_ge 99999 (yd y+mdR y (m-1)+d-1)with e |e
   ·exact e
   ·exact absurd hi (h _ e)
theorem zfj(l:List UInt8)(h:∀c ∈ l,48≤c.toNat∧c.toNat≤57):figB (numV l) l.length=l:=by
 have key:∀m:List UInt8,(∀c ∈ m.reverse,48≤c.toNat∧c.toNat≤57)→figB (numV m.reverse) m.length=m.reverse:=by
  intro m
  induction m with
  |nil=>intro _;rfl
  |cons a m ih =>
   intro h;rw[List.reverse_cons]at h ⊢;have a1:=ih (fun c hc=>h c (List.mem_append_left _ hc));have a2:=h a (by simp);rw[zei,List.length_cons]
   show figB ((10*numV m.reverse+(a.toNat-48)) / 10) m.length ++ [UInt8.ofNat (48+(10*numV m.reverse+(a.toNat-48)) % 10)]=_
   rw[show(10*numV m.reverse+(a.toNat-48)) / 10=numV m.reverse by omega,show 48+(10*numV m.reverse+(a.toNat-48)) % 10=a.toNat by omega,a1]
   congr 2
   exact UInt8.toNat_inj.1 (by rw[UInt8.toNat_ofNat'];omega)
 have:=key l.reverse (by simpa using h);simpa using this
theorem z34(l:List UInt8)(h:l.length=10):∃c0 c1 c2 c3 c4 c5 c6 c7 c8 c9,l=[c0,c1,c2,c3,c4,c5,c6,c7,c8,c9]:=by
 match l,h with
 | [c0,c1,c2,c3,c4,c5,c6,c7,c8,c9],_=>exact⟨c0,c1,c2,c3,c4,c5,c6,c7,c8,c9,rfl⟩
def NuC(s:ByteArray)(n:Nat)(b:Bool):Prop:=∀W,Calls Tryz.prog 182 #[.string s] W fun e w'=>e=.returned (.tuple #[.int .i64 (n:Int),.bool b])∧W=w'
theorem ycp(s:ByteArray)(w:World)(h:s.size≠10):Calls Tryz.prog 145 #[.string s] w (zdq w):=by
 have t10:((s.size:Int) != 10)=true:=by simp;omega
 clear h;go_enter Tryz.func145,Tryz.ntmps145;go_wp2_with fail;go_ret2;exact⟨12,by omega,rfl,Below.refl _ _⟩
theorem z4x(s:ByteArray)(w:World)(hs:s.size=10)(e4:(((s[4]'(by omega)).toNat:Int) != 45)=true):Calls Tryz.prog 145 #[.string s] w (zdq w):=by
 have t10:((s.size:Int) != 10)=false:=by rw[hs];rfl
 go_enter Tryz.func145,Tryz.ntmps145;go_wp2_with fail;go_ret2;exact⟨12,by omega,rfl,Below.refl _ _⟩
theorem z4w(s:ByteArray)(w:World)(hs:s.size=10)(e4:(((s[4]'(by omega)).toNat:Int) != 45)=false)(e7:(((s[7]'(by omega)).toNat:Int) != 45)=true):Calls Tryz.prog 145 #[.string s] w (zdq w):=by
 have t10:((s.size:Int) != 10)=false:=by rw[hs];rfl
 go_enter Tryz.func145,Tryz.ntmps145;go_wp2_with fail;go_ret2;exact⟨12,by omega,rfl,Below.refl _ _⟩
theorem yco(s:ByteArray)(y m d:Nat)(b1 b2 b3:Bool)(w:World)(hs:s.size=10)(e4:(((s[4]'(by omega)).toNat:Int) != 45)=false)(e7:(((s[7]'(by omega)).toNat:Int) != 45)=false)
 (H1:Hid (NuC (s.extract 0 4) y b1)) (H2:Hid (NuC (s.extract 5 7) m b2)) (H3:Hid (NuC (s.extract 8 10) d b3)) (hb:(b1 && b2 && b3)=false) :
 Calls Tryz.prog 145 #[.string s] w (zdq w):=by
 have t10:((s.size:Int) != 10)=false:=by rw[hs];rfl
 cases b1<;>cases b2<;>cases b3<;>first |(cases hb;done) |skip
 all_goals
  clear hb;go_enter Tryz.func145,Tryz.ntmps145;go_wp2_with fail;refine(H1.out _).mono ?_;rintro e w' ⟨rfl,rfl⟩;go_wp2_with fail;refine(H2.out _).mono ?_;rintro e w' ⟨rfl,rfl⟩;go_wp2_with fail;refine(H3.out _).mono ?_;rintro e w' ⟨rfl,rfl⟩;go_wp2_with fail;go_ret2;exact⟨12,by omega,rfl,Below.refl _ _⟩
theorem ydu(s:ByteArray)(y m d:Nat)(w:World)(hs:s.size=10)(e4:(((s[4]'(by omega)).toNat:Int) != 45)=false)(e7:(((s[7]'(by omega)).toNat:Int) != 45)=false)
 (H1:Hid (NuC (s.extract 0 4) y true)) (H2:Hid (NuC (s.extract 5 7) m true)) (H3:Hid (NuC (s.extract 8 10) d true))
 (HO:Hid (∀W,Calls Tryz.prog 183 #[.int .i64 (y:Int),.int .i64 (m:Int),.int .i64 (d:Int)] W (zdq W))) :
 Calls Tryz.prog 145 #[.string s] w (zdq w):=by
 have t10:((s.size:Int) != 10)=false:=by rw[hs];rfl
 go_enter Tryz.func145,Tryz.ntmps145;go_wp2_with fail;refine(H1.out _).mono ?_;rintro e w' ⟨rfl,rfl⟩;go_wp2_with fail;refine(H2.out _).mono ?_;rintro e w' ⟨rfl,rfl⟩;go_wp2_with fail;refine(H3.out _).mono ?_;rintro e w' ⟨rfl,rfl⟩;go_wp2_with fail;refine(HO.out _).mono ?_;rintro e w2 ⟨q,hq,rfl,b2⟩;have B2:=Z9 b2;have HQ:=Z9 hq;clear b2 hq;go_wp2_with fail;go_ret2;exact⟨q,HQ.out,rfl,B2.out⟩
theorem zkz(s:ByteArray)(hs:s.size≤10):∃b,NuC s (if b then numV s.data.toList else 0) b∧(b=true→∀c ∈ s.data.toList,48≤c.toNat∧c.toNat≤57):=by
 by_cases h:∀c ∈ s.data.toList,48≤c.toNat∧c.toNat≤57
 ·exact⟨true,fun W=>zmi s W hs h,fun _=>h⟩
 ·refine⟨false,fun W=>zyr s W hs ?_,fun h=>by cases h⟩
  simpa using h
theorem zzz(s:ByteArray)(w:World)(h:∀day y m d,day≤99999→DateIs day y m d→s.data.toList≠zb4 y m d):Calls Tryz.prog 145 #[.string s] w (zdq w):=by
 by_cases Yi:s.size=10
 ·by_cases e4:(((s[4]'(by omega)).toNat:Int) != 45)=true
  ·exact z4x s w Yi e4
  ·have e4:(((s[4]'(by omega)).toNat:Int) != 45)=false:=by simpa using e4
   by_cases e7:(((s[7]'(by omega)).toNat:Int) != 45)=true
   ·exact z4w s w Yi e4 e7
   ·have e7:(((s[7]'(by omega)).toNat:Int) != 45)=false:=by simpa using e7
    have sz:∀a b:Nat,b≤10→(s.extract a b).size=b-a:=fun a b hb=>by rw[←zab,Lib.extract_data];simp[Yi];omega
    obtain⟨b1,n1,d1⟩:=zkz (s.extract 0 4) (by rw[sz 0 4 (by omega)];omega);obtain⟨b2,n2,d2⟩:=zkz (s.extract 5 7) (by rw[sz 5 7 (by omega)];omega);obtain⟨b3,n3,d3⟩:=zkz (s.extract 8 10) (by rw[sz 8 10 (by omega)];omega)
    by_cases hb:(b1 && b2 && b3)=true
    ·simp only[Bool.and_eq_true]at hb
     obtain⟨⟨rfl,rfl⟩,rfl⟩:=hb;have d1:=d1 rfl;have d2:=d2 rfl;have d3:=d3 rfl;have v3:=zgl _ d3;rw[zab,sz 8 10 (by omega)]at v3;refine ydu s _ _ _ w Yi e4 e7 n1 n2 n3 (fun W=>ydo _ _ _ W (by rw[if_pos rfl];omega) (fun day hd hi => ?_));simp only[if_true]at hi;refine h day _ _ _ hd hi ?_;obtain⟨c0,c1,c2,c3,c4,c5,c6,c7,c8,c9,hl⟩:=z34 s.data.toList (by rw[zab,Yi])
     have k4:c4=45:=by
      have:=Lib.data_getElem? s 4 (by omega);rw[hl]at this;have hc:c4=s[4]:=by simpa using this
      rw[hc]
      exact UInt8.toNat_inj.1 (by
       have:(s[4].toNat:Int)=45:=by simpa using e4
       show s[4].toNat=45
       omega)
     have k7:c7=45:=by
      have:=Lib.data_getElem? s 7 (by omega);rw[hl]at this;have hc:c7=s[7]:=by simpa using this
      rw[hc]
      exact UInt8.toNat_inj.1 (by
       have:(s[7].toNat:Int)=45:=by simpa using e7
       show s[7].toNat=45
       omega)
     rw[Lib.extract_data,hl]at d1 d2 d3;have x1:(s.extract 0 4).data.toList=[c0,c1,c2,c3]:=by rw[Lib.extract_data,hl];rfl
     have x2:(s.extract 5 7).data.toList=[c5,c6]:=by rw[Lib.extract_data,hl];rfl
     have x3:(s.extract 8 10).data.toList=[c8,c9]:=by rw[Lib.extract_data,hl];rfl
     have f1:figB (numV [c0,c1,c2,c3]) 4=[c0,c1,c2,c3]:=zfj _ d1;have f2:figB (numV [c5,c6]) 2=[c5,c6]:=zfj _ d2;have f3:figB (numV [c8,c9]) 2=[c8,c9]:=zfj _ d3;rw[x1,x2,x3];unfold zb4;rw[f1,f2,f3,hl,k4,k7];rfl
    ·exact yco s _ _ _ b1 b2 b3 w Yi e4 e7 n1 n2 n3 (by simpa using hb)
 ·exact ycp s w Yi
def z6p(l:List UInt8)(day:Nat):Prop:=day≤99999∧∃y m d,DateIs day y m d∧l=zb4 y m d
theorem zvn(s:ByteArray) :
 (∃day,z6p s.data.toList day∧∀W,Calls Tryz.prog 145 #[.string s] W fun e w'=>e=.returned (.tuple #[.int .i64 (day:Int),.int .i64 0])∧Below W.heap.size W w') ∨
 ((∀day,¬z6p s.data.toList day)∧∀W,Calls Tryz.prog 145 #[.string s] W (zdq W)):=by
 by_cases h:∃day,z6p s.data.toList day
 ·obtain⟨day,h1,y,m,d,h2,h3⟩:=h
  exact .inl ⟨day,⟨h1,y,m,d,h2,h3⟩,fun W=>zvm s day y m d W h1 h2 h3⟩
 ·exact .inr ⟨fun day hd=>h ⟨day,hd⟩,fun W=>zzz s W fun day y m d h1 h2 h3=>h ⟨day,h1,y,m,d,h2,h3⟩⟩
def AddR(w:World)(la lb:List Nat)(n:Nat)(o b i:Value)(wr:World):Prop :=
 ∃(k cr:Nat)(out:List Nat),k≤n∧i=.int .i64 k∧b=.int .u32 cr∧wr.ownsRow w.heap.size 247 1 o k (nums .u32 out)∧zm0 la lb out k cr∧Below w.heap.size w wr
theorem z85(a b:Option Addr)(n m c d:Nat)(la lb:List Nat)(w:World)(Zs:la.length=n)(ZH:lb.length=m)(hn:n≤900000)(UU:m≤n)
 (da:∀x ∈ la,x<Bs) (db:∀x ∈ lb,x<Bs) (ha:Nums .u32 w a la) (hb:Nums .u32 w b lb) :
 Calls Tryz.prog 239 #[.slice a n c,.slice b m d] w (zji w (val la+val lb)):=by
 obtain⟨i0,hi,ZE,ZO,ZA⟩:=info_parts zgq;have t0:decide ((n:Int)<(m:Int))=false:=by simp;omega
 have ZD:=Z9 Zs;have Zg:=Z9 ZH;have HA:=Z9 ha;have HB:=Z9 hb;have DA:=Z9 da;have DB:=Z9 db;clear Zs ZH ha hb da db;go_enter Tryz.func239,Tryz.ntmps239;go_wp2_with (at_make;refine wpList_make_own _ rfl _ _ 239 rfl w.heap.size 247 i0 (.int .u32 0) 1 Tryz.underlying239 hi ZE ZO .i64 .i64 _ (n+1) rfl rfl rfl ?b2 ?b3 ?b4 ?_)
 case b2=>rw[ZA];omega
 case b3=>unfold maxLen;omega
 case b4=>exact Nat.le_refl _
 intro w1 Yn Yt;have ZN:AddR w la lb n (.slice (some ⟨w.heap.size,0,none⟩) 0 (n+1)) (.int .u32 0) (.int .i64 0) w1:=⟨0,0,[],Nat.zero_le _,rfl,rfl,Yn,zmd _ _,(Below.refl _ _).grown Yt (Nat.le_refl _) (fun k hk=>by cases hk)⟩;have HST:=Z9 ZN;clear Yn Yt ZN t0;go_wp2_with fail;go_loopw [5,6,23] (AddR w la lb n) (fun _ _ i _=>n-(intOf i).toNat)
 case atStart=>exact HST.out
 case round =>
  obtain⟨k,cr,out,hk,rfl,rfl,ho,ZZ,ZK⟩:=hrel;have HO:=Z9 ho;have HT:=Z9 ZZ;have HBL:=Z9 ZK;clear ho ZZ ZK HST
  by_cases Z4:k<n
  ·obtain⟨x,hx⟩:∃x,x=la.getD k 0:=⟨_,rfl⟩
   obtain⟨y,hy⟩:∃y,y=lb.getD k 0:=⟨_,rfl⟩
   obtain⟨g,og,rfl,hg,hc⟩:=HA.out.below HBL.out k (by have:=ZD.out;omega);rw[←hx]at hc;have hx10:x<1000000000:=by rw[hx];exact zba la k DA.out
   have hy10:y<1000000000:=by rw[hy];exact zba lb k DB.out
   have UL:cr≤1:=HT.out.2.2.1;have X6:=zo6 la lb out k cr DA.out DB.out HT.out;rw[←hx,←hy]at X6;have HX:=Z9 hx;have HY:=Z9 hy;have HT2:=Z9 X6;clear hx hy X6
   go_upto_if 34 with(fail)
   go_cut [9] (fun s wx=>s=.int .u32 ((x+cr+y:Nat):Int)∧wr=wx)
   case first=>as_aux_lemma =>
    by_cases Vo:k<m
    ·obtain⟨gb,ob,rfl,Yq,YX⟩:=HB.out.below HBL.out k (by have:=Zg.out;omega)
     rw[←HY.out]at YX;go_wp2_with fail;go_meet;exact⟨by congr 1,rfl⟩
    ·have Zc:y=0:=by rw[HY.out,zha (by have:=Zg.out;omega)]
     have HY0:=Z9 Zc;clear Zc;go_wp2_with fail;go_meet;exact⟨by rw[HY0.out];rfl,rfl⟩
   case rest=>as_aux_lemma =>
    obtain⟨rfl,rfl⟩:=hcut;obtain⟨v,hv⟩:∃v,v=x+cr+y:=⟨_,rfl⟩
    have hv10:v<2000000001:=by omega
    rw[←hv]at HT2 ⊢;clear hv hc;obtain⟨r,hr⟩:∃r:Nat,(v:Int) % 1000000000=(r:Int)∧v % 1000000000=r:=⟨v % 1000000000,by omega,rfl⟩
    have HT3:=HT2.out;rw[zd5,hr.2]at HT3;have HT4:=Z9 HT3;have HR:=Z9 hr;clear hr HT3;go_wp2_with (at_builtin;refine zay _ rfl (.tmp 43) (.tmp 46) 239 rfl w.heap.size 247 i0 (.int .u32 0) 4 Tryz.underlying239 hi ZE ZO ZA rfl _ _ _ rfl (HO.out.alloc _) ⟨wr.heap.size,0,none⟩ 1 (.int .u32 (r:Int)) rfl ?c1 rfl ?c3 ?c4 ?c5 ?_)
    case c1=>simp[HR.out.1]
    case c3=>unfold maxLen;omega
    case c4=>omega
    case c5=>have:=HBL.out.size;simp;omega
    intro v1 w2 ZI Yz Ym XT;have n2:Below w.heap.size w w2:=(HBL.out.alloc HBL.out.size _).grown Yz (by have:=HBL.out.size;simp;omega) (fun k hk=>(HO.out.lt k hk).1);rw[zd0]at ZI;have HO2:=Z9 ZI;have N2:=Z9 n2;clear ZI n2 Yz Ym XT;go_wp2_with fail;go_roundw
    case rel=>exact⟨k+1,v / 1000000000,out ++ [r],by omega,by go_num,rfl,HO2.out,HT4.out,N2.out⟩
    case measure=>simp[intOf]<;>omega
  ·obtain rfl:k=n:=by omega
   have hv:=zs8 la lb out cr (by rw[ZD.out,Zg.out];omega) (by rw[ZD.out];exact HT.out);have HV:=Z9 hv;clear hv;go_wp2_with (at_builtin;refine zay _ rfl (.tmp 49) (.tmp 51) 239 rfl w.heap.size 247 i0 (.int .u32 0) 4 Tryz.underlying239 hi ZE ZO ZA rfl _ _ _ rfl (HO.out.alloc _) ⟨wr.heap.size,0,none⟩ 1 (.int .u32 cr) rfl ?c1 rfl ?c3 ?c4 ?c5 ?_)
   case c1=>simp
   case c3=>unfold maxLen;omega
   case c4=>omega
   case c5=>have:=HBL.out.size;simp;omega
   intro v1 w2 ZI Yz Ym XT;have n2:Below w.heap.size w w2:=(HBL.out.alloc HBL.out.size _).grown Yz (by have:=HBL.out.size;simp;omega) (fun k hk=>(HO.out.lt k hk).1);rw[zd0]at ZI;have Y4:=zeu ZI (by omega) HV.out.1;rw[HV.out.2]at Y4;have ZF:=Z9 Y4;have N2:=Z9 n2;clear ZI n2 Yz Ym XT Y4;go_wp2_with fail;refine ZF.out.mono ?_;rintro e w' ⟨⟨v2,l2,rfl,ZI,Zr⟩,rfl⟩;have HO2:=Z9 ZI;have Yy:=Z9 Zr;clear ZI Zr;go_wp2_with fail;go_ret;exact⟨_,l2,rfl,HO2.out,Yy.out,N2.out⟩
theorem z84(a b:Option Addr)(n m c d:Nat)(la lb:List Nat)(w:World)(Zs:la.length=n)(ZH:lb.length=m)(hn:n≤900000)(UU:m<n)
 (da:∀x ∈ la,x<Bs) (db:∀x ∈ lb,x<Bs) (ha:Nums .u32 w a la) (hb:Nums .u32 w b lb) :
 Calls Tryz.prog 239 #[.slice b m d,.slice a n c] w (zji w (val la+val lb)):=by
 obtain⟨i0,hi,ZE,ZO,ZA⟩:=info_parts zgq;have t0:decide ((m:Int)<(n:Int))=true:=by simp;omega
 have ZD:=Z9 Zs;have Zg:=Z9 ZH;have HA:=Z9 ha;have HB:=Z9 hb;have DA:=Z9 da;have DB:=Z9 db;clear Zs ZH ha hb da db;go_enter Tryz.func239,Tryz.ntmps239;go_wp2_with (at_make;refine wpList_make_own _ rfl _ _ 239 rfl w.heap.size 247 i0 (.int .u32 0) 1 Tryz.underlying239 hi ZE ZO .i64 .i64 _ (n+1) rfl rfl rfl ?b2 ?b3 ?b4 ?_)
 case b2=>rw[ZA];omega
 case b3=>unfold maxLen;omega
 case b4=>exact Nat.le_refl _
 intro w1 Yn Yt;have ZN:AddR w la lb n (.slice (some ⟨w.heap.size,0,none⟩) 0 (n+1)) (.int .u32 0) (.int .i64 0) w1:=⟨0,0,[],Nat.zero_le _,rfl,rfl,Yn,zmd _ _,(Below.refl _ _).grown Yt (Nat.le_refl _) (fun k hk=>by cases hk)⟩;have HST:=Z9 ZN;clear Yn Yt ZN t0;go_wp2_with fail;go_loopw [5,6,23] (AddR w la lb n) (fun _ _ i _=>n-(intOf i).toNat)
 case atStart=>exact HST.out
 case round =>
  obtain⟨k,cr,out,hk,rfl,rfl,ho,ZZ,ZK⟩:=hrel;have HO:=Z9 ho;have HT:=Z9 ZZ;have HBL:=Z9 ZK;clear ho ZZ ZK HST
  by_cases Z4:k<n
  ·obtain⟨x,hx⟩:∃x,x=la.getD k 0:=⟨_,rfl⟩
   obtain⟨y,hy⟩:∃y,y=lb.getD k 0:=⟨_,rfl⟩
   obtain⟨g,og,rfl,hg,hc⟩:=HA.out.below HBL.out k (by have:=ZD.out;omega);rw[←hx]at hc;have hx10:x<1000000000:=by rw[hx];exact zba la k DA.out
   have hy10:y<1000000000:=by rw[hy];exact zba lb k DB.out
   have UL:cr≤1:=HT.out.2.2.1;have X6:=zo6 la lb out k cr DA.out DB.out HT.out;rw[←hx,←hy]at X6;have HX:=Z9 hx;have HY:=Z9 hy;have HT2:=Z9 X6;clear hx hy X6
   go_upto_if 34 with(fail)
   go_cut [9] (fun s wx=>s=.int .u32 ((x+cr+y:Nat):Int)∧wr=wx)
   case first=>as_aux_lemma =>
    by_cases Vo:k<m
    ·obtain⟨gb,ob,rfl,Yq,YX⟩:=HB.out.below HBL.out k (by have:=Zg.out;omega)
     rw[←HY.out]at YX;go_wp2_with fail;go_meet;exact⟨by congr 1,rfl⟩
    ·have Zc:y=0:=by rw[HY.out,zha (by have:=Zg.out;omega)]
     have HY0:=Z9 Zc;clear Zc;go_wp2_with fail;go_meet;exact⟨by rw[HY0.out];rfl,rfl⟩
   case rest=>as_aux_lemma =>
    obtain⟨rfl,rfl⟩:=hcut;obtain⟨v,hv⟩:∃v,v=x+cr+y:=⟨_,rfl⟩
    have hv10:v<2000000001:=by omega
    rw[←hv]at HT2 ⊢;clear hv hc;obtain⟨r,hr⟩:∃r:Nat,(v:Int) % 1000000000=(r:Int)∧v % 1000000000=r:=⟨v % 1000000000,by omega,rfl⟩
    have HT3:=HT2.out;rw[zd5,hr.2]at HT3;have HT4:=Z9 HT3;have HR:=Z9 hr;clear hr HT3;go_wp2_with (at_builtin;refine zay _ rfl (.tmp 43) (.tmp 46) 239 rfl w.heap.size 247 i0 (.int .u32 0) 4 Tryz.underlying239 hi ZE ZO ZA rfl _ _ _ rfl (HO.out.alloc _) ⟨wr.heap.size,0,none⟩ 1 (.int .u32 (r:Int)) rfl ?c1 rfl ?c3 ?c4 ?c5 ?_)
    case c1=>simp[HR.out.1]
    case c3=>unfold maxLen;omega
    case c4=>omega
    case c5=>have:=HBL.out.size;simp;omega
    intro v1 w2 ZI Yz Ym XT;have n2:Below w.heap.size w w2:=(HBL.out.alloc HBL.out.size _).grown Yz (by have:=HBL.out.size;simp;omega) (fun k hk=>(HO.out.lt k hk).1);rw[zd0]at ZI;have HO2:=Z9 ZI;have N2:=Z9 n2;clear ZI n2 Yz Ym XT;go_wp2_with fail;go_roundw
    case rel=>exact⟨k+1,v / 1000000000,out ++ [r],by omega,by go_num,rfl,HO2.out,HT4.out,N2.out⟩
    case measure=>simp[intOf]<;>omega
  ·obtain rfl:k=n:=by omega
   have hv:=zs8 la lb out cr (by rw[ZD.out,Zg.out];omega) (by rw[ZD.out];exact HT.out);have HV:=Z9 hv;clear hv;go_wp2_with (at_builtin;refine zay _ rfl (.tmp 49) (.tmp 51) 239 rfl w.heap.size 247 i0 (.int .u32 0) 4 Tryz.underlying239 hi ZE ZO ZA rfl _ _ _ rfl (HO.out.alloc _) ⟨wr.heap.size,0,none⟩ 1 (.int .u32 cr) rfl ?c1 rfl ?c3 ?c4 ?c5 ?_)
   case c1=>simp
   case c3=>unfold maxLen;omega
   case c4=>omega
   case c5=>have:=HBL.out.size;simp;omega
   intro v1 w2 ZI Yz Ym XT;have n2:Below w.heap.size w w2:=(HBL.out.alloc HBL.out.size _).grown Yz (by have:=HBL.out.size;simp;omega) (fun k hk=>(HO.out.lt k hk).1);rw[zd0]at ZI;have Y4:=zeu ZI (by omega) HV.out.1;rw[HV.out.2]at Y4;have ZF:=Z9 Y4;have N2:=Z9 n2;clear ZI n2 Yz Ym XT Y4;go_wp2_with fail;refine ZF.out.mono ?_;rintro e w' ⟨⟨v2,l2,rfl,ZI,Zr⟩,rfl⟩;have HO2:=Z9 ZI;have Yy:=Z9 Zr;clear ZI Zr;go_wp2_with fail;go_ret;exact⟨_,l2,rfl,HO2.out,Yy.out,N2.out⟩
theorem z3g(a b:Option Addr)(n m c d:Nat)(la lb:List Nat)(w:World)(Zs:la.length=n)(ZH:lb.length=m)(hn:n≤900000)(hm:m≤900000)
 (da:∀x ∈ la,x<Bs) (db:∀x ∈ lb,x<Bs) (ha:Nums .u32 w a la) (hb:Nums .u32 w b lb) :
 Calls Tryz.prog 239 #[.slice a n c,.slice b m d] w (zji w (val la+val lb)):=by
 by_cases h:m≤n
 ·exact z85 a b n m c d la lb w Zs ZH hn h da db ha hb
 ·have:=z84 b a m n d c lb la w ZH Zs hm (by omega) db da hb ha
  rwa [Nat.add_comm]at this
def ya6(w:World)(v:Value)(z:Int):Prop :=
 ∃a c l,v=.agg #[.bool (decide (z<0)),.slice a (l:List Nat).length c]∧l.length≤c∧Nums .u32 w a l∧Rep l z.natAbs
theorem zko{l:List Nat}{N:Nat}(h:Rep l N):0<l.length↔0<N:=by
 constructor
 ·intro hl
  have:=zkc l h.2.1 (by intro e;rw[e]at hl;cases hl)
  rwa [h.2.2]at this
 ·intro hN
  cases l with
  |nil=>have:=h.2.2;simp[val]at this;omega
  |cons a l=>simp
def W3(w:World)(v1 v2:Array Value):World:=((w.alloc (.cells v1 241)).alloc (.cells v2 241)).alloc (.cells #[.bool false,.slice none 0 0] 241)
structure BelOf(w:World) where
 u:World
 h:Below w.heap.size w u
instance (w:World):Inhabited (BelOf w):=⟨⟨w,Below.refl _ _⟩⟩
theorem yb8(w:World)(a:Option Addr)(n c:Nat)(l:List Nat)(z:Int)(g:Bool)(hg:g=decide (z<0))(hl:n=l.length)(hc:n≤c)(hn:Nums .u32 w a l)(hr:Rep l z.natAbs):ya6 w (.agg #[.bool g,.slice a n c]) z:=by
 subst hl;exact⟨a,c,l,by rw[hg],hc,hn,hr⟩
theorem z89(w:World)(o1 o2:Obj):Below w.heap.size w ((w.alloc o1).alloc o2):=((Below.refl _ _).alloc (Nat.le_refl _) _).alloc (by simp) _
end Go.Proofs.YtkobkpepgdddeaaGreatDoor
