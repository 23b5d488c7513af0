/-
  The reference's number of a text: walked. No condition.
-/
import Derived.Test.YtkobkpepgdddeaaGreatDoorZba
namespace Go.Proofs.YtkobkpepgdddeaaGreatDoor
open Go.RowKit Go.Shelf
set_option maxHeartbeats 16000000
set_option maxRecDepth 100000
set_option linter.unusedVariables false
theorem zs5(s F B Q:ByteArray)(i A E:Nat)(R:OneR)(z:Bool)(w:World)(hs:s.size≤100000)(hi:i<s.size)(hk:i≤A)(hA:A≤s.size)(t45:((s[i].toNat:Int) == 45)=false)(Y6:Hid (∀W,Calls Tryz.prog 191 #[.string s,.int .i64 (i:Int)] W (RetI W (A:Int))))(hF:s.extract i A=F)(YO:0<F.size)(Yj:A<s.size)(t46:((s[A].toNat:Int) == 46)=true)(HD:Hid (∀W,Calls Tryz.prog 166 #[.string s,.int .i64 ((A:Int)+1)] W (RetB W true)))(YB:Hid (∀W,Calls Tryz.prog 191 #[.string s,.int .i64 ((A:Int)+1)] W (RetI W (E:Int))))(Sp:A+1≤E)(XO:E≤s.size)(hB:s.extract (A+1) E=B)(ZP:0<B.size)(h8:(s[A].toNat:Int)=46)(HE:Hid (∀W,Calls Tryz.prog 163 #[.string s,.int .i64 (E:Int)] W (RetB W z)))(YQ:Hid (z=false∨(1<F.size∧F[0].toNat=48)→R=.no 12))(XW:Hid (z=true→¬(1<F.size∧F[0].toNat=48)→1000<F.size+B.size→R=.no 14))(Yw:Hid (z=true→¬(1<F.size∧F[0].toNat=48)→¬1000<F.size+B.size→R=.yes ⟨3,⟨#[]⟩,Q,0,0⟩ (E-i)∧∀W,Calls Tryz.prog 192 #[.bool false,.string F,.int .u8 46,.string B] W (StE W Q 0))) :
 Calls Tryz.prog 167 #[.string s,.int .i64 (i:Int)] w (zai w i R):=by
 have Xe:F.size≤100000:=by rw[←hF];simp;omega
 have Up:B.size≤100000:=by rw[←hB];simp;omega
 have HF:=Z9 hF;clear hF;have ah:=Z9 hB;have H8:=Z9 h8;clear hB h8;go_enter Tryz.func167,Tryz.ntmps167;go_wp2_with fail;refine(Y6.out _).mono ?_;rintro e w' ⟨rfl,rfl⟩;obtain⟨W2,Z4⟩:∃W2,W2=(w.alloc (.cells #[.int .u8 0,.string ⟨#[]⟩,.string ⟨#[]⟩,.int .i64 0,.int .i64 0] 100)).alloc (.cells #[.int .u8 3,.string ⟨#[]⟩,.string ⟨#[]⟩,.int .i64 0,.int .i64 (i:Int)] 100):=⟨_,rfl⟩
 have hg:W2.heap[w.heap.size]?=some (.cells #[.int .u8 0,.string ⟨#[]⟩,.string ⟨#[]⟩,.int .i64 0,.int .i64 0] 100):=by rw[Z4];exact zaw ..
 have ht:W2.heap[w.heap.size+1]?=some (.cells #[.int .u8 3,.string ⟨#[]⟩,.string ⟨#[]⟩,.int .i64 0,.int .i64 (i:Int)] 100):=by rw[Z4];exact zbc ..
 have Z6:Below w.heap.size w W2:=by rw[Z4];exact(zaf w _).alloc (by simp) _
 rw[←Z4];obtain⟨c0,c1,c2,c3,c4,fz⟩:=zal hg;obtain⟨d0,d1,d2,d3,d4,fy⟩:=zal ht;have HG:=Z9 hg;have HT:=Z9 ht;have aa:=Z9 Z6;clear Z4 hg ht Z6;go_wp2_with fail;refine(HD.out _).mono ?_;rintro e w' ⟨rfl,rfl⟩;go_wp2_with fail;refine(YB.out _).mono ?_;rintro e w' ⟨rfl,rfl⟩;go_wp2_with fail
 try rw[HF.out]
 try rw[ah.out]
 try rw[H8.out]
 refine(HE.out _).mono ?_;rintro e w' ⟨rfl,rfl⟩
 cases z with
 |false =>
  have ab:=Z9 (YQ.out (.inl rfl));go_wp2_with fail;refine bodyPost_ret (zaa rfl _ _ w.heap.size 100 _ _ rfl (zag HG.out _ _ _ _ _) Tryz.underlying100 rfl rfl) rfl ?_;exact zat ab.out (zad aa.out (Nat.le.refl) _ _ _ _ _)
 |true =>
  by_cases hl:1<F.size∧F[0].toNat=48
  ·have ab:=Z9 (YQ.out (.inr hl))
   obtain⟨Zy,YK⟩:=hl;have t48:((F[0].toNat:Int) == 48)=true:=by simp;omega
   clear YK;go_wp2_with fail;refine bodyPost_ret (zaa rfl _ _ w.heap.size 100 _ _ rfl (zag HG.out _ _ _ _ _) Tryz.underlying100 rfl rfl) rfl ?_;exact zat ab.out (zad aa.out (Nat.le.refl) _ _ _ _ _)
  ·have HL:=Z9 hl
   obtain⟨q,hq⟩:∃q,q=((F[0].toNat:Int) == 48):=⟨_,rfl⟩
   have ZE:1<F.size→((F[0].toNat:Int) == 48)=false:=fun h=>by
    have:¬F[0].toNat=48:=fun e=>hl ⟨h,e⟩
    simp;omega
   clear hl hq
   by_cases ZW:1000<F.size+B.size
   ·have ab:=Z9 (XW.out rfl HL.out ZW)
    by_cases Zy:1<F.size
    ·have t48:=ZE Zy
     clear ZE;go_wp2_with fail;refine bodyPost_ret (zaa rfl _ _ w.heap.size 100 _ _ rfl (zag HG.out _ _ _ _ _) Tryz.underlying100 rfl rfl) rfl ?_;exact zat ab.out (zad aa.out (Nat.le.refl) _ _ _ _ _)
    ·clear ZE
     go_wp2_with fail;refine bodyPost_ret (zaa rfl _ _ w.heap.size 100 _ _ rfl (zag HG.out _ _ _ _ _) Tryz.underlying100 rfl rfl) rfl ?_;exact zat ab.out (zad aa.out (Nat.le.refl) _ _ _ _ _)
   ·obtain⟨Y4,YI⟩:=Yw.out rfl HL.out ZW
    have ZL:F.size+B.size≤1000:=by omega
    have ab:=Z9 Y4;have Zx:=Z9 YI;clear ZW Y4 YI
    by_cases Zy:1<F.size
    ·have t48:=ZE Zy
     clear ZE;go_wp2_with fail;refine(Zx.out _).mono ?_;rintro e w3 ⟨rfl,Z0⟩;have ZY:=(Z0.block _ (Z8 HG.out)).trans HG.out;have ac:=(Z0.block _ (Z8 HT.out)).trans HT.out;have ad:=Z9 ((Below.heap_setCell w3 ⟨w.heap.size+1,2,none⟩ (.string Q) w.heap.size (by show w.heap.size≠w.heap.size+1;omega)).trans ZY);have ae:=Z9 ((aa.out.trans (Z0.mono aa.out.size)).setCell (p:=⟨w.heap.size+1,2,none⟩) (Nat.le_succ _) (.string Q));clear c0 c1 c2 c3 c4 fz d0 d1 d2 d3 d4 fy Z0;obtain⟨c0,c1,c2,c3,c4,fz⟩:=zal ZY;obtain⟨d0,d1,d2,d3,d4,fy⟩:=zal ac;clear ZY ac;go_wp2_with fail;refine bodyPost_ret (zaa rfl _ _ w.heap.size 100 _ _ rfl (zag ad.out _ _ _ _ _) Tryz.underlying100 rfl rfl) rfl ?_
     show zai _ _ _ _ _
     rw[ab.out];exact zap (by omega) (zad ae.out (Nat.le.refl) _ _ _ _ _)
    ·clear ZE
     go_wp2_with fail;refine(Zx.out _).mono ?_;rintro e w3 ⟨rfl,Z0⟩;have ZY:=(Z0.block _ (Z8 HG.out)).trans HG.out;have ac:=(Z0.block _ (Z8 HT.out)).trans HT.out;have ad:=Z9 ((Below.heap_setCell w3 ⟨w.heap.size+1,2,none⟩ (.string Q) w.heap.size (by show w.heap.size≠w.heap.size+1;omega)).trans ZY);have ae:=Z9 ((aa.out.trans (Z0.mono aa.out.size)).setCell (p:=⟨w.heap.size+1,2,none⟩) (Nat.le_succ _) (.string Q));clear c0 c1 c2 c3 c4 fz d0 d1 d2 d3 d4 fy Z0;obtain⟨c0,c1,c2,c3,c4,fz⟩:=zal ZY;obtain⟨d0,d1,d2,d3,d4,fy⟩:=zal ac;clear ZY ac;go_wp2_with fail;refine bodyPost_ret (zaa rfl _ _ w.heap.size 100 _ _ rfl (zag ad.out _ _ _ _ _) Tryz.underlying100 rfl rfl) rfl ?_
     show zai _ _ _ _ _
     rw[ab.out];exact zap (by omega) (zad ae.out (Nat.le.refl) _ _ _ _ _)
theorem zs4(s F B Q:ByteArray)(i A E:Nat)(R:OneR)(z:Bool)(w:World)(hs:s.size≤100000)(hi:i<s.size)(hk:i≤A)(hA:A≤s.size)(t45:((s[i].toNat:Int) == 45)=false)(Y6:Hid (∀W,Calls Tryz.prog 191 #[.string s,.int .i64 (i:Int)] W (RetI W (A:Int))))(hF:s.extract i A=F)(YO:0<F.size)(Yj:A<s.size)(t46:((s[A].toNat:Int) == 46)=false)(t47:((s[A].toNat:Int) == 47)=true)(HD:Hid (∀W,Calls Tryz.prog 166 #[.string s,.int .i64 ((A:Int)+1)] W (RetB W true)))(YB:Hid (∀W,Calls Tryz.prog 191 #[.string s,.int .i64 ((A:Int)+1)] W (RetI W (E:Int))))(Sp:A+1≤E)(XO:E≤s.size)(hB:s.extract (A+1) E=B)(ZP:0<B.size)(h8:(s[A].toNat:Int)=47)(HE:Hid (∀W,Calls Tryz.prog 163 #[.string s,.int .i64 (E:Int)] W (RetB W z)))(YQ:Hid (z=false∨(1<F.size∧F[0].toNat=48)∨B[0].toNat=48→R=.no 12))(XW:Hid (z=true→¬(1<F.size∧F[0].toNat=48)→¬B[0].toNat=48→(1000<F.size∨1000<B.size)→R=.no 14))(Yw:Hid (z=true→¬(1<F.size∧F[0].toNat=48)→¬B[0].toNat=48→¬(1000<F.size∨1000<B.size)→R=.yes ⟨3,⟨#[]⟩,Q,0,0⟩ (E-i)∧∀W,Calls Tryz.prog 192 #[.bool false,.string F,.int .u8 47,.string B] W (StE W Q 0))) :
 Calls Tryz.prog 167 #[.string s,.int .i64 (i:Int)] w (zai w i R):=by
 have Xe:F.size≤100000:=by rw[←hF];simp;omega
 have Up:B.size≤100000:=by rw[←hB];simp;omega
 have HF:=Z9 hF;clear hF;have ah:=Z9 hB;have H8:=Z9 h8;clear hB h8;go_enter Tryz.func167,Tryz.ntmps167;go_wp2_with fail;refine(Y6.out _).mono ?_;rintro e w' ⟨rfl,rfl⟩;obtain⟨W2,Z4⟩:∃W2,W2=(w.alloc (.cells #[.int .u8 0,.string ⟨#[]⟩,.string ⟨#[]⟩,.int .i64 0,.int .i64 0] 100)).alloc (.cells #[.int .u8 3,.string ⟨#[]⟩,.string ⟨#[]⟩,.int .i64 0,.int .i64 (i:Int)] 100):=⟨_,rfl⟩
 have hg:W2.heap[w.heap.size]?=some (.cells #[.int .u8 0,.string ⟨#[]⟩,.string ⟨#[]⟩,.int .i64 0,.int .i64 0] 100):=by rw[Z4];exact zaw ..
 have ht:W2.heap[w.heap.size+1]?=some (.cells #[.int .u8 3,.string ⟨#[]⟩,.string ⟨#[]⟩,.int .i64 0,.int .i64 (i:Int)] 100):=by rw[Z4];exact zbc ..
 have Z6:Below w.heap.size w W2:=by rw[Z4];exact(zaf w _).alloc (by simp) _
 rw[←Z4];obtain⟨c0,c1,c2,c3,c4,fz⟩:=zal hg;obtain⟨d0,d1,d2,d3,d4,fy⟩:=zal ht;have HG:=Z9 hg;have HT:=Z9 ht;have aa:=Z9 Z6;clear Z4 hg ht Z6;go_wp2_with fail;refine(HD.out _).mono ?_;rintro e w' ⟨rfl,rfl⟩;go_wp2_with fail;refine(YB.out _).mono ?_;rintro e w' ⟨rfl,rfl⟩;go_wp2_with fail
 try rw[HF.out]
 try rw[ah.out]
 try rw[H8.out]
 refine(HE.out _).mono ?_;rintro e w' ⟨rfl,rfl⟩
 cases z with
 |false =>
  have ab:=Z9 (YQ.out (.inl rfl));go_wp2_with fail;refine bodyPost_ret (zaa rfl _ _ w.heap.size 100 _ _ rfl (zag HG.out _ _ _ _ _) Tryz.underlying100 rfl rfl) rfl ?_;exact zat ab.out (zad aa.out (Nat.le.refl) _ _ _ _ _)
 |true =>
  by_cases hl:1<F.size∧F[0].toNat=48
  ·have ab:=Z9 (YQ.out (.inr (.inl hl)))
   obtain⟨Zy,YK⟩:=hl;have t48:((F[0].toNat:Int) == 48)=true:=by simp;omega
   clear YK;go_wp2_with fail;refine bodyPost_ret (zaa rfl _ _ w.heap.size 100 _ _ rfl (zag HG.out _ _ _ _ _) Tryz.underlying100 rfl rfl) rfl ?_;exact zat ab.out (zad aa.out (Nat.le.refl) _ _ _ _ _)
  ·have HL:=Z9 hl
   obtain⟨q,hq⟩:∃q,q=((F[0].toNat:Int) == 48):=⟨_,rfl⟩
   have ZE:1<F.size→((F[0].toNat:Int) == 48)=false:=fun h=>by
    have:¬F[0].toNat=48:=fun e=>hl ⟨h,e⟩
    simp;omega
   clear hl hq
   by_cases XI:B[0].toNat=48
   ·have ab:=Z9 (YQ.out (.inr (.inr XI)))
    have u48:((B[0].toNat:Int) == 48)=true:=by simp;omega
    clear XI
    by_cases Zy:1<F.size
    ·have t48:=ZE Zy
     clear ZE;go_wp2_with fail;refine bodyPost_ret (zaa rfl _ _ w.heap.size 100 _ _ rfl (zag HG.out _ _ _ _ _) Tryz.underlying100 rfl rfl) rfl ?_;exact zat ab.out (zad aa.out (Nat.le.refl) _ _ _ _ _)
    ·clear ZE
     go_wp2_with fail;refine bodyPost_ret (zaa rfl _ _ w.heap.size 100 _ _ rfl (zag HG.out _ _ _ _ _) Tryz.underlying100 rfl rfl) rfl ?_;exact zat ab.out (zad aa.out (Nat.le.refl) _ _ _ _ _)
   have u48:((B[0].toNat:Int) == 48)=false:=by simp;omega
   have af:=Z9 XI;clear XI
   by_cases ZW:(1000<F.size∨1000<B.size)
   ·have ab:=Z9 (XW.out rfl HL.out af.out ZW)
    have XY:1000<F.size∨(F.size≤1000∧1000<B.size):=by omega
    clear ZW
    rcases XY with ZL |⟨ZL,ZS⟩
    ·have Zy:1<F.size:=by omega
     have t48:=ZE Zy;clear ZE;go_wp2_with fail;refine bodyPost_ret (zaa rfl _ _ w.heap.size 100 _ _ rfl (zag HG.out _ _ _ _ _) Tryz.underlying100 rfl rfl) rfl ?_;exact zat ab.out (zad aa.out (Nat.le.refl) _ _ _ _ _)
    ·by_cases Zy:1<F.size
     ·have t48:=ZE Zy
      clear ZE;go_wp2_with fail;refine bodyPost_ret (zaa rfl _ _ w.heap.size 100 _ _ rfl (zag HG.out _ _ _ _ _) Tryz.underlying100 rfl rfl) rfl ?_;exact zat ab.out (zad aa.out (Nat.le.refl) _ _ _ _ _)
     ·clear ZE
      go_wp2_with fail;refine bodyPost_ret (zaa rfl _ _ w.heap.size 100 _ _ rfl (zag HG.out _ _ _ _ _) Tryz.underlying100 rfl rfl) rfl ?_;exact zat ab.out (zad aa.out (Nat.le.refl) _ _ _ _ _)
   ·obtain⟨Y4,YI⟩:=Yw.out rfl HL.out af.out ZW
    have ZL:F.size≤1000∧B.size≤1000:=by omega
    have ab:=Z9 Y4;have Zx:=Z9 YI;clear ZW Y4 YI;obtain⟨ZL,ZS⟩:=ZL
    by_cases Zy:1<F.size
    ·have t48:=ZE Zy
     clear ZE;go_wp2_with fail;refine(Zx.out _).mono ?_;rintro e w3 ⟨rfl,Z0⟩;have ZY:=(Z0.block _ (Z8 HG.out)).trans HG.out;have ac:=(Z0.block _ (Z8 HT.out)).trans HT.out;have ad:=Z9 ((Below.heap_setCell w3 ⟨w.heap.size+1,2,none⟩ (.string Q) w.heap.size (by show w.heap.size≠w.heap.size+1;omega)).trans ZY);have ae:=Z9 ((aa.out.trans (Z0.mono aa.out.size)).setCell (p:=⟨w.heap.size+1,2,none⟩) (Nat.le_succ _) (.string Q));clear c0 c1 c2 c3 c4 fz d0 d1 d2 d3 d4 fy Z0;obtain⟨c0,c1,c2,c3,c4,fz⟩:=zal ZY;obtain⟨d0,d1,d2,d3,d4,fy⟩:=zal ac;clear ZY ac;go_wp2_with fail;refine bodyPost_ret (zaa rfl _ _ w.heap.size 100 _ _ rfl (zag ad.out _ _ _ _ _) Tryz.underlying100 rfl rfl) rfl ?_
     show zai _ _ _ _ _
     rw[ab.out];exact zap (by omega) (zad ae.out (Nat.le.refl) _ _ _ _ _)
    ·clear ZE
     go_wp2_with fail;refine(Zx.out _).mono ?_;rintro e w3 ⟨rfl,Z0⟩;have ZY:=(Z0.block _ (Z8 HG.out)).trans HG.out;have ac:=(Z0.block _ (Z8 HT.out)).trans HT.out;have ad:=Z9 ((Below.heap_setCell w3 ⟨w.heap.size+1,2,none⟩ (.string Q) w.heap.size (by show w.heap.size≠w.heap.size+1;omega)).trans ZY);have ae:=Z9 ((aa.out.trans (Z0.mono aa.out.size)).setCell (p:=⟨w.heap.size+1,2,none⟩) (Nat.le_succ _) (.string Q));clear c0 c1 c2 c3 c4 fz d0 d1 d2 d3 d4 fy Z0;obtain⟨c0,c1,c2,c3,c4,fz⟩:=zal ZY;obtain⟨d0,d1,d2,d3,d4,fy⟩:=zal ac;clear ZY ac;go_wp2_with fail;refine bodyPost_ret (zaa rfl _ _ w.heap.size 100 _ _ rfl (zag ad.out _ _ _ _ _) Tryz.underlying100 rfl rfl) rfl ?_
     show zai _ _ _ _ _
     rw[ab.out];exact zap (by omega) (zad ae.out (Nat.le.refl) _ _ _ _ _)
set_option linter.unusedVariables false
theorem zs3(s F Q:ByteArray)(i A:Nat)(R:OneR)(z:Bool)(w:World)(hs:s.size≤100000)(hi:i<s.size)(hk:(i+1)≤A)(hA:A≤s.size)(t45:((s[i].toNat:Int) == 45)=true)(Y6:Hid (∀W,Calls Tryz.prog 191 #[.string s,.int .i64 ((i:Int)+1)] W (RetI W (A:Int))))(hF:s.extract (i+1) A=F)(YO:0<F.size)(So:A=s.size)(HE:Hid (∀W,Calls Tryz.prog 163 #[.string s,.int .i64 (A:Int)] W (RetB W z)))(YQ:Hid (z=false∨(1<F.size∧F[0].toNat=48)→R=.no 12))(XW:Hid (z=true→¬(1<F.size∧F[0].toNat=48)→1000<F.size→R=.no 14))(Yw:Hid (z=true→¬(1<F.size∧F[0].toNat=48)→¬1000<F.size→R=.yes ⟨3,⟨#[]⟩,Q,0,0⟩ (A-i)∧∀W,Calls Tryz.prog 192 #[.bool true,.string F,.int .u8 0,.string (⟨#[]⟩:ByteArray)] W (StE W Q 0))) :
 Calls Tryz.prog 167 #[.string s,.int .i64 (i:Int)] w (zai w i R):=by
 have Xe:F.size≤100000:=by rw[←hF];simp;omega
 have HF:=Z9 hF;clear hF;subst So;go_enter Tryz.func167,Tryz.ntmps167;go_wp2_with fail;refine(Y6.out _).mono ?_;rintro e w' ⟨rfl,rfl⟩;obtain⟨W2,Z4⟩:∃W2,W2=(w.alloc (.cells #[.int .u8 0,.string ⟨#[]⟩,.string ⟨#[]⟩,.int .i64 0,.int .i64 0] 100)).alloc (.cells #[.int .u8 3,.string ⟨#[]⟩,.string ⟨#[]⟩,.int .i64 0,.int .i64 (i:Int)] 100):=⟨_,rfl⟩
 have hg:W2.heap[w.heap.size]?=some (.cells #[.int .u8 0,.string ⟨#[]⟩,.string ⟨#[]⟩,.int .i64 0,.int .i64 0] 100):=by rw[Z4];exact zaw ..
 have ht:W2.heap[w.heap.size+1]?=some (.cells #[.int .u8 3,.string ⟨#[]⟩,.string ⟨#[]⟩,.int .i64 0,.int .i64 (i:Int)] 100):=by rw[Z4];exact zbc ..
 have Z6:Below w.heap.size w W2:=by rw[Z4];exact(zaf w _).alloc (by simp) _
 rw[←Z4];obtain⟨c0,c1,c2,c3,c4,fz⟩:=zal hg;obtain⟨d0,d1,d2,d3,d4,fy⟩:=zal ht;have HG:=Z9 hg;have HT:=Z9 ht;have aa:=Z9 Z6;clear Z4 hg ht Z6;go_wp2_with fail
 try rw[HF.out]
 refine(HE.out _).mono ?_;rintro e w' ⟨rfl,rfl⟩
 cases z with
 |false =>
  have ab:=Z9 (YQ.out (.inl rfl));go_wp2_with fail;refine bodyPost_ret (zaa rfl _ _ w.heap.size 100 _ _ rfl (zag HG.out _ _ _ _ _) Tryz.underlying100 rfl rfl) rfl ?_;exact zat ab.out (zad aa.out (Nat.le.refl) _ _ _ _ _)
 |true =>
  by_cases hl:1<F.size∧F[0].toNat=48
  ·have ab:=Z9 (YQ.out (.inr hl))
   obtain⟨Zy,YK⟩:=hl;have t48:((F[0].toNat:Int) == 48)=true:=by simp;omega
   clear YK;go_wp2_with fail;refine bodyPost_ret (zaa rfl _ _ w.heap.size 100 _ _ rfl (zag HG.out _ _ _ _ _) Tryz.underlying100 rfl rfl) rfl ?_;exact zat ab.out (zad aa.out (Nat.le.refl) _ _ _ _ _)
  ·have HL:=Z9 hl
   obtain⟨q,hq⟩:∃q,q=((F[0].toNat:Int) == 48):=⟨_,rfl⟩
   have ZE:1<F.size→((F[0].toNat:Int) == 48)=false:=fun h=>by
    have:¬F[0].toNat=48:=fun e=>hl ⟨h,e⟩
    simp;omega
   clear hl hq
   by_cases ZW:1000<F.size
   ·have ab:=Z9 (XW.out rfl HL.out ZW)
    by_cases Zy:1<F.size
    ·have t48:=ZE Zy
     clear ZE;go_wp2_with fail;refine bodyPost_ret (zaa rfl _ _ w.heap.size 100 _ _ rfl (zag HG.out _ _ _ _ _) Tryz.underlying100 rfl rfl) rfl ?_;exact zat ab.out (zad aa.out (Nat.le.refl) _ _ _ _ _)
    ·exact absurd ZW (by omega)
   ·obtain⟨Y4,YI⟩:=Yw.out rfl HL.out ZW
    have ZL:F.size≤1000:=by omega
    have ab:=Z9 Y4;have Zx:=Z9 YI;clear ZW Y4 YI;have ag:decide ((i:Int)<(i:Int)+1)=true:=by simp;omega
    by_cases Zy:1<F.size
    ·have t48:=ZE Zy
     clear ZE;go_wp2_with fail;refine(Zx.out _).mono ?_;rintro e w3 ⟨rfl,Z0⟩;have ZY:=(Z0.block _ (Z8 HG.out)).trans HG.out;have ac:=(Z0.block _ (Z8 HT.out)).trans HT.out;have ad:=Z9 ((Below.heap_setCell w3 ⟨w.heap.size+1,2,none⟩ (.string Q) w.heap.size (by show w.heap.size≠w.heap.size+1;omega)).trans ZY);have ae:=Z9 ((aa.out.trans (Z0.mono aa.out.size)).setCell (p:=⟨w.heap.size+1,2,none⟩) (Nat.le_succ _) (.string Q));clear c0 c1 c2 c3 c4 fz d0 d1 d2 d3 d4 fy Z0;obtain⟨c0,c1,c2,c3,c4,fz⟩:=zal ZY;obtain⟨d0,d1,d2,d3,d4,fy⟩:=zal ac;clear ZY ac;go_wp2_with fail;refine bodyPost_ret (zaa rfl _ _ w.heap.size 100 _ _ rfl (zag ad.out _ _ _ _ _) Tryz.underlying100 rfl rfl) rfl ?_
     show zai _ _ _ _ _
     rw[ab.out];exact zap (by omega) (zad ae.out (Nat.le.refl) _ _ _ _ _)
    ·clear ZE
     go_wp2_with fail;refine(Zx.out _).mono ?_;rintro e w3 ⟨rfl,Z0⟩;have ZY:=(Z0.block _ (Z8 HG.out)).trans HG.out;have ac:=(Z0.block _ (Z8 HT.out)).trans HT.out;have ad:=Z9 ((Below.heap_setCell w3 ⟨w.heap.size+1,2,none⟩ (.string Q) w.heap.size (by show w.heap.size≠w.heap.size+1;omega)).trans ZY);have ae:=Z9 ((aa.out.trans (Z0.mono aa.out.size)).setCell (p:=⟨w.heap.size+1,2,none⟩) (Nat.le_succ _) (.string Q));clear c0 c1 c2 c3 c4 fz d0 d1 d2 d3 d4 fy Z0;obtain⟨c0,c1,c2,c3,c4,fz⟩:=zal ZY;obtain⟨d0,d1,d2,d3,d4,fy⟩:=zal ac;clear ZY ac;go_wp2_with fail;refine bodyPost_ret (zaa rfl _ _ w.heap.size 100 _ _ rfl (zag ad.out _ _ _ _ _) Tryz.underlying100 rfl rfl) rfl ?_
     show zai _ _ _ _ _
     rw[ab.out];exact zap (by omega) (zad ae.out (Nat.le.refl) _ _ _ _ _)
theorem zs2(s F Q:ByteArray)(i A:Nat)(R:OneR)(z:Bool)(w:World)(hs:s.size≤100000)(hi:i<s.size)(hk:(i+1)≤A)(hA:A≤s.size)(t45:((s[i].toNat:Int) == 45)=true)(Y6:Hid (∀W,Calls Tryz.prog 191 #[.string s,.int .i64 ((i:Int)+1)] W (RetI W (A:Int))))(hF:s.extract (i+1) A=F)(YO:0<F.size)(Yj:A<s.size)(t46:((s[A].toNat:Int) == 46)=false)(t47:((s[A].toNat:Int) == 47)=false)(HE:Hid (∀W,Calls Tryz.prog 163 #[.string s,.int .i64 (A:Int)] W (RetB W z)))(YQ:Hid (z=false∨(1<F.size∧F[0].toNat=48)→R=.no 12))(XW:Hid (z=true→¬(1<F.size∧F[0].toNat=48)→1000<F.size→R=.no 14))(Yw:Hid (z=true→¬(1<F.size∧F[0].toNat=48)→¬1000<F.size→R=.yes ⟨3,⟨#[]⟩,Q,0,0⟩ (A-i)∧∀W,Calls Tryz.prog 192 #[.bool true,.string F,.int .u8 0,.string (⟨#[]⟩:ByteArray)] W (StE W Q 0))) :
 Calls Tryz.prog 167 #[.string s,.int .i64 (i:Int)] w (zai w i R):=by
 have Xe:F.size≤100000:=by rw[←hF];simp;omega
 have HF:=Z9 hF;clear hF;go_enter Tryz.func167,Tryz.ntmps167;go_wp2_with fail;refine(Y6.out _).mono ?_;rintro e w' ⟨rfl,rfl⟩;obtain⟨W2,Z4⟩:∃W2,W2=(w.alloc (.cells #[.int .u8 0,.string ⟨#[]⟩,.string ⟨#[]⟩,.int .i64 0,.int .i64 0] 100)).alloc (.cells #[.int .u8 3,.string ⟨#[]⟩,.string ⟨#[]⟩,.int .i64 0,.int .i64 (i:Int)] 100):=⟨_,rfl⟩
 have hg:W2.heap[w.heap.size]?=some (.cells #[.int .u8 0,.string ⟨#[]⟩,.string ⟨#[]⟩,.int .i64 0,.int .i64 0] 100):=by rw[Z4];exact zaw ..
 have ht:W2.heap[w.heap.size+1]?=some (.cells #[.int .u8 3,.string ⟨#[]⟩,.string ⟨#[]⟩,.int .i64 0,.int .i64 (i:Int)] 100):=by rw[Z4];exact zbc ..
 have Z6:Below w.heap.size w W2:=by rw[Z4];exact(zaf w _).alloc (by simp) _
 rw[←Z4];obtain⟨c0,c1,c2,c3,c4,fz⟩:=zal hg;obtain⟨d0,d1,d2,d3,d4,fy⟩:=zal ht;have HG:=Z9 hg;have HT:=Z9 ht;have aa:=Z9 Z6;clear Z4 hg ht Z6;go_wp2_with fail
 try rw[HF.out]
 refine(HE.out _).mono ?_;rintro e w' ⟨rfl,rfl⟩
 cases z with
 |false =>
  have ab:=Z9 (YQ.out (.inl rfl));go_wp2_with fail;refine bodyPost_ret (zaa rfl _ _ w.heap.size 100 _ _ rfl (zag HG.out _ _ _ _ _) Tryz.underlying100 rfl rfl) rfl ?_;exact zat ab.out (zad aa.out (Nat.le.refl) _ _ _ _ _)
 |true =>
  by_cases hl:1<F.size∧F[0].toNat=48
  ·have ab:=Z9 (YQ.out (.inr hl))
   obtain⟨Zy,YK⟩:=hl;have t48:((F[0].toNat:Int) == 48)=true:=by simp;omega
   clear YK;go_wp2_with fail;refine bodyPost_ret (zaa rfl _ _ w.heap.size 100 _ _ rfl (zag HG.out _ _ _ _ _) Tryz.underlying100 rfl rfl) rfl ?_;exact zat ab.out (zad aa.out (Nat.le.refl) _ _ _ _ _)
  ·have HL:=Z9 hl
   obtain⟨q,hq⟩:∃q,q=((F[0].toNat:Int) == 48):=⟨_,rfl⟩
   have ZE:1<F.size→((F[0].toNat:Int) == 48)=false:=fun h=>by
    have:¬F[0].toNat=48:=fun e=>hl ⟨h,e⟩
    simp;omega
   clear hl hq
   by_cases ZW:1000<F.size
   ·have ab:=Z9 (XW.out rfl HL.out ZW)
    by_cases Zy:1<F.size
    ·have t48:=ZE Zy
     clear ZE;go_wp2_with fail;refine bodyPost_ret (zaa rfl _ _ w.heap.size 100 _ _ rfl (zag HG.out _ _ _ _ _) Tryz.underlying100 rfl rfl) rfl ?_;exact zat ab.out (zad aa.out (Nat.le.refl) _ _ _ _ _)
    ·exact absurd ZW (by omega)
   ·obtain⟨Y4,YI⟩:=Yw.out rfl HL.out ZW
    have ZL:F.size≤1000:=by omega
    have ab:=Z9 Y4;have Zx:=Z9 YI;clear ZW Y4 YI;have ag:decide ((i:Int)<(i:Int)+1)=true:=by simp;omega
    by_cases Zy:1<F.size
    ·have t48:=ZE Zy
     clear ZE;go_wp2_with fail;refine(Zx.out _).mono ?_;rintro e w3 ⟨rfl,Z0⟩;have ZY:=(Z0.block _ (Z8 HG.out)).trans HG.out;have ac:=(Z0.block _ (Z8 HT.out)).trans HT.out;have ad:=Z9 ((Below.heap_setCell w3 ⟨w.heap.size+1,2,none⟩ (.string Q) w.heap.size (by show w.heap.size≠w.heap.size+1;omega)).trans ZY);have ae:=Z9 ((aa.out.trans (Z0.mono aa.out.size)).setCell (p:=⟨w.heap.size+1,2,none⟩) (Nat.le_succ _) (.string Q));clear c0 c1 c2 c3 c4 fz d0 d1 d2 d3 d4 fy Z0;obtain⟨c0,c1,c2,c3,c4,fz⟩:=zal ZY;obtain⟨d0,d1,d2,d3,d4,fy⟩:=zal ac;clear ZY ac;go_wp2_with fail;refine bodyPost_ret (zaa rfl _ _ w.heap.size 100 _ _ rfl (zag ad.out _ _ _ _ _) Tryz.underlying100 rfl rfl) rfl ?_
     show zai _ _ _ _ _
     rw[ab.out];exact zap (by omega) (zad ae.out (Nat.le.refl) _ _ _ _ _)
    ·clear ZE
     go_wp2_with fail;refine(Zx.out _).mono ?_;rintro e w3 ⟨rfl,Z0⟩;have ZY:=(Z0.block _ (Z8 HG.out)).trans HG.out;have ac:=(Z0.block _ (Z8 HT.out)).trans HT.out;have ad:=Z9 ((Below.heap_setCell w3 ⟨w.heap.size+1,2,none⟩ (.string Q) w.heap.size (by show w.heap.size≠w.heap.size+1;omega)).trans ZY);have ae:=Z9 ((aa.out.trans (Z0.mono aa.out.size)).setCell (p:=⟨w.heap.size+1,2,none⟩) (Nat.le_succ _) (.string Q));clear c0 c1 c2 c3 c4 fz d0 d1 d2 d3 d4 fy Z0;obtain⟨c0,c1,c2,c3,c4,fz⟩:=zal ZY;obtain⟨d0,d1,d2,d3,d4,fy⟩:=zal ac;clear ZY ac;go_wp2_with fail;refine bodyPost_ret (zaa rfl _ _ w.heap.size 100 _ _ rfl (zag ad.out _ _ _ _ _) Tryz.underlying100 rfl rfl) rfl ?_
     show zai _ _ _ _ _
     rw[ab.out];exact zap (by omega) (zad ae.out (Nat.le.refl) _ _ _ _ _)
theorem zs1(s F Q:ByteArray)(i A:Nat)(R:OneR)(z:Bool)(w:World)(hs:s.size≤100000)(hi:i<s.size)(hk:(i+1)≤A)(hA:A≤s.size)(t45:((s[i].toNat:Int) == 45)=true)(Y6:Hid (∀W,Calls Tryz.prog 191 #[.string s,.int .i64 ((i:Int)+1)] W (RetI W (A:Int))))(hF:s.extract (i+1) A=F)(YO:0<F.size)(Yj:A<s.size)(t46:((s[A].toNat:Int) == 46)=true)(HD:Hid (∀W,Calls Tryz.prog 166 #[.string s,.int .i64 ((A:Int)+1)] W (RetB W false)))(HE:Hid (∀W,Calls Tryz.prog 163 #[.string s,.int .i64 (A:Int)] W (RetB W z)))(YQ:Hid (z=false∨(1<F.size∧F[0].toNat=48)→R=.no 12))(XW:Hid (z=true→¬(1<F.size∧F[0].toNat=48)→1000<F.size→R=.no 14))(Yw:Hid (z=true→¬(1<F.size∧F[0].toNat=48)→¬1000<F.size→R=.yes ⟨3,⟨#[]⟩,Q,0,0⟩ (A-i)∧∀W,Calls Tryz.prog 192 #[.bool true,.string F,.int .u8 0,.string (⟨#[]⟩:ByteArray)] W (StE W Q 0))) :
 Calls Tryz.prog 167 #[.string s,.int .i64 (i:Int)] w (zai w i R):=by
 have Xe:F.size≤100000:=by rw[←hF];simp;omega
 have HF:=Z9 hF;clear hF;go_enter Tryz.func167,Tryz.ntmps167;go_wp2_with fail;refine(Y6.out _).mono ?_;rintro e w' ⟨rfl,rfl⟩;obtain⟨W2,Z4⟩:∃W2,W2=(w.alloc (.cells #[.int .u8 0,.string ⟨#[]⟩,.string ⟨#[]⟩,.int .i64 0,.int .i64 0] 100)).alloc (.cells #[.int .u8 3,.string ⟨#[]⟩,.string ⟨#[]⟩,.int .i64 0,.int .i64 (i:Int)] 100):=⟨_,rfl⟩
 have hg:W2.heap[w.heap.size]?=some (.cells #[.int .u8 0,.string ⟨#[]⟩,.string ⟨#[]⟩,.int .i64 0,.int .i64 0] 100):=by rw[Z4];exact zaw ..
 have ht:W2.heap[w.heap.size+1]?=some (.cells #[.int .u8 3,.string ⟨#[]⟩,.string ⟨#[]⟩,.int .i64 0,.int .i64 (i:Int)] 100):=by rw[Z4];exact zbc ..
 have Z6:Below w.heap.size w W2:=by rw[Z4];exact(zaf w _).alloc (by simp) _
 rw[←Z4];obtain⟨c0,c1,c2,c3,c4,fz⟩:=zal hg;obtain⟨d0,d1,d2,d3,d4,fy⟩:=zal ht;have HG:=Z9 hg;have HT:=Z9 ht;have aa:=Z9 Z6;clear Z4 hg ht Z6;go_wp2_with fail;refine(HD.out _).mono ?_;rintro e w' ⟨rfl,rfl⟩;go_wp2_with fail
 try rw[HF.out]
 refine(HE.out _).mono ?_;rintro e w' ⟨rfl,rfl⟩
 cases z with
 |false =>
  have ab:=Z9 (YQ.out (.inl rfl));go_wp2_with fail;refine bodyPost_ret (zaa rfl _ _ w.heap.size 100 _ _ rfl (zag HG.out _ _ _ _ _) Tryz.underlying100 rfl rfl) rfl ?_;exact zat ab.out (zad aa.out (Nat.le.refl) _ _ _ _ _)
 |true =>
  by_cases hl:1<F.size∧F[0].toNat=48
  ·have ab:=Z9 (YQ.out (.inr hl))
   obtain⟨Zy,YK⟩:=hl;have t48:((F[0].toNat:Int) == 48)=true:=by simp;omega
   clear YK;go_wp2_with fail;refine bodyPost_ret (zaa rfl _ _ w.heap.size 100 _ _ rfl (zag HG.out _ _ _ _ _) Tryz.underlying100 rfl rfl) rfl ?_;exact zat ab.out (zad aa.out (Nat.le.refl) _ _ _ _ _)
  ·have HL:=Z9 hl
   obtain⟨q,hq⟩:∃q,q=((F[0].toNat:Int) == 48):=⟨_,rfl⟩
   have ZE:1<F.size→((F[0].toNat:Int) == 48)=false:=fun h=>by
    have:¬F[0].toNat=48:=fun e=>hl ⟨h,e⟩
    simp;omega
   clear hl hq
   by_cases ZW:1000<F.size
   ·have ab:=Z9 (XW.out rfl HL.out ZW)
    by_cases Zy:1<F.size
    ·have t48:=ZE Zy
     clear ZE;go_wp2_with fail;refine bodyPost_ret (zaa rfl _ _ w.heap.size 100 _ _ rfl (zag HG.out _ _ _ _ _) Tryz.underlying100 rfl rfl) rfl ?_;exact zat ab.out (zad aa.out (Nat.le.refl) _ _ _ _ _)
    ·exact absurd ZW (by omega)
   ·obtain⟨Y4,YI⟩:=Yw.out rfl HL.out ZW
    have ZL:F.size≤1000:=by omega
    have ab:=Z9 Y4;have Zx:=Z9 YI;clear ZW Y4 YI;have ag:decide ((i:Int)<(i:Int)+1)=true:=by simp;omega
    by_cases Zy:1<F.size
    ·have t48:=ZE Zy
     clear ZE;go_wp2_with fail;refine(Zx.out _).mono ?_;rintro e w3 ⟨rfl,Z0⟩;have ZY:=(Z0.block _ (Z8 HG.out)).trans HG.out;have ac:=(Z0.block _ (Z8 HT.out)).trans HT.out;have ad:=Z9 ((Below.heap_setCell w3 ⟨w.heap.size+1,2,none⟩ (.string Q) w.heap.size (by show w.heap.size≠w.heap.size+1;omega)).trans ZY);have ae:=Z9 ((aa.out.trans (Z0.mono aa.out.size)).setCell (p:=⟨w.heap.size+1,2,none⟩) (Nat.le_succ _) (.string Q));clear c0 c1 c2 c3 c4 fz d0 d1 d2 d3 d4 fy Z0;obtain⟨c0,c1,c2,c3,c4,fz⟩:=zal ZY;obtain⟨d0,d1,d2,d3,d4,fy⟩:=zal ac;clear ZY ac;go_wp2_with fail;refine bodyPost_ret (zaa rfl _ _ w.heap.size 100 _ _ rfl (zag ad.out _ _ _ _ _) Tryz.underlying100 rfl rfl) rfl ?_
     show zai _ _ _ _ _
     rw[ab.out];exact zap (by omega) (zad ae.out (Nat.le.refl) _ _ _ _ _)
    ·clear ZE
     go_wp2_with fail;refine(Zx.out _).mono ?_;rintro e w3 ⟨rfl,Z0⟩;have ZY:=(Z0.block _ (Z8 HG.out)).trans HG.out;have ac:=(Z0.block _ (Z8 HT.out)).trans HT.out;have ad:=Z9 ((Below.heap_setCell w3 ⟨w.heap.size+1,2,none⟩ (.string Q) w.heap.size (by show w.heap.size≠w.heap.size+1;omega)).trans ZY);have ae:=Z9 ((aa.out.trans (Z0.mono aa.out.size)).setCell (p:=⟨w.heap.size+1,2,none⟩) (Nat.le_succ _) (.string Q));clear c0 c1 c2 c3 c4 fz d0 d1 d2 d3 d4 fy Z0;obtain⟨c0,c1,c2,c3,c4,fz⟩:=zal ZY;obtain⟨d0,d1,d2,d3,d4,fy⟩:=zal ac;clear ZY ac;go_wp2_with fail;refine bodyPost_ret (zaa rfl _ _ w.heap.size 100 _ _ rfl (zag ad.out _ _ _ _ _) Tryz.underlying100 rfl rfl) rfl ?_
     show zai _ _ _ _ _
     rw[ab.out];exact zap (by omega) (zad ae.out (Nat.le.refl) _ _ _ _ _)
theorem zs0(s F Q:ByteArray)(i A:Nat)(R:OneR)(z:Bool)(w:World)(hs:s.size≤100000)(hi:i<s.size)(hk:(i+1)≤A)(hA:A≤s.size)(t45:((s[i].toNat:Int) == 45)=true)(Y6:Hid (∀W,Calls Tryz.prog 191 #[.string s,.int .i64 ((i:Int)+1)] W (RetI W (A:Int))))(hF:s.extract (i+1) A=F)(YO:0<F.size)(Yj:A<s.size)(t46:((s[A].toNat:Int) == 46)=false)(t47:((s[A].toNat:Int) == 47)=true)(HD:Hid (∀W,Calls Tryz.prog 166 #[.string s,.int .i64 ((A:Int)+1)] W (RetB W false)))(HE:Hid (∀W,Calls Tryz.prog 163 #[.string s,.int .i64 (A:Int)] W (RetB W z)))(YQ:Hid (z=false∨(1<F.size∧F[0].toNat=48)→R=.no 12))(XW:Hid (z=true→¬(1<F.size∧F[0].toNat=48)→1000<F.size→R=.no 14))(Yw:Hid (z=true→¬(1<F.size∧F[0].toNat=48)→¬1000<F.size→R=.yes ⟨3,⟨#[]⟩,Q,0,0⟩ (A-i)∧∀W,Calls Tryz.prog 192 #[.bool true,.string F,.int .u8 0,.string (⟨#[]⟩:ByteArray)] W (StE W Q 0))) :
 Calls Tryz.prog 167 #[.string s,.int .i64 (i:Int)] w (zai w i R):=by
 have Xe:F.size≤100000:=by rw[←hF];simp;omega
 have HF:=Z9 hF;clear hF;go_enter Tryz.func167,Tryz.ntmps167;go_wp2_with fail;refine(Y6.out _).mono ?_;rintro e w' ⟨rfl,rfl⟩;obtain⟨W2,Z4⟩:∃W2,W2=(w.alloc (.cells #[.int .u8 0,.string ⟨#[]⟩,.string ⟨#[]⟩,.int .i64 0,.int .i64 0] 100)).alloc (.cells #[.int .u8 3,.string ⟨#[]⟩,.string ⟨#[]⟩,.int .i64 0,.int .i64 (i:Int)] 100):=⟨_,rfl⟩
 have hg:W2.heap[w.heap.size]?=some (.cells #[.int .u8 0,.string ⟨#[]⟩,.string ⟨#[]⟩,.int .i64 0,.int .i64 0] 100):=by rw[Z4];exact zaw ..
 have ht:W2.heap[w.heap.size+1]?=some (.cells #[.int .u8 3,.string ⟨#[]⟩,.string ⟨#[]⟩,.int .i64 0,.int .i64 (i:Int)] 100):=by rw[Z4];exact zbc ..
 have Z6:Below w.heap.size w W2:=by rw[Z4];exact(zaf w _).alloc (by simp) _
 rw[←Z4];obtain⟨c0,c1,c2,c3,c4,fz⟩:=zal hg;obtain⟨d0,d1,d2,d3,d4,fy⟩:=zal ht;have HG:=Z9 hg;have HT:=Z9 ht;have aa:=Z9 Z6;clear Z4 hg ht Z6;go_wp2_with fail;refine(HD.out _).mono ?_;rintro e w' ⟨rfl,rfl⟩;go_wp2_with fail
 try rw[HF.out]
 refine(HE.out _).mono ?_;rintro e w' ⟨rfl,rfl⟩
 cases z with
 |false =>
  have ab:=Z9 (YQ.out (.inl rfl));go_wp2_with fail;refine bodyPost_ret (zaa rfl _ _ w.heap.size 100 _ _ rfl (zag HG.out _ _ _ _ _) Tryz.underlying100 rfl rfl) rfl ?_;exact zat ab.out (zad aa.out (Nat.le.refl) _ _ _ _ _)
 |true =>
  by_cases hl:1<F.size∧F[0].toNat=48
  ·have ab:=Z9 (YQ.out (.inr hl))
   obtain⟨Zy,YK⟩:=hl;have t48:((F[0].toNat:Int) == 48)=true:=by simp;omega
   clear YK;go_wp2_with fail;refine bodyPost_ret (zaa rfl _ _ w.heap.size 100 _ _ rfl (zag HG.out _ _ _ _ _) Tryz.underlying100 rfl rfl) rfl ?_;exact zat ab.out (zad aa.out (Nat.le.refl) _ _ _ _ _)
  ·have HL:=Z9 hl
   obtain⟨q,hq⟩:∃q,q=((F[0].toNat:Int) == 48):=⟨_,rfl⟩
   have ZE:1<F.size→((F[0].toNat:Int) == 48)=false:=fun h=>by
    have:¬F[0].toNat=48:=fun e=>hl ⟨h,e⟩
    simp;omega
   clear hl hq
   by_cases ZW:1000<F.size
   ·have ab:=Z9 (XW.out rfl HL.out ZW)
    by_cases Zy:1<F.size
    ·have t48:=ZE Zy
     clear ZE;go_wp2_with fail;refine bodyPost_ret (zaa rfl _ _ w.heap.size 100 _ _ rfl (zag HG.out _ _ _ _ _) Tryz.underlying100 rfl rfl) rfl ?_;exact zat ab.out (zad aa.out (Nat.le.refl) _ _ _ _ _)
    ·exact absurd ZW (by omega)
   ·obtain⟨Y4,YI⟩:=Yw.out rfl HL.out ZW
    have ZL:F.size≤1000:=by omega
    have ab:=Z9 Y4;have Zx:=Z9 YI;clear ZW Y4 YI;have ag:decide ((i:Int)<(i:Int)+1)=true:=by simp;omega
    by_cases Zy:1<F.size
    ·have t48:=ZE Zy
     clear ZE;go_wp2_with fail;refine(Zx.out _).mono ?_;rintro e w3 ⟨rfl,Z0⟩;have ZY:=(Z0.block _ (Z8 HG.out)).trans HG.out;have ac:=(Z0.block _ (Z8 HT.out)).trans HT.out;have ad:=Z9 ((Below.heap_setCell w3 ⟨w.heap.size+1,2,none⟩ (.string Q) w.heap.size (by show w.heap.size≠w.heap.size+1;omega)).trans ZY);have ae:=Z9 ((aa.out.trans (Z0.mono aa.out.size)).setCell (p:=⟨w.heap.size+1,2,none⟩) (Nat.le_succ _) (.string Q));clear c0 c1 c2 c3 c4 fz d0 d1 d2 d3 d4 fy Z0;obtain⟨c0,c1,c2,c3,c4,fz⟩:=zal ZY;obtain⟨d0,d1,d2,d3,d4,fy⟩:=zal ac;clear ZY ac;go_wp2_with fail;refine bodyPost_ret (zaa rfl _ _ w.heap.size 100 _ _ rfl (zag ad.out _ _ _ _ _) Tryz.underlying100 rfl rfl) rfl ?_
     show zai _ _ _ _ _
     rw[ab.out];exact zap (by omega) (zad ae.out (Nat.le.refl) _ _ _ _ _)
    ·clear ZE
     go_wp2_with fail;refine(Zx.out _).mono ?_;rintro e w3 ⟨rfl,Z0⟩;have ZY:=(Z0.block _ (Z8 HG.out)).trans HG.out;have ac:=(Z0.block _ (Z8 HT.out)).trans HT.out;have ad:=Z9 ((Below.heap_setCell w3 ⟨w.heap.size+1,2,none⟩ (.string Q) w.heap.size (by show w.heap.size≠w.heap.size+1;omega)).trans ZY);have ae:=Z9 ((aa.out.trans (Z0.mono aa.out.size)).setCell (p:=⟨w.heap.size+1,2,none⟩) (Nat.le_succ _) (.string Q));clear c0 c1 c2 c3 c4 fz d0 d1 d2 d3 d4 fy Z0;obtain⟨c0,c1,c2,c3,c4,fz⟩:=zal ZY;obtain⟨d0,d1,d2,d3,d4,fy⟩:=zal ac;clear ZY ac;go_wp2_with fail;refine bodyPost_ret (zaa rfl _ _ w.heap.size 100 _ _ rfl (zag ad.out _ _ _ _ _) Tryz.underlying100 rfl rfl) rfl ?_
     show zai _ _ _ _ _
     rw[ab.out];exact zap (by omega) (zad ae.out (Nat.le.refl) _ _ _ _ _)
end Go.Proofs.YtkobkpepgdddeaaGreatDoor
