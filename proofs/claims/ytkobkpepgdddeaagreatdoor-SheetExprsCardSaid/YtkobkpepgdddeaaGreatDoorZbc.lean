/-
  The reference's number of a text: walked. No condition.
-/
import Derived.Test.YtkobkpepgdddeaaGreatDoorZba
import Derived.Test.YtkobkpepgdddeaaGreatDoorZbb
import Derived.Test.YtkobkpepgdddeaaGreatDoorZao
import Derived.Test.YtkobkpepgdddeaaGreatDoorZaa
import Derived.Test.YtkobkpepgdddeaaGreatDoorZap
import Derived.Test.YtkobkpepgdddeaaGreatDoorZas
import Derived.Test.YtkobkpepgdddeaaGreatDoorZaz
import Derived.Test.YtkobkpepgdddeaaGreatDoorZar
import Derived.Deep.OwnRows
namespace Go.Proofs.YtkobkpepgdddeaaGreatDoor
open Go.RowKit Go.Shelf
set_option maxHeartbeats 16000000
set_option maxRecDepth 100000
set_option linter.unusedVariables false
theorem zsz(s F B Q:ByteArray)(i A E:Nat)(R:OneR)(z:Bool)(w:World)(hs:s.size≤100000)(hi:i<s.size)(hk:(i+1)≤A)(hA:A≤s.size)(t45:((s[i].toNat:Int) == 45)=true)(Y6:Hid (∀W,Calls Tryz.prog 191 #[.string s,.int .i64 ((i:Int)+1)] W (RetI W (A:Int))))(hF:s.extract (i+1) A=F)(YO:0<F.size)(Yj:A<s.size)(t46:((s[A].toNat:Int) == 46)=true)(HD:Hid (∀W,Calls Tryz.prog 166 #[.string s,.int .i64 ((A:Int)+1)] W (RetB W true)))(YB:Hid (∀W,Calls Tryz.prog 191 #[.string s,.int .i64 ((A:Int)+1)] W (RetI W (E:Int))))(Sp:A+1≤E)(XO:E≤s.size)(hB:s.extract (A+1) E=B)(ZP:0<B.size)(h8:(s[A].toNat:Int)=46)(HE:Hid (∀W,Calls Tryz.prog 163 #[.string s,.int .i64 (E:Int)] W (RetB W z)))(YQ:Hid (z=false∨(1<F.size∧F[0].toNat=48)→R=.no 12))(XW:Hid (z=true→¬(1<F.size∧F[0].toNat=48)→1000<F.size+B.size→R=.no 14))(Yw:Hid (z=true→¬(1<F.size∧F[0].toNat=48)→¬1000<F.size+B.size→R=.yes ⟨3,⟨#[]⟩,Q,0,0⟩ (E-i)∧∀W,Calls Tryz.prog 192 #[.bool true,.string F,.int .u8 46,.string B] W (StE W Q 0))) :
 Calls Tryz.prog 167 #[.string s,.int .i64 (i:Int)] w (zai w i R):=by
 have Xe:F.size≤100000:=by rw[←hF];simp;omega
 have Up:B.size≤100000:=by rw[←hB];simp;omega
 have HF:=Z9 hF;clear hF;have aD:=Z9 hB;have H8:=Z9 h8;clear hB h8;go_enter Tryz.func167,Tryz.ntmps167;go_wp2_with fail;refine(Y6.out _).mono ?_;rintro e w' ⟨rfl,rfl⟩;obtain⟨W2,Z4⟩:∃W2,W2=(w.alloc (.cells #[.int .u8 0,.string ⟨#[]⟩,.string ⟨#[]⟩,.int .i64 0,.int .i64 0] 100)).alloc (.cells #[.int .u8 3,.string ⟨#[]⟩,.string ⟨#[]⟩,.int .i64 0,.int .i64 (i:Int)] 100):=⟨_,rfl⟩
 have hg:W2.heap[w.heap.size]?=some (.cells #[.int .u8 0,.string ⟨#[]⟩,.string ⟨#[]⟩,.int .i64 0,.int .i64 0] 100):=by rw[Z4];exact zaw ..
 have ht:W2.heap[w.heap.size+1]?=some (.cells #[.int .u8 3,.string ⟨#[]⟩,.string ⟨#[]⟩,.int .i64 0,.int .i64 (i:Int)] 100):=by rw[Z4];exact zbc ..
 have Z6:Below w.heap.size w W2:=by rw[Z4];exact(zaf w _).alloc (by simp) _
 rw[←Z4];obtain⟨c0,c1,c2,c3,c4,fz⟩:=zal hg;obtain⟨d0,d1,d2,d3,d4,fy⟩:=zal ht;have HG:=Z9 hg;have HT:=Z9 ht;have aa:=Z9 Z6;clear Z4 hg ht Z6;go_wp2_with fail;refine(HD.out _).mono ?_;rintro e w' ⟨rfl,rfl⟩;go_wp2_with fail;refine(YB.out _).mono ?_;rintro e w' ⟨rfl,rfl⟩;go_wp2_with fail
 try rw[HF.out]
 try rw[aD.out]
 try rw[H8.out]
 refine(HE.out _).mono ?_;rintro e w' ⟨rfl,rfl⟩
 cases z with
 |false =>
  have ab:=Z9 (YQ.out (.inl rfl));go_wp2_with fail;refine bodyPost_ret (zaa rfl _ _ w.heap.size 100 _ _ rfl (zag HG.out _ _ _ _ _) Tryz.underlying100 rfl rfl) rfl ?_;exact zat ab.out (zad aa.out (Nat.le.refl) _ _ _ _ _)
 |true =>
  by_cases hl:1<F.size∧F[0].toNat=48
  ·have ab:=Z9 (YQ.out (.inr hl))
   obtain⟨Zy,YK⟩:=hl;have t48:((F[0].toNat:Int) == 48)=true:=by simp;omega
   clear YK;go_wp2_with fail;refine bodyPost_ret (zaa rfl _ _ w.heap.size 100 _ _ rfl (zag HG.out _ _ _ _ _) Tryz.underlying100 rfl rfl) rfl ?_;exact zat ab.out (zad aa.out (Nat.le.refl) _ _ _ _ _)
  ·have HL:=Z9 hl
   obtain⟨q,hq⟩:∃q,q=((F[0].toNat:Int) == 48):=⟨_,rfl⟩
   have ZE:1<F.size→((F[0].toNat:Int) == 48)=false:=fun h=>by
    have:¬F[0].toNat=48:=fun e=>hl ⟨h,e⟩
    simp;omega
   clear hl hq
   by_cases ZW:1000<F.size+B.size
   ·have ab:=Z9 (XW.out rfl HL.out ZW)
    by_cases Zy:1<F.size
    ·have t48:=ZE Zy
     clear ZE;go_wp2_with fail;refine bodyPost_ret (zaa rfl _ _ w.heap.size 100 _ _ rfl (zag HG.out _ _ _ _ _) Tryz.underlying100 rfl rfl) rfl ?_;exact zat ab.out (zad aa.out (Nat.le.refl) _ _ _ _ _)
    ·clear ZE
     go_wp2_with fail;refine bodyPost_ret (zaa rfl _ _ w.heap.size 100 _ _ rfl (zag HG.out _ _ _ _ _) Tryz.underlying100 rfl rfl) rfl ?_;exact zat ab.out (zad aa.out (Nat.le.refl) _ _ _ _ _)
   ·obtain⟨Y4,YI⟩:=Yw.out rfl HL.out ZW
    have ZL:F.size+B.size≤1000:=by omega
    have ab:=Z9 Y4;have Zx:=Z9 YI;clear ZW Y4 YI;have aO:decide ((i:Int)<(i:Int)+1)=true:=by simp;omega
    by_cases Zy:1<F.size
    ·have t48:=ZE Zy
     clear ZE;go_wp2_with fail;refine(Zx.out _).mono ?_;rintro e w3 ⟨rfl,Z0⟩;have ZY:=(Z0.block _ (Z8 HG.out)).trans HG.out;have af:=(Z0.block _ (Z8 HT.out)).trans HT.out;have ao:=Z9 ((Below.heap_setCell w3 ⟨w.heap.size+1,2,none⟩ (.string Q) w.heap.size (by show w.heap.size≠w.heap.size+1;omega)).trans ZY);have ap:=Z9 ((aa.out.trans (Z0.mono aa.out.size)).setCell (p:=⟨w.heap.size+1,2,none⟩) (Nat.le_succ _) (.string Q));clear c0 c1 c2 c3 c4 fz d0 d1 d2 d3 d4 fy Z0;obtain⟨c0,c1,c2,c3,c4,fz⟩:=zal ZY;obtain⟨d0,d1,d2,d3,d4,fy⟩:=zal af;clear ZY af;go_wp2_with fail;refine bodyPost_ret (zaa rfl _ _ w.heap.size 100 _ _ rfl (zag ao.out _ _ _ _ _) Tryz.underlying100 rfl rfl) rfl ?_
     show zai _ _ _ _ _
     rw[ab.out];exact zap (by omega) (zad ap.out (Nat.le.refl) _ _ _ _ _)
    ·clear ZE
     go_wp2_with fail;refine(Zx.out _).mono ?_;rintro e w3 ⟨rfl,Z0⟩;have ZY:=(Z0.block _ (Z8 HG.out)).trans HG.out;have af:=(Z0.block _ (Z8 HT.out)).trans HT.out;have ao:=Z9 ((Below.heap_setCell w3 ⟨w.heap.size+1,2,none⟩ (.string Q) w.heap.size (by show w.heap.size≠w.heap.size+1;omega)).trans ZY);have ap:=Z9 ((aa.out.trans (Z0.mono aa.out.size)).setCell (p:=⟨w.heap.size+1,2,none⟩) (Nat.le_succ _) (.string Q));clear c0 c1 c2 c3 c4 fz d0 d1 d2 d3 d4 fy Z0;obtain⟨c0,c1,c2,c3,c4,fz⟩:=zal ZY;obtain⟨d0,d1,d2,d3,d4,fy⟩:=zal af;clear ZY af;go_wp2_with fail;refine bodyPost_ret (zaa rfl _ _ w.heap.size 100 _ _ rfl (zag ao.out _ _ _ _ _) Tryz.underlying100 rfl rfl) rfl ?_
     show zai _ _ _ _ _
     rw[ab.out];exact zap (by omega) (zad ap.out (Nat.le.refl) _ _ _ _ _)
theorem zsy(s F B Q:ByteArray)(i A E:Nat)(R:OneR)(z:Bool)(w:World)(hs:s.size≤100000)(hi:i<s.size)(hk:(i+1)≤A)(hA:A≤s.size)(t45:((s[i].toNat:Int) == 45)=true)(Y6:Hid (∀W,Calls Tryz.prog 191 #[.string s,.int .i64 ((i:Int)+1)] W (RetI W (A:Int))))(hF:s.extract (i+1) A=F)(YO:0<F.size)(Yj:A<s.size)(t46:((s[A].toNat:Int) == 46)=false)(t47:((s[A].toNat:Int) == 47)=true)(HD:Hid (∀W,Calls Tryz.prog 166 #[.string s,.int .i64 ((A:Int)+1)] W (RetB W true)))(YB:Hid (∀W,Calls Tryz.prog 191 #[.string s,.int .i64 ((A:Int)+1)] W (RetI W (E:Int))))(Sp:A+1≤E)(XO:E≤s.size)(hB:s.extract (A+1) E=B)(ZP:0<B.size)(h8:(s[A].toNat:Int)=47)(HE:Hid (∀W,Calls Tryz.prog 163 #[.string s,.int .i64 (E:Int)] W (RetB W z)))(YQ:Hid (z=false∨(1<F.size∧F[0].toNat=48)∨B[0].toNat=48→R=.no 12))(XW:Hid (z=true→¬(1<F.size∧F[0].toNat=48)→¬B[0].toNat=48→(1000<F.size∨1000<B.size)→R=.no 14))(Yw:Hid (z=true→¬(1<F.size∧F[0].toNat=48)→¬B[0].toNat=48→¬(1000<F.size∨1000<B.size)→R=.yes ⟨3,⟨#[]⟩,Q,0,0⟩ (E-i)∧∀W,Calls Tryz.prog 192 #[.bool true,.string F,.int .u8 47,.string B] W (StE W Q 0))) :
 Calls Tryz.prog 167 #[.string s,.int .i64 (i:Int)] w (zai w i R):=by
 have Xe:F.size≤100000:=by rw[←hF];simp;omega
 have Up:B.size≤100000:=by rw[←hB];simp;omega
 have HF:=Z9 hF;clear hF;have aD:=Z9 hB;have H8:=Z9 h8;clear hB h8;go_enter Tryz.func167,Tryz.ntmps167;go_wp2_with fail;refine(Y6.out _).mono ?_;rintro e w' ⟨rfl,rfl⟩;obtain⟨W2,Z4⟩:∃W2,W2=(w.alloc (.cells #[.int .u8 0,.string ⟨#[]⟩,.string ⟨#[]⟩,.int .i64 0,.int .i64 0] 100)).alloc (.cells #[.int .u8 3,.string ⟨#[]⟩,.string ⟨#[]⟩,.int .i64 0,.int .i64 (i:Int)] 100):=⟨_,rfl⟩
 have hg:W2.heap[w.heap.size]?=some (.cells #[.int .u8 0,.string ⟨#[]⟩,.string ⟨#[]⟩,.int .i64 0,.int .i64 0] 100):=by rw[Z4];exact zaw ..
 have ht:W2.heap[w.heap.size+1]?=some (.cells #[.int .u8 3,.string ⟨#[]⟩,.string ⟨#[]⟩,.int .i64 0,.int .i64 (i:Int)] 100):=by rw[Z4];exact zbc ..
 have Z6:Below w.heap.size w W2:=by rw[Z4];exact(zaf w _).alloc (by simp) _
 rw[←Z4];obtain⟨c0,c1,c2,c3,c4,fz⟩:=zal hg;obtain⟨d0,d1,d2,d3,d4,fy⟩:=zal ht;have HG:=Z9 hg;have HT:=Z9 ht;have aa:=Z9 Z6;clear Z4 hg ht Z6;go_wp2_with fail;refine(HD.out _).mono ?_;rintro e w' ⟨rfl,rfl⟩;go_wp2_with fail;refine(YB.out _).mono ?_;rintro e w' ⟨rfl,rfl⟩;go_wp2_with fail
 try rw[HF.out]
 try rw[aD.out]
 try rw[H8.out]
 refine(HE.out _).mono ?_;rintro e w' ⟨rfl,rfl⟩
 cases z with
 |false =>
  have ab:=Z9 (YQ.out (.inl rfl));go_wp2_with fail;refine bodyPost_ret (zaa rfl _ _ w.heap.size 100 _ _ rfl (zag HG.out _ _ _ _ _) Tryz.underlying100 rfl rfl) rfl ?_;exact zat ab.out (zad aa.out (Nat.le.refl) _ _ _ _ _)
 |true =>
  by_cases hl:1<F.size∧F[0].toNat=48
  ·have ab:=Z9 (YQ.out (.inr (.inl hl)))
   obtain⟨Zy,YK⟩:=hl;have t48:((F[0].toNat:Int) == 48)=true:=by simp;omega
   clear YK;go_wp2_with fail;refine bodyPost_ret (zaa rfl _ _ w.heap.size 100 _ _ rfl (zag HG.out _ _ _ _ _) Tryz.underlying100 rfl rfl) rfl ?_;exact zat ab.out (zad aa.out (Nat.le.refl) _ _ _ _ _)
  ·have HL:=Z9 hl
   obtain⟨q,hq⟩:∃q,q=((F[0].toNat:Int) == 48):=⟨_,rfl⟩
   have ZE:1<F.size→((F[0].toNat:Int) == 48)=false:=fun h=>by
    have:¬F[0].toNat=48:=fun e=>hl ⟨h,e⟩
    simp;omega
   clear hl hq
   by_cases XI:B[0].toNat=48
   ·have ab:=Z9 (YQ.out (.inr (.inr XI)))
    have u48:((B[0].toNat:Int) == 48)=true:=by simp;omega
    clear XI
    by_cases Zy:1<F.size
    ·have t48:=ZE Zy
     clear ZE;go_wp2_with fail;refine bodyPost_ret (zaa rfl _ _ w.heap.size 100 _ _ rfl (zag HG.out _ _ _ _ _) Tryz.underlying100 rfl rfl) rfl ?_;exact zat ab.out (zad aa.out (Nat.le.refl) _ _ _ _ _)
    ·clear ZE
     go_wp2_with fail;refine bodyPost_ret (zaa rfl _ _ w.heap.size 100 _ _ rfl (zag HG.out _ _ _ _ _) Tryz.underlying100 rfl rfl) rfl ?_;exact zat ab.out (zad aa.out (Nat.le.refl) _ _ _ _ _)
   have u48:((B[0].toNat:Int) == 48)=false:=by simp;omega
   have ax:=Z9 XI;clear XI
   by_cases ZW:(1000<F.size∨1000<B.size)
   ·have ab:=Z9 (XW.out rfl HL.out ax.out ZW)
    have XY:1000<F.size∨(F.size≤1000∧1000<B.size):=by omega
    clear ZW
    rcases XY with ZL |⟨ZL,ZS⟩
    ·have Zy:1<F.size:=by omega
     have t48:=ZE Zy;clear ZE;go_wp2_with fail;refine bodyPost_ret (zaa rfl _ _ w.heap.size 100 _ _ rfl (zag HG.out _ _ _ _ _) Tryz.underlying100 rfl rfl) rfl ?_;exact zat ab.out (zad aa.out (Nat.le.refl) _ _ _ _ _)
    ·by_cases Zy:1<F.size
     ·have t48:=ZE Zy
      clear ZE;go_wp2_with fail;refine bodyPost_ret (zaa rfl _ _ w.heap.size 100 _ _ rfl (zag HG.out _ _ _ _ _) Tryz.underlying100 rfl rfl) rfl ?_;exact zat ab.out (zad aa.out (Nat.le.refl) _ _ _ _ _)
     ·clear ZE
      go_wp2_with fail;refine bodyPost_ret (zaa rfl _ _ w.heap.size 100 _ _ rfl (zag HG.out _ _ _ _ _) Tryz.underlying100 rfl rfl) rfl ?_;exact zat ab.out (zad aa.out (Nat.le.refl) _ _ _ _ _)
   ·obtain⟨Y4,YI⟩:=Yw.out rfl HL.out ax.out ZW
    have ZL:F.size≤1000∧B.size≤1000:=by omega
    have ab:=Z9 Y4;have Zx:=Z9 YI;clear ZW Y4 YI;have aO:decide ((i:Int)<(i:Int)+1)=true:=by simp;omega
    obtain⟨ZL,ZS⟩:=ZL
    by_cases Zy:1<F.size
    ·have t48:=ZE Zy
     clear ZE;go_wp2_with fail;refine(Zx.out _).mono ?_;rintro e w3 ⟨rfl,Z0⟩;have ZY:=(Z0.block _ (Z8 HG.out)).trans HG.out;have af:=(Z0.block _ (Z8 HT.out)).trans HT.out;have ao:=Z9 ((Below.heap_setCell w3 ⟨w.heap.size+1,2,none⟩ (.string Q) w.heap.size (by show w.heap.size≠w.heap.size+1;omega)).trans ZY);have ap:=Z9 ((aa.out.trans (Z0.mono aa.out.size)).setCell (p:=⟨w.heap.size+1,2,none⟩) (Nat.le_succ _) (.string Q));clear c0 c1 c2 c3 c4 fz d0 d1 d2 d3 d4 fy Z0;obtain⟨c0,c1,c2,c3,c4,fz⟩:=zal ZY;obtain⟨d0,d1,d2,d3,d4,fy⟩:=zal af;clear ZY af;go_wp2_with fail;refine bodyPost_ret (zaa rfl _ _ w.heap.size 100 _ _ rfl (zag ao.out _ _ _ _ _) Tryz.underlying100 rfl rfl) rfl ?_
     show zai _ _ _ _ _
     rw[ab.out];exact zap (by omega) (zad ap.out (Nat.le.refl) _ _ _ _ _)
    ·clear ZE
     go_wp2_with fail;refine(Zx.out _).mono ?_;rintro e w3 ⟨rfl,Z0⟩;have ZY:=(Z0.block _ (Z8 HG.out)).trans HG.out;have af:=(Z0.block _ (Z8 HT.out)).trans HT.out;have ao:=Z9 ((Below.heap_setCell w3 ⟨w.heap.size+1,2,none⟩ (.string Q) w.heap.size (by show w.heap.size≠w.heap.size+1;omega)).trans ZY);have ap:=Z9 ((aa.out.trans (Z0.mono aa.out.size)).setCell (p:=⟨w.heap.size+1,2,none⟩) (Nat.le_succ _) (.string Q));clear c0 c1 c2 c3 c4 fz d0 d1 d2 d3 d4 fy Z0;obtain⟨c0,c1,c2,c3,c4,fz⟩:=zal ZY;obtain⟨d0,d1,d2,d3,d4,fy⟩:=zal af;clear ZY af;go_wp2_with fail;refine bodyPost_ret (zaa rfl _ _ w.heap.size 100 _ _ rfl (zag ao.out _ _ _ _ _) Tryz.underlying100 rfl rfl) rfl ?_
     show zai _ _ _ _ _
     rw[ab.out];exact zap (by omega) (zad ap.out (Nat.le.refl) _ _ _ _ _)
set_option linter.unusedVariables false
theorem z4h{t:ByteArray}(h:0<t.size):t.data.toList.head?=some t[0]:=by
 have:=zfe t 0 h;rw[List.drop_zero]at this;rw[this];rfl
theorem zjh{t:ByteArray}(h:0<t.size):(t.data.toList.head?=some 48)↔t[0].toNat=48:=by
 rw[z4h h]
 constructor
 ·intro e;injection e with e;rw[e];rfl
 ·intro e;congr 1;rw[←UInt8.toNat_inj];exact e
theorem zpg{neg:Bool}{F B:ByteArray}{mk n:Nat}{z:Bool}(hF:0<F.size)(hB:mk=47→0<B.size)(h:z=false∨(1<F.size∧F[0].toNat=48)∨(mk=47∧B.data.toList.head?=some 48)):numO neg F.data.toList mk B.data.toList z n=.no 12:=by
 unfold numO;rw[if_pos]
 rcases h with h |⟨h1,h2⟩ |h
 ·exact .inr (.inl h)
 ·exact .inl ⟨by rw[zab];exact h1,(zjh hF).2 h2⟩
 ·exact .inr (.inr h)
theorem zpf{neg:Bool}{F B:ByteArray}{mk n:Nat}{z:Bool}(hF:0<F.size)(hz:z=true)(h1:¬(1<F.size∧F[0].toNat=48))(h2:¬(mk=47∧B.data.toList.head?=some 48))(hb:1000<F.size∨(mk=46∧1000<F.size+B.size)∨1000<B.size):numO neg F.data.toList mk B.data.toList z n=.no 14:=by
 unfold numO;rw[if_neg,if_pos]
 ·rw[zab,zab];exact hb
 ·rintro(⟨a,b⟩ |a |a)
  ·rw[zab]at a;exact h1 ⟨a,(zjh hF).1 b⟩
  ·rw[hz]at a;cases a
  ·exact h2 a
theorem zpe{neg:Bool}{F B:ByteArray}{mk n:Nat}{z:Bool}(hF:0<F.size)(hz:z=true)(h1:¬(1<F.size∧F[0].toNat=48))(h2:¬(mk=47∧B.data.toList.head?=some 48))(hb:¬(1000<F.size∨(mk=46∧1000<F.size+B.size)∨1000<B.size)):numO neg F.data.toList mk B.data.toList z n=.yes ⟨3,bsL [],bsL (zgg neg F.data.toList mk B.data.toList),0,0⟩ n:=by
 unfold numO;rw[if_neg,if_neg]
 ·rw[zab,zab];exact hb
 ·rintro(⟨a,b⟩ |a |a)
  ·rw[zab]at a;exact h1 ⟨a,(zjh hF).1 b⟩
  ·rw[hz]at a;cases a
  ·exact h2 a
theorem zlt(s:ByteArray)(A:Nat)(h:A<s.size):frcQ (s.data.toList.drop A)=(decide (s[A].toNat=46∨s[A].toNat=47) && dgH (s.data.toList.drop (A+1))):=by
 rw[zfe s A h]
 by_cases h2:A+1<s.size
 ·rw[zfe s (A+1) h2];rfl
 ·have:s.data.toList.drop (A+1)=[]:=List.drop_eq_nil_of_le (by rw[zab];omega)
  rw[this]
  show false=_
  rw[show dgH []=false from rfl,Bool.and_false]
theorem zga(s:ByteArray)(k A a:Nat)(h:A=k+a):(s.extract k A).data.toList=(s.data.toList.drop k).take a:=by
 rw[zcb];congr 1;omega
theorem zv2(s:ByteArray)(i k A:Nat)(V0:k=i+numS (s.data.toList.drop i))(hA:A=k+spn dgQ (s.data.toList.drop k))(neg:Bool)(Yd:neg=decide (numS (s.data.toList.drop i)=1)) :
 (frcQ (s.data.toList.drop A)=true→∀E,E=A+1+spn dgQ (s.data.toList.drop (A+1))→numK (s.data.toList.drop i)=numO neg (s.extract k A).data.toList ((s.data.toList.drop A).headD 0).toNat (s.extract (A+1) E).data.toList (endQ (s.data.toList.drop E)) (E-i)) ∧
 (frcQ (s.data.toList.drop A)=false→numK (s.data.toList.drop i)=numO neg (s.extract k A).data.toList 0 [] (endQ (s.data.toList.drop A)) (A-i)):=by
 obtain⟨g,hg⟩:∃g,g=numS (s.data.toList.drop i):=⟨_,rfl⟩
 obtain⟨a,ha⟩:∃a,a=spn dgQ (s.data.toList.drop k):=⟨_,rfl⟩
 rw[←hg]at V0 Yd;rw[←ha]at hA;have e1:(s.data.toList.drop i).drop g=s.data.toList.drop k:=by rw[List.drop_drop,V0]
 have e2:(s.data.toList.drop i).drop (g+a)=s.data.toList.drop A:=by rw[List.drop_drop,hA,V0,Nat.add_assoc]
 have eF:(s.extract k A).data.toList=(s.data.toList.drop k).take a:=zga s k A a hA
 constructor
 ·intro hf E hE
  have eB:(s.extract (A+1) E).data.toList=(s.data.toList.drop (A+1)).take (spn dgQ (s.data.toList.drop (A+1))):=zga s (A+1) E _ hE;unfold numK;dsimp only;rw[←hg,e1,←ha,e2,if_pos hf,List.drop_drop,List.drop_drop,eF,eB,Yd]
  congr 1
  ·rw[hE,Nat.add_assoc]
  ·omega
 ·intro hf
  unfold numK;dsimp only;rw[←hg,e1,←ha,e2,if_neg (by rw[hf];decide),eF,Yd]
  congr 1
  omega
theorem zrc(neg:Bool)(F:ByteArray)(z:Bool)(n:Nat)(R:OneR)(hR:R=numO neg F.data.toList 0 [] z n)(hF:0<F.size)(hd:∀c ∈ F.data.toList,dgQ c=true) :
 (z=false∨(1<F.size∧F[0].toNat=48)→R=.no 12)∧(z=true→¬(1<F.size∧F[0].toNat=48)→1000<F.size→R=.no 14) ∧
 (z=true→¬(1<F.size∧F[0].toNat=48)→¬1000<F.size→R=.yes ⟨3,⟨#[]⟩,⟨(zgg neg F.data.toList 0 []).toArray⟩,0,0⟩ n∧∀W,Calls Tryz.prog 192 #[.bool neg,.string F,.int .u8 0,.string ⟨#[]⟩] W (StE W ⟨(zgg neg F.data.toList 0 []).toArray⟩ 0)):=by
 have ZT:F.data.toList≠[]:=by intro e;have:=zab F;rw[e]at this;simp at this;omega
 refine⟨fun h => ?_,fun hz h1 hb => ?_,fun hz h1 hb=>⟨?_,fun W => ?_⟩⟩
 ·rw[hR];exact zpg (B:=⟨#[]⟩) hF (by intro e;cases e) (by rcases h with h |h;exact .inl h;exact .inr (.inl h))
 ·rw[hR];exact zpf (B:=⟨#[]⟩) hF hz h1 (by rintro⟨e,_⟩;cases e) (.inl hb)
 ·rw[hR];exact zpe (B:=⟨#[]⟩) hF hz h1 (by rintro⟨e,_⟩;cases e) (by rintro(e |⟨e,_⟩ |e);exact hb e;cases e;exact absurd e (by show ¬1000<0;decide))
 ·exact zjb neg F ⟨#[]⟩ 0 W (.inl rfl) ZT hd (by intro c hc;cases hc) (by omega) (by decide) (by intro e;cases e) (by intro e;cases e)
theorem zwj(neg:Bool)(F B:ByteArray)(z:Bool)(n:Nat)(R:OneR)(hR:R=numO neg F.data.toList 46 B.data.toList z n)(hF:0<F.size)(hd:∀c ∈ F.data.toList,dgQ c=true)(hB:0<B.size)(WM:∀c ∈ B.data.toList,dgQ c=true) :
 (z=false∨(1<F.size∧F[0].toNat=48)→R=.no 12)∧(z=true→¬(1<F.size∧F[0].toNat=48)→1000<F.size+B.size→R=.no 14) ∧
 (z=true→¬(1<F.size∧F[0].toNat=48)→¬1000<F.size+B.size→R=.yes ⟨3,⟨#[]⟩,⟨(zgg neg F.data.toList 46 B.data.toList).toArray⟩,0,0⟩ n∧∀W,Calls Tryz.prog 192 #[.bool neg,.string F,.int .u8 46,.string B] W (StE W ⟨(zgg neg F.data.toList 46 B.data.toList).toArray⟩ 0)):=by
 have ZT:F.data.toList≠[]:=by intro e;have:=zab F;rw[e]at this;simp at this;omega
 refine⟨fun h => ?_,fun hz h1 hb => ?_,fun hz h1 hb=>⟨?_,fun W => ?_⟩⟩
 ·rw[hR];exact zpg hF (by intro e;cases e) (by rcases h with h |h;exact .inl h;exact .inr (.inl h))
 ·rw[hR];exact zpf hF hz h1 (by rintro⟨e,_⟩;cases e) (.inr (.inl ⟨rfl,hb⟩))
 ·rw[hR];exact zpe hF hz h1 (by rintro⟨e,_⟩;cases e) (by rintro(e |⟨_,e⟩ |e)<;>omega)
 ·exact zjb neg F B 46 W (.inr (.inl rfl)) ZT hd WM (by omega) (by omega) (fun _=>by omega) (by intro e;cases e)
theorem zwi(neg:Bool)(F B:ByteArray)(z:Bool)(n:Nat)(R:OneR)(hR:R=numO neg F.data.toList 47 B.data.toList z n)(hF:0<F.size)(hd:∀c ∈ F.data.toList,dgQ c=true)(hB:0<B.size)(WM:∀c ∈ B.data.toList,dgQ c=true) :
 (z=false∨(1<F.size∧F[0].toNat=48)∨B[0].toNat=48→R=.no 12)∧(z=true→¬(1<F.size∧F[0].toNat=48)→¬B[0].toNat=48→(1000<F.size∨1000<B.size)→R=.no 14) ∧
 (z=true→¬(1<F.size∧F[0].toNat=48)→¬B[0].toNat=48→¬(1000<F.size∨1000<B.size)→R=.yes ⟨3,⟨#[]⟩,⟨(zgg neg F.data.toList 47 B.data.toList).toArray⟩,0,0⟩ n∧∀W,Calls Tryz.prog 192 #[.bool neg,.string F,.int .u8 47,.string B] W (StE W ⟨(zgg neg F.data.toList 47 B.data.toList).toArray⟩ 0)):=by
 have ZT:F.data.toList≠[]:=by intro e;have:=zab F;rw[e]at this;simp at this;omega
 have Zf:B.data.toList≠[]:=by intro e;have:=zab B;rw[e]at this;simp at this;omega
 refine⟨fun h => ?_,fun hz h1 h2 hb => ?_,fun hz h1 h2 hb=>⟨?_,fun W => ?_⟩⟩
 ·rw[hR];exact zpg hF (fun _=>hB) (by
   rcases h with h |h |h
   ·exact .inl h
   ·exact .inr (.inl h)
   ·exact .inr (.inr ⟨rfl,(zjh hB).2 h⟩))
 ·rw[hR];exact zpf hF hz h1 (fun e=>h2 ((zjh hB).1 e.2)) (by rcases hb with h |h;exact .inl h;exact .inr (.inr h))
 ·rw[hR];exact zpe hF hz h1 (fun e=>h2 ((zjh hB).1 e.2)) (by rintro(e |⟨e,_⟩ |e);exact hb (.inl e);cases e;exact hb (.inr e))
 ·exact zjb neg F B 47 W (.inr (.inr rfl)) ZT hd WM (by omega) (by omega) (by intro e;cases e) (fun _=>⟨Zf,fun e=>h2 ((zjh hB).1 e)⟩)
theorem zql{l:List UInt8}(h:dgH l=true):1≤spn dgQ l:=by
 cases l with
 |nil=>cases h
 |cons c l=>exact zfk h
theorem zmq(s:ByteArray)(i:Nat)(w:World)(hs:s.size≤100000)(hi:i<s.size)(hh:dgQ s[i]=true∨(s[i].toNat=45∧dgH (s.data.toList.drop (i+1))=true)) :
 Calls Tryz.prog 167 #[.string s,.int .i64 (i:Int)] w (zai w i (numK (s.data.toList.drop i))):=by
 have hl:=zfe s i hi
 have run:∀k,k≤s.size→k+spn dgQ (s.data.toList.drop k)≤s.size:=fun k hk=>by
  have:=zd4 dgQ (s.data.toList.drop k);rw[List.length_drop,zab]at this;omega
 by_cases YN:s[i].toNat=45
 ·have hS:numS (s.data.toList.drop i)=1:=by
   rw[hl];unfold numS;rw[if_pos];simp;rw[←UInt8.toNat_inj];exact YN
  have Xg:dgH (s.data.toList.drop (i+1))=true:=by
   rcases hh with h |h
   ·unfold dgQ at h;simp at h;omega
   ·exact h.2
  have t45:((s[i].toNat:Int) == 45)=true:=by simp;omega
  have V0:(i+1)=i+numS (s.data.toList.drop i):=by rw[hS]
  have Yd:true=decide (numS (s.data.toList.drop i)=1):=by rw[hS];rfl
  have Yy:i+1≤s.size:=by omega
  obtain⟨A,hA⟩:∃A,A=(i+1)+spn dgQ (s.data.toList.drop (i+1)):=⟨_,rfl⟩
  have Yj:A≤s.size:=by rw[hA];exact run (i+1) Yy
  have V3:=zql Xg;have ad:(i+1)≤A:=by omega
  obtain⟨n1,n2⟩:=zv2 s i (i+1) A V0 hA true Yd;have Y6:=Z9 (fun W:World=>show Calls Tryz.prog 191 #[.string s,.int .i64 ((i:Int)+1)] W (RetI W (A:Int))from(by have:=zqs s (i+1) W hs Yy;rw[←hA]at this;exact this));have YO:0<(s.extract (i+1) A).size:=by simp;omega
  have ai:∀c ∈ (s.extract (i+1) A).data.toList,dgQ c=true:=by rw[zga s (i+1) A _ hA];exact zbn _ _
  by_cases Z7:A<s.size
  ·by_cases X6:frcQ (s.data.toList.drop A)=true
   ·obtain⟨E,hE⟩:∃E,E=A+1+spn dgQ (s.data.toList.drop (A+1)):=⟨_,rfl⟩
    have hR:=n1 X6 E hE;have ag:=X6;rw[zlt s A Z7,Bool.and_eq_true,decide_eq_true_eq]at ag;obtain⟨Yb,WL⟩:=ag;have ae:A+1≤s.size:=by omega
    have XD:E≤s.size:=by rw[hE];exact run (A+1) ae
    have aN:=zql WL;have az:((s.data.toList.drop A).headD 0).toNat=s[A].toNat:=by rw[zfe s A Z7];rfl
    rw[az]at hR;have HD:=Z9 (fun W:World=>show Calls Tryz.prog 166 #[.string s,.int .i64 ((A:Int)+1)] W (RetB W true)from(by have:=zc3 s (A+1) W ae;rw[WL]at this;exact this));have YB:=Z9 (fun W:World=>show Calls Tryz.prog 191 #[.string s,.int .i64 ((A:Int)+1)] W (RetI W (E:Int))from(by have:=zqs s (A+1) W hs ae;rw[←hE]at this;exact this));have ZP:0<(s.extract (A+1) E).size:=by simp;omega
    have ar:∀c ∈ (s.extract (A+1) E).data.toList,dgQ c=true:=by rw[zga s (A+1) E _ hE];exact zbn _ _
    have HE:=Z9 (fun W:World=>ze3 s E W XD)
    rcases Yb with hm |hm
    ·rw[hm]at hR
     have t46:((s[A].toNat:Int) == 46)=true:=by simp;omega
     obtain⟨l1,l2,l3⟩:=zwj true (s.extract (i+1) A) (s.extract (A+1) E) _ _ _ hR YO ai ZP ar;exact zsz s _ _ _ i A E _ _ w hs hi ad Yj t45 Y6 rfl YO Z7 t46 HD YB (by omega) XD rfl ZP (by omega) HE (Z9 l1) (Z9 l2) (Z9 l3)
    ·rw[hm]at hR
     have t46:((s[A].toNat:Int) == 46)=false:=by simp;omega
     have t47:((s[A].toNat:Int) == 47)=true:=by simp;omega
     obtain⟨l1,l2,l3⟩:=zwi true (s.extract (i+1) A) (s.extract (A+1) E) _ _ _ hR YO ai ZP ar;exact zsy s _ _ _ i A E _ _ w hs hi ad Yj t45 Y6 rfl YO Z7 t46 t47 HD YB (by omega) XD rfl ZP (by omega) HE (Z9 l1) (Z9 l2) (Z9 l3)
   ·have hR:=n2 (Bool.eq_false_iff.2 X6)
    obtain⟨l1,l2,l3⟩:=zrc true (s.extract (i+1) A) _ _ _ hR YO ai;have HE:=Z9 (fun W:World=>ze3 s A W Yj);have ae:A+1≤s.size:=by omega
    rw[zlt s A Z7]at X6
    by_cases Yx:s[A].toNat=46
    ·have WL:dgH (s.data.toList.drop (A+1))=false:=by
      rw[decide_eq_true (.inl Yx),Bool.true_and]at X6;exact Bool.eq_false_iff.2 X6
     have HD:=Z9 (fun W:World=>show Calls Tryz.prog 166 #[.string s,.int .i64 ((A:Int)+1)] W (RetB W false)from(by have:=zc3 s (A+1) W ae;rw[WL]at this;exact this));have t46:((s[A].toNat:Int) == 46)=true:=by simp;omega
     exact zs1 s _ _ i A _ _ w hs hi ad Yj t45 Y6 rfl YO Z7 t46 HD HE (Z9 l1) (Z9 l2) (Z9 l3)
    ·have t46:((s[A].toNat:Int) == 46)=false:=by simp;omega
     by_cases YF:s[A].toNat=47
     ·have WL:dgH (s.data.toList.drop (A+1))=false:=by
       rw[decide_eq_true (.inr YF),Bool.true_and]at X6;exact Bool.eq_false_iff.2 X6
      have HD:=Z9 (fun W:World=>show Calls Tryz.prog 166 #[.string s,.int .i64 ((A:Int)+1)] W (RetB W false)from(by have:=zc3 s (A+1) W ae;rw[WL]at this;exact this));have t47:((s[A].toNat:Int) == 47)=true:=by simp;omega
      exact zs0 s _ _ i A _ _ w hs hi ad Yj t45 Y6 rfl YO Z7 t46 t47 HD HE (Z9 l1) (Z9 l2) (Z9 l3)
     ·have t47:((s[A].toNat:Int) == 47)=false:=by simp;omega
      exact zs2 s _ _ i A _ _ w hs hi ad Yj t45 Y6 rfl YO Z7 t46 t47 HE (Z9 l1) (Z9 l2) (Z9 l3)
  ·have aA:A=s.size:=by omega
   have hR:=n2 (by rw[List.drop_eq_nil_of_le (by rw[zab];omega)];rfl);obtain⟨l1,l2,l3⟩:=zrc true (s.extract (i+1) A) _ _ _ hR YO ai;have HE:=Z9 (fun W:World=>ze3 s A W Yj);exact zs3 s _ _ i A _ _ w hs hi ad Yj t45 Y6 rfl YO aA HE (Z9 l1) (Z9 l2) (Z9 l3)
 ·have hS:numS (s.data.toList.drop i)=0:=by
   rw[hl];unfold numS;rw[if_neg];simp;intro e;exact YN (by rw[e];rfl)
  have Xg:dgH (s.data.toList.drop i)=true:=by
   rcases hh with h |h
   ·rw[hl];exact h
   ·exact absurd h.1 YN
  have t45:((s[i].toNat:Int) == 45)=false:=by simp;omega
  have V0:i=i+numS (s.data.toList.drop i):=by rw[hS];rfl
  have Yd:false=decide (numS (s.data.toList.drop i)=1):=by rw[hS];rfl
  have Yy:i≤s.size:=by omega
  obtain⟨A,hA⟩:∃A,A=i+spn dgQ (s.data.toList.drop i):=⟨_,rfl⟩
  have Yj:A≤s.size:=by rw[hA];exact run i Yy
  have V3:=zql Xg;have ad:i≤A:=by omega
  obtain⟨n1,n2⟩:=zv2 s i i A V0 hA false Yd;have Y6:=Z9 (fun W:World=>show Calls Tryz.prog 191 #[.string s,.int .i64 (i:Int)] W (RetI W (A:Int))from(by have:=zqs s i W hs Yy;rw[←hA]at this;exact this));have YO:0<(s.extract i A).size:=by simp;omega
  have ai:∀c ∈ (s.extract i A).data.toList,dgQ c=true:=by rw[zga s i A _ hA];exact zbn _ _
  by_cases Z7:A<s.size
  ·by_cases X6:frcQ (s.data.toList.drop A)=true
   ·obtain⟨E,hE⟩:∃E,E=A+1+spn dgQ (s.data.toList.drop (A+1)):=⟨_,rfl⟩
    have hR:=n1 X6 E hE;have ag:=X6;rw[zlt s A Z7,Bool.and_eq_true,decide_eq_true_eq]at ag;obtain⟨Yb,WL⟩:=ag;have ae:A+1≤s.size:=by omega
    have XD:E≤s.size:=by rw[hE];exact run (A+1) ae
    have aN:=zql WL;have az:((s.data.toList.drop A).headD 0).toNat=s[A].toNat:=by rw[zfe s A Z7];rfl
    rw[az]at hR;have HD:=Z9 (fun W:World=>show Calls Tryz.prog 166 #[.string s,.int .i64 ((A:Int)+1)] W (RetB W true)from(by have:=zc3 s (A+1) W ae;rw[WL]at this;exact this));have YB:=Z9 (fun W:World=>show Calls Tryz.prog 191 #[.string s,.int .i64 ((A:Int)+1)] W (RetI W (E:Int))from(by have:=zqs s (A+1) W hs ae;rw[←hE]at this;exact this));have ZP:0<(s.extract (A+1) E).size:=by simp;omega
    have ar:∀c ∈ (s.extract (A+1) E).data.toList,dgQ c=true:=by rw[zga s (A+1) E _ hE];exact zbn _ _
    have HE:=Z9 (fun W:World=>ze3 s E W XD)
    rcases Yb with hm |hm
    ·rw[hm]at hR
     have t46:((s[A].toNat:Int) == 46)=true:=by simp;omega
     obtain⟨l1,l2,l3⟩:=zwj false (s.extract i A) (s.extract (A+1) E) _ _ _ hR YO ai ZP ar;exact zs5 s _ _ _ i A E _ _ w hs hi ad Yj t45 Y6 rfl YO Z7 t46 HD YB (by omega) XD rfl ZP (by omega) HE (Z9 l1) (Z9 l2) (Z9 l3)
    ·rw[hm]at hR
     have t46:((s[A].toNat:Int) == 46)=false:=by simp;omega
     have t47:((s[A].toNat:Int) == 47)=true:=by simp;omega
     obtain⟨l1,l2,l3⟩:=zwi false (s.extract i A) (s.extract (A+1) E) _ _ _ hR YO ai ZP ar;exact zs4 s _ _ _ i A E _ _ w hs hi ad Yj t45 Y6 rfl YO Z7 t46 t47 HD YB (by omega) XD rfl ZP (by omega) HE (Z9 l1) (Z9 l2) (Z9 l3)
   ·have hR:=n2 (Bool.eq_false_iff.2 X6)
    obtain⟨l1,l2,l3⟩:=zrc false (s.extract i A) _ _ _ hR YO ai;have HE:=Z9 (fun W:World=>ze3 s A W Yj);have ae:A+1≤s.size:=by omega
    rw[zlt s A Z7]at X6
    by_cases Yx:s[A].toNat=46
    ·have WL:dgH (s.data.toList.drop (A+1))=false:=by
      rw[decide_eq_true (.inl Yx),Bool.true_and]at X6;exact Bool.eq_false_iff.2 X6
     have HD:=Z9 (fun W:World=>show Calls Tryz.prog 166 #[.string s,.int .i64 ((A:Int)+1)] W (RetB W false)from(by have:=zc3 s (A+1) W ae;rw[WL]at this;exact this));have t46:((s[A].toNat:Int) == 46)=true:=by simp;omega
     exact zs7 s _ _ i A _ _ w hs hi ad Yj t45 Y6 rfl YO Z7 t46 HD HE (Z9 l1) (Z9 l2) (Z9 l3)
    ·have t46:((s[A].toNat:Int) == 46)=false:=by simp;omega
     by_cases YF:s[A].toNat=47
     ·have WL:dgH (s.data.toList.drop (A+1))=false:=by
       rw[decide_eq_true (.inr YF),Bool.true_and]at X6;exact Bool.eq_false_iff.2 X6
      have HD:=Z9 (fun W:World=>show Calls Tryz.prog 166 #[.string s,.int .i64 ((A:Int)+1)] W (RetB W false)from(by have:=zc3 s (A+1) W ae;rw[WL]at this;exact this));have t47:((s[A].toNat:Int) == 47)=true:=by simp;omega
      exact zs6 s _ _ i A _ _ w hs hi ad Yj t45 Y6 rfl YO Z7 t46 t47 HD HE (Z9 l1) (Z9 l2) (Z9 l3)
     ·have t47:((s[A].toNat:Int) == 47)=false:=by simp;omega
      exact zs8 s _ _ i A _ _ w hs hi ad Yj t45 Y6 rfl YO Z7 t46 t47 HE (Z9 l1) (Z9 l2) (Z9 l3)
  ·have aA:A=s.size:=by omega
   have hR:=n2 (by rw[List.drop_eq_nil_of_le (by rw[zab];omega)];rfl);obtain⟨l1,l2,l3⟩:=zrc false (s.extract i A) _ _ _ hR YO ai;have HE:=Z9 (fun W:World=>ze3 s A W Yj);exact zs9 s _ _ i A _ _ w hs hi ad Yj t45 Y6 rfl YO aA HE (Z9 l1) (Z9 l2) (Z9 l3)
def NumQ(w:World)(v q:Int)(e:Ending)(w':World):Prop:=e=.returned (.tuple #[.int .i64 v,.int .i64 q])∧Below w.heap.size w w'
theorem zg1{n a b:Int}{r:Bool}(h:inB n a b=r):Hid (∀W,Calls Tryz.prog 218 #[.int .i64 n,.int .i64 a,.int .i64 b] W (RetB W r)):=fun W=>h ▸ zwp n a b W
theorem z2y(y m d:Int)(w:World)(I1:Hid (∀W,Calls Tryz.prog 218 #[.int .i64 y,.int .i64 1900,.int .i64 2173] W (RetB W false))) :
 Calls Tryz.prog 190 #[.int .i64 y,.int .i64 m,.int .i64 d] w (NumQ w 0 2):=by
 go_enter Tryz.func190,Tryz.ntmps190;go_wp2_with fail;refine(I1.out _).mono ?_;rintro e w' ⟨rfl,rfl⟩;go_wp2_with fail;go_ret2;exact⟨rfl,Below.refl _ _⟩
theorem z2x(y m d:Int)(w:World)(I1:Hid (∀W,Calls Tryz.prog 218 #[.int .i64 y,.int .i64 1900,.int .i64 2173] W (RetB W true)))
 (I2:Hid (∀W,Calls Tryz.prog 218 #[.int .i64 m,.int .i64 1,.int .i64 12] W (RetB W false))) :
 Calls Tryz.prog 190 #[.int .i64 y,.int .i64 m,.int .i64 d] w (NumQ w 0 2):=by
 go_enter Tryz.func190,Tryz.ntmps190;go_wp2_with fail;refine(I1.out _).mono ?_;rintro e w' ⟨rfl,rfl⟩;go_wp2_with fail;refine(I2.out _).mono ?_;rintro e w' ⟨rfl,rfl⟩;go_wp2_with fail;go_ret2;exact⟨rfl,Below.refl _ _⟩
theorem z2w(y m d n:Int)(w:World)(I1:Hid (∀W,Calls Tryz.prog 218 #[.int .i64 y,.int .i64 1900,.int .i64 2173] W (RetB W true)))
 (I2:Hid (∀W,Calls Tryz.prog 218 #[.int .i64 m,.int .i64 1,.int .i64 12] W (RetB W true)))
 (IL:Hid (∀W,Calls Tryz.prog 197 #[.int .i64 y,.int .i64 m] W (RetI W n)))
 (I3:Hid (∀W,Calls Tryz.prog 218 #[.int .i64 d,.int .i64 1,.int .i64 n] W (RetB W false))) :
 Calls Tryz.prog 190 #[.int .i64 y,.int .i64 m,.int .i64 d] w (NumQ w 0 2):=by
 go_enter Tryz.func190,Tryz.ntmps190;go_wp2_with fail;refine(I1.out _).mono ?_;rintro e w' ⟨rfl,rfl⟩;go_wp2_with fail;refine(I2.out _).mono ?_;rintro e w' ⟨rfl,rfl⟩;go_wp2_with fail;refine(IL.out _).mono ?_;rintro e w' ⟨rfl,rfl⟩;go_wp2_with fail;refine(I3.out _).mono ?_;rintro e w' ⟨rfl,rfl⟩;go_wp2_with fail;go_ret2;exact⟨rfl,Below.refl _ _⟩
def RofY(d y:Nat)(dv iv:Value):Prop:=∃i:Nat,1900≤i∧i≤y∧iv=.int .i64 (i:Int)∧dv=.int .i64 ((yd i+(d-1):Nat):Int)
def RofM(d y m:Nat)(dv iv:Value):Prop:=∃i:Nat,1≤i∧i≤m∧iv=.int .i64 (i:Int)∧dv=.int .i64 ((yd y+mdR y (i-1)+(d-1):Nat):Int)
theorem z5h(y m d n:Nat)(w:World)(WG:1900≤y)(XC:y≤2173)(Xk:1≤m)(W9:m≤12)(Xr:1≤d)(WA:d≤31)
 (I1:Hid (∀W,Calls Tryz.prog 218 #[.int .i64 (y:Int),.int .i64 1900,.int .i64 2173] W (RetB W true)))
 (I2:Hid (∀W,Calls Tryz.prog 218 #[.int .i64 (m:Int),.int .i64 1,.int .i64 12] W (RetB W true)))
 (IL:Hid (∀W,Calls Tryz.prog 197 #[.int .i64 (y:Int),.int .i64 (m:Int)] W (RetI W (n:Int))))
 (I3:Hid (∀W,Calls Tryz.prog 218 #[.int .i64 (d:Int),.int .i64 1,.int .i64 (n:Int)] W (RetB W true))) :
 Calls Tryz.prog 190 #[.int .i64 (y:Int),.int .i64 (m:Int),.int .i64 (d:Int)] w (NumQ w (if yd y+mdR y (m-1)+(d-1)≤99999 then((yd y+mdR y (m-1)+(d-1):Nat):Int)else 0) (if yd y+mdR y (m-1)+(d-1)≤99999 then 0 else 2)):=by
 obtain⟨R,hR⟩:∃R:Int,R=(if yd y+mdR y (m-1)+(d-1)≤99999 then((yd y+mdR y (m-1)+(d-1):Nat):Int)else 0):=⟨_,rfl⟩
 obtain⟨Q,hQ⟩:∃Q:Int,Q=(if yd y+mdR y (m-1)+(d-1)≤99999 then 0 else 2):=⟨_,rfl⟩
 rw[←hR,←hQ]
 have ak:Hid (yd y+mdR y (m-1)+(d-1)≤99999→R=((yd y+mdR y (m-1)+(d-1):Nat):Int)∧Q=0):=fun h=>by rw[hR,hQ,if_pos h,if_pos h];exact⟨rfl,rfl⟩
 have al:Hid (¬yd y+mdR y (m-1)+(d-1)≤99999→R=0∧Q=2):=fun h=>by rw[hR,hQ,if_neg h,if_neg h];exact⟨rfl,rfl⟩
 clear hR hQ;have Tq:Hid (RofY d y (.int .i64 ((d:Int)-1)) (.int .i64 1900)):=⟨1900,Nat.le.refl,WG,rfl,by rw[zxx];congr 1;omega⟩
 have HY:Hid (∀i,1900≤i→i≤y→yd i≤200000):=fun i h1 h2=>by
  have a:=zky (a:=i) (b:=2174) h1 (by omega);have b:yd 2174=100077:=by decide
  omega
 have HM:Hid (∀i,i≤m→mdR y (i-1)≤372):=fun i hi=>by
  have a:=zif y (a:=i-1) (b:=12) (by omega);rw[zq9]at a
  split at a<;>omega
 go_enter Tryz.func190,Tryz.ntmps190;go_wp2_with fail;refine(I1.out _).mono ?_;rintro e w' ⟨rfl,rfl⟩;go_wp2_with fail;refine(I2.out _).mono ?_;rintro e w' ⟨rfl,rfl⟩;go_wp2_with fail;refine(IL.out _).mono ?_;rintro e w' ⟨rfl,rfl⟩;go_wp2_with fail;refine(I3.out _).mono ?_;rintro e w' ⟨rfl,rfl⟩;go_wp2_with fail;clear I1 I2 I3 IL;go_loop [8,9] (RofY d y) (fun _ i=>y-(intOf i).toNat)
 case atStart=>exact Tq.out
 case round =>
  obtain⟨i,UA,Xy,rfl,rfl⟩:=hrel
  by_cases Z7:i<y
  ·have hL:=zmr i w (by omega)
   have hb:=HY.out i UA Xy;have hs:=zoj UA;obtain⟨z,hz⟩:∃z,z=zfp i:=⟨_,rfl⟩
   rw[←hz]at hL hs;obtain⟨Y,hY⟩:∃Y,Y=yd i:=⟨_,rfl⟩
   rw[←hY]at hb hs ⊢;have aj:Hid (RofY d y (.int .i64 (((Y+(d-1):Nat):Int)+365+(if z=true then 1 else 0))) (.int .i64 ((i:Int)+1))):=⟨i+1,by omega,by omega,rfl,by rw[hs];congr 1;split<;>omega⟩;have HL:=Z9 hL;clear hL hs hz hY Tq
   cases z
   all_goals
    have aj:=aj.out;simp only[Bool.false_eq_true,if_true,if_false,Int.add_zero]at aj;have aj:=Z9 aj;go_wp2_with fail;refine HL.out.mono ?_;rintro e w' ⟨rfl,rfl⟩;go_wp2_with fail;go_round
    case rel=>exact aj.out
    case measure=>simp[intOf];omega
  ·obtain rfl:i=y:=by omega
   have Wa:=HY.out i UA Xy;have VS:Hid (RofM d i m (.int .i64 ((yd i+(d-1):Nat):Int)) (.int .i64 1)):=⟨1,Nat.le.refl,Xk,rfl,by simp[mdR]⟩;clear Tq Z7;go_wp2_with fail;go_loop [8,10] (RofM d i m) (fun _ j=>m-(intOf j).toNat)
   case atStart=>exact VS.out
   case round =>
    obtain⟨j,SC,aP,rfl,rfl⟩:=hrel;have aS:=HM.out j aP
    by_cases UY:j<m
    ·have hL:=znc i j w (by omega) SC (by omega)
     have hs:mdR i (j+1-1)=mdR i (j-1)+zcu i j:=by
      obtain⟨k,rfl⟩:∃k,j=k+1:=⟨j-1,by omega⟩
      rfl
     have ay:=zd8 i j;obtain⟨z,hz⟩:∃z,z=zcu i j:=⟨_,rfl⟩
     rw[←hz]at hL hs ay;obtain⟨M,hM⟩:∃M,M=mdR i (j-1):=⟨_,rfl⟩
     rw[←hM]at hs aS ⊢;have aj:Hid (RofM d i m (.int .i64 ((yd i:Int)+(M:Int)+((d-1:Nat):Int)+(z:Int))) (.int .i64 ((j:Int)+1))):=⟨j+1,by omega,by omega,rfl,by rw[hs];congr 1;omega⟩;have HL:=Z9 hL;clear hL hs hz hM VS;go_wp2_with fail;refine HL.out.mono ?_;rintro e w' ⟨rfl,rfl⟩;go_wp2_with fail;go_round
     case rel=>exact aj.out
     case measure=>simp[intOf];omega
    ·obtain rfl:j=m:=by omega
     obtain⟨D,hD⟩:∃D,D=yd i+mdR i (j-1)+(d-1):=⟨_,rfl⟩
     have ak:=ak.out;have al:=al.out;rw[←hD]at ak al ⊢;have ak:=Z9 ak;have al:=Z9 al;have hD2:D≤300000:=by omega
     by_cases h9:D≤99999
     ·have HR:=zvj (n:=(D:Int)) (b:=true) (by unfold inB;simp;omega)
      have e:=Z9 (ak.out h9);clear VS HM HY hD ak al;go_wp2_with fail;refine(HR.out _).mono ?_;rintro e w' ⟨rfl,rfl⟩;go_wp2_with fail;go_ret2;exact⟨zi5 e.out.1.symm e.out.2.symm,Below.refl _ _⟩
     ·have HR:=zvj (n:=(D:Int)) (b:=false) (by unfold inB;simp;omega)
      have e:=Z9 (al.out h9);clear VS HM HY hD ak al;go_wp2_with fail;refine(HR.out _).mono ?_;rintro e w' ⟨rfl,rfl⟩;go_wp2_with fail;go_ret2;exact⟨zi5 e.out.1.symm e.out.2.symm,Below.refl _ _⟩
theorem zu6(y m d:Nat):∃v q:Int,(∀w,Calls Tryz.prog 190 #[.int .i64 (y:Int),.int .i64 (m:Int),.int .i64 (d:Int)] w (NumQ w v q)) ∧
 ((1900≤y∧1≤m∧m≤12∧1≤d∧d≤zcu y m∧yd y+mdR y (m-1)+d≤100000)→v=((yd y+mdR y (m-1)+d-1:Nat):Int)∧q=0) ∧
 (¬(1900≤y∧1≤m∧m≤12∧1≤d∧d≤zcu y m∧yd y+mdR y (m-1)+d≤100000)→q≠0):=by
 by_cases h1:1900≤y∧y≤2173
 ·by_cases h2:1≤m∧m≤12
  ·by_cases h3:1≤d∧d≤zcu y m
   ·have hl:=zd8 y m
    refine⟨_,_,fun w=>z5h y m d (zcu y m) w h1.1 h1.2 h2.1 h2.2 h3.1 (by omega) (zg1 (by unfold inB;simp;omega)) (zg1 (by unfold inB;simp;omega)) (zra y m _ (by omega) h2.1 h2.2 rfl) (zg1 (by unfold inB;simp;omega)),?_,?_⟩
    ·rintro⟨_,_,_,_,_,h⟩
     rw[if_pos (by omega),if_pos (by omega)];exact⟨by congr 1;omega,rfl⟩
    ·intro h
     rw[if_neg (by intro e;exact h ⟨h1.1,h2.1,h2.2,h3.1,h3.2,by omega⟩)];decide
   ·exact⟨0,2,fun w=>z2w y m d (zcu y m) w (zg1 (by unfold inB;simp;omega)) (zg1 (by unfold inB;simp;omega)) (zra y m _ (by omega) h2.1 h2.2 rfl) (zg1 (by unfold inB;simp;omega)),fun⟨_,_,_,a,b,_⟩=>absurd ⟨a,b⟩ h3,fun _=>by decide⟩
  ·exact⟨0,2,fun w=>z2x y m d w (zg1 (by unfold inB;simp;omega)) (zg1 (by unfold inB;simp;omega)),fun⟨_,a,b,_⟩=>absurd ⟨a,b⟩ h2,fun _=>by decide⟩
 ·refine⟨0,2,fun w=>z2y y m d w (zg1 (by unfold inB;simp;omega)),?_,fun _=>by decide⟩
  rintro⟨a,_,_,_,_,b⟩
  exfalso
  have b1:=zky (a:=2174) (b:=y) (by omega) (by omega);have b2:yd 2174=100077:=by decide
  omega
theorem zvx{w:World}{g:Nat}{cs:Array Value}{t:TypeId}(h:w.heap[g]?=some (.cells cs t))(i:Nat)(v:Value):(w.setCell ⟨g,i,none⟩ v).heap[g]?=some (.cells (cs.setIfInBounds i v) t):=by
 simp[World.setCell,Array.getElem?_modify,h]
theorem z3m(V:World)(O:Obj):(V.alloc O).heap[V.heap.size]?=some O:=by
 show(V.heap.push O)[V.heap.size]?=some O
 rw[Array.getElem?_push,if_pos rfl]
theorem z7b{V:World}{O:Obj}{q:Nat}(h:V.heap[q]?=some O):q<V.heap.size:=(Z8 h)
def pA(l:List UInt8)(k:Nat):Nat:=numV ((l.take k).take 4)
def pB(l:List UInt8)(k:Nat):Nat:=numV (((l.take k).drop 5).take 2)
def pC(l:List UInt8)(k:Nat):Nat:=numV (((l.take k).drop 8).take 2)
def pAt(k:Nat):Nat:=if k≤4 then 0 else if k≤7 then 1 else 2
def dOk(k:Nat)(c:UInt8):Prop:=if k=4∨k=7 then c.toNat=45 else 48≤c.toNat∧c.toNat≤57
def OkD(l:List UInt8)(k:Nat):Prop:=∀i c,i<k→l[i]?=some c→dOk i c
theorem z6a{l:List UInt8}(h:l.length=10):∃a b c d e f g i j k,l=[a,b,c,d,e,f,g,i,j,k]:=by
 match l,h with
 | [a,b,c,d,e,f,g,i,j,k],_=>exact⟨a,b,c,d,e,f,g,i,j,k,rfl⟩
theorem OkD.next{l:List UInt8}{k:Nat}{c:UInt8}(h:OkD l k)(hc:l[k]?=some c)(h2:dOk k c):OkD l (k+1):=fun i x hi hx=>by
 by_cases e:i=k
 ·subst e
  rw[hc]at hx
  rwa [←Option.some.inj hx]
 ·exact h i x (by omega) hx
theorem z68{l:List UInt8}(hl:l.length=10){k:Nat}{c:UInt8}(hk:k<10)(hc:l[k]?=some c) :
 (k<4→pA l (k+1)=10*pA l k+(c.toNat-48)∧pB l (k+1)=pB l k∧pC l (k+1)=pC l k∧pAt (k+1)=pAt k∧pAt k=0) ∧
 (k=4→pA l (k+1)=pA l k∧pB l (k+1)=pB l k∧pC l (k+1)=pC l k∧pAt (k+1)=1∧pAt k=0) ∧
 (k=5∨k=6→pA l (k+1)=pA l k∧pB l (k+1)=10*pB l k+(c.toNat-48)∧pC l (k+1)=pC l k∧pAt (k+1)=pAt k∧pAt k=1) ∧
 (k=7→pA l (k+1)=pA l k∧pB l (k+1)=pB l k∧pC l (k+1)=pC l k∧pAt (k+1)=2∧pAt k=1) ∧
 (k=8∨k=9→pA l (k+1)=pA l k∧pB l (k+1)=pB l k∧pC l (k+1)=10*pC l k+(c.toNat-48)∧pAt (k+1)=pAt k∧pAt k=2):=by
 obtain⟨c0,c1,c2,c3,c4,c5,c6,c7,c8,c9,rfl⟩:=z6a hl;have Za:k=0∨k=1∨k=2∨k=3∨k=4∨k=5∨k=6∨k=7∨k=8∨k=9:=by omega
 rcases Za with rfl |rfl |rfl |rfl |rfl |rfl |rfl |rfl |rfl |rfl
 all_goals
  obtain rfl:=Option.some.inj hc
  refine⟨?_,?_,?_,?_,?_⟩<;>intro hk'<;>first |(exfalso;omega;done) |exact⟨rfl,rfl,rfl,rfl,rfl⟩
theorem z1s{l:List UInt8}(hl:l.length=10){k:Nat}(hk:k≤10)(h:OkD l k):pA l k≤9999∧pB l k≤99∧pC l k≤99∧(k≤3→pA l k≤999)∧(k≤6→pB l k≤9)∧(k≤9→pC l k≤9):=by
 have key:∀m:List UInt8,∀n,(∀c ∈ m,48≤c.toNat∧c.toNat≤57)→m.length≤n→numV m<10 ^ n:=fun m n hm hn=>Nat.lt_of_lt_of_le (zeg m hm) (Nat.pow_le_pow_right (by omega) hn)
 have dg:∀i c,i<k→l[i]?=some c→i≠4→i≠7→48≤c.toNat∧c.toNat≤57:=fun i c hi hc h4 h7=>by
  have:=h i c hi hc;unfold dOk at this
  rwa [if_neg (by omega)]at this
 have d1:∀c ∈ (l.take k).take 4,48≤c.toNat∧c.toNat≤57:=fun c hc=>by
  obtain⟨i,hi⟩:=List.getElem?_of_mem hc
  have an:i<4∧i<k:=by
   have:=(List.getElem?_eq_some_iff.1 hi).1;simp at this;omega
  rw[List.getElem?_take_of_lt an.1,List.getElem?_take_of_lt an.2]at hi;exact dg i c an.2 hi (by omega) (by omega)
 have d2:∀a,a+2≤10→5≤a→a≠6→a≠7→∀c ∈ ((l.take k).drop a).take 2,48≤c.toNat∧c.toNat≤57:=fun a ha ha5 ha6 ha7 c hc=>by
  obtain⟨i,hi⟩:=List.getElem?_of_mem hc
  have an:i<2∧a+i<k:=by
   have:=(List.getElem?_eq_some_iff.1 hi).1;simp at this;omega
  rw[List.getElem?_take_of_lt an.1,List.getElem?_drop,List.getElem?_take_of_lt an.2]at hi;exact dg (a+i) c an.2 hi (by omega) (by omega)
 have e1:=key _ 4 d1 (by simp;omega);have e2:=key _ 2 (d2 5 (by omega) (by omega) (by omega) (by omega)) (by simp;omega);have e3:=key _ 2 (d2 8 (by omega) (by omega) (by omega) (by omega)) (by simp;omega)
 have e4:k≤3→numV ((l.take k).take 4)<10 ^ 3:=fun V1=>key _ 3 d1 (by simp;omega)
 have e5:k≤6→numV (((l.take k).drop 5).take 2)<10 ^ 1:=fun V1=>key _ 1 (d2 5 (by omega) (by omega) (by omega) (by omega)) (by simp;omega)
 have e6:k≤9→numV (((l.take k).drop 8).take 2)<10 ^ 1:=fun V1=>key _ 1 (d2 8 (by omega) (by omega) (by omega) (by omega)) (by simp;omega)
 unfold pA pB pC;refine⟨by omega,by omega,by omega,fun h => ?_,fun h => ?_,fun h => ?_⟩
 ·have:=e4 h;omega
 ·have:=e5 h;omega
 ·have:=e6 h;omega
def PdR(w:World)(l:List UInt8)(av iv:Value)(wr:World):Prop :=
 ∃k:Nat,k≤10∧iv=.int .i64 (k:Int)∧av=.int .i64 (pAt k:Int)∧wr.heap[w.heap.size]?=some (.cells #[.int .i64 (pA l k:Int),.int .i64 (pB l k:Int),.int .i64 (pC l k:Int)] 203)∧Below w.heap.size w wr∧OkD l k
theorem PdR.drew{w wr:World}{l:List UInt8}{a i:Value}(h:PdR w l a i wr):PdR w l a i wr.drew:=by
 obtain⟨k,h1,h2,h3,h4,h5,h6⟩:=h;exact⟨k,h1,h2,h3,h4,h5.drew,h6⟩
theorem z7m{W:World}{g:Nat}{a b c:Value}{t:TypeId}(h:W.heap[g]?=some (.cells #[a,b,c] t)):W.cell? ⟨g,0,none⟩=some a∧W.cell? ⟨g,1,none⟩=some b∧W.cell? ⟨g,2,none⟩=some c:=by
 refine⟨?_,?_,?_⟩<;>simp[World.cell?,h]
theorem z4i{W:World}{g:Nat}{a b c:Value}{t:TypeId}(h:W.heap[g]?=some (.cells #[a,b,c] t))(i:Nat):W.frozen? ⟨g,i,none⟩=false:=by
 simp[World.frozen?,h]
theorem zsh(s:ByteArray)(w:World)(Za:s.size=10)(R Q:Int)(HN:Hid (∀k c,k<10→s.data.toList[k]?=some c→¬dOk k c→R=0∧Q=12))
 (HY:Hid (OkD s.data.toList 10→∀W,Calls Tryz.prog 190 #[.int .i64 (pA s.data.toList 10:Int),.int .i64 (pB s.data.toList 10:Int),.int .i64 (pC s.data.toList 10:Int)] W (NumQ W R Q))) :
 Calls Tryz.prog 164 #[.string s] w (NumQ w R Q):=by
 obtain⟨l,hl⟩:∃l,l=s.data.toList:=⟨_,rfl⟩
 have Z5:l.length=10:=by rw[hl,zab,Za]
 have HL:=Z9 hl;have aw:=Z9 Z5;rw[←hl]at HN HY;have aV:=Z9 Za
 have ZA:Hid (∀wr,wr.heap[w.heap.size]?=some (.cells #[.int .i64 0,.int .i64 0,.int .i64 0] 203)→Below w.heap.size w wr→PdR w l (.int .i64 0) (.int .i64 0) wr):=fun wr h1 h2=>⟨0,by omega,rfl,rfl,by simpa[pA,pB,pC,numV]using h1,h2,fun i c hi=>absurd hi (Nat.not_lt_zero _)⟩
 clear hl Z5;go_enter Tryz.func164,Tryz.ntmps164;go_wp2_with fail;go_loopw [5,6] (PdR w l) (fun _ i _=>10-(intOf i).toNat)
 case atStart=>exact ZA.out _ (z3m _ _) (zaf _ _)
 case round =>
  obtain⟨w1,rfl⟩:∃w1:World,w1=wr:=⟨_,rfl⟩
  obtain⟨k,hk,rfl,rfl,ho,hb,WU⟩:=hrel;have XL:w.heap.size<w1.heap.size:=z7b ho;have HB:=Z9 hb;have HO:=Z9 ho;have Yw:=Z9 WU;obtain⟨q0,q1,q2⟩:=z7m ho;have qf:=z4i ho;have bd:=z1s aw.out hk WU
  by_cases Z7:k<10
  ·have Wh:k<s.size:=by rw[Za];exact Z7
   have hc:l[k]?=some s[k]:=by rw[HL.out];exact Lib.data_getElem? s k Wh
   have HC:=Z9 hc
   have am:Hid (¬dOk k s[k]→R=0∧Q=12):=fun h=>HN.out k _ Z7 hc h
   have hp:=z68 aw.out Z7 hc;have HP:=Z9 hp;clear ho hb WU hc hp ZA
   by_cases hd:k=4∨k=7
   ·by_cases YN:s[k].toNat=45
    ·have NX:Hid (PdR w l (.int .i64 ((pAt k:Int)+1)) (.int .i64 ((k:Int)+1)) w1):=by
      obtain⟨p1,p2,p3,p4,p5⟩:=HP.out;refine⟨k+1,Z7,by simp,?_,?_,HB.out,Yw.out.next HC.out (by unfold dOk;rw[if_pos hd];exact YN)⟩
      ·rcases hd with e |e
       ·rw[(p2 e).2.2.2.1,(p2 e).2.2.2.2];rfl
       ·rw[(p4 e).2.2.2.1,(p4 e).2.2.2.2];rfl
      ·rcases hd with e |e
       ·rw[(p2 e).1,(p2 e).2.1,(p2 e).2.2.1];exact HO.out
       ·rw[(p4 e).1,(p4 e).2.1,(p4 e).2.2.1];exact HO.out
     have ZB:pAt k≤2:=by
      unfold pAt
      repeat' split
      all_goals omega
     obtain⟨a,ha⟩:∃a,a=pAt k:=⟨_,rfl⟩
     rw[←ha]at NX ZB ⊢;clear ha am bd q0 q1 q2
     rcases hd with rfl |rfl
     all_goals
      go_wp2_with fail;go_roundw
      case rel=>simpa using NX.out
      case measure=>simp[intOf]
    ·have e:=Z9 (am.out (by unfold dOk;rw[if_pos hd];exact YN))
     obtain⟨a,ha⟩:∃a,a=pAt k:=⟨_,rfl⟩
     rw[←ha];clear ha am bd q0 q1 q2
     rcases hd with rfl |rfl
     all_goals
      go_wp2_with fail;go_ret2;exact⟨zi5 e.out.1.symm e.out.2.symm,HB.out⟩
   ·have t4:((k:Int) == 4)=false:=by simp;omega
    have t7:((k:Int) == 7)=false:=by simp;omega
    by_cases c1:s[k].toNat<48
    ·have e:=Z9 (am.out (by unfold dOk;rw[if_neg hd];omega))
     obtain⟨a,ha⟩:∃a,a=pAt k:=⟨_,rfl⟩
     rw[←ha];clear ha am bd q0 q1 q2;go_wp2_with fail;go_ret2;exact⟨zi5 e.out.1.symm e.out.2.symm,HB.out⟩
    ·by_cases c2:57<s[k].toNat
     ·have e:=Z9 (am.out (by unfold dOk;rw[if_neg hd];omega))
      obtain⟨a,ha⟩:∃a,a=pAt k:=⟨_,rfl⟩
      rw[←ha];clear ha am bd q0 q1 q2;go_wp2_with fail;go_ret2;exact⟨zi5 e.out.1.symm e.out.2.symm,HB.out⟩
     ·have aR:dOk k s[k]:=by unfold dOk;rw[if_neg hd];omega
      have NX:Hid (∀x y z:Int,x=(pA l (k+1):Int)→y=(pB l (k+1):Int)→z=(pC l (k+1):Int)→∀W:World,W.heap[w.heap.size]?=some (.cells #[.int .i64 x,.int .i64 y,.int .i64 z] 203)→Below w.heap.size w W→pAt (k+1)=pAt k→PdR w l (.int .i64 (pAt k:Int)) (.int .i64 ((k:Int)+1)) W):=fun x y z hx hy hz W hW aT ha=>⟨k+1,Z7,by simp,by rw[ha],by rw[hW,hx,hy,hz],aT,Yw.out.next HC.out aR⟩
      clear am
      by_cases k3:k<4
      ·have pp:=HP.out.1 k3
       have hA:=bd.2.2.2.1 (by omega)
       have NX2:Hid (∀W:World,W.heap[w.heap.size]?=some (.cells #[.int .i64 (10*(pA l k:Int)+(s[k].toNat:Int)-48),.int .i64 (pB l k:Int),.int .i64 (pC l k:Int)] 203)→Below w.heap.size w W→PdR w l (.int .i64 0) (.int .i64 ((k:Int)+1)) W):=fun W h1 h2=>by
        have:=NX.out _ _ _ (by rw[pp.1];omega) (by rw[pp.2.1]) (by rw[pp.2.2.1]) W h1 h2 pp.2.2.2.1;rw[pp.2.2.2.2]at this;exact this
       rw[pp.2.2.2.2];obtain⟨A,ah⟩:∃A,A=pA l k:=⟨_,rfl⟩
       have NX3:Hid (PdR w l (.int .i64 0) (.int .i64 ((k:Int)+1)) (w1.setCell ⟨w.heap.size,0,none⟩ (.int .i64 (10*(A:Int)+(s[k].toNat:Int)-48)))):=by
        rw[ah];exact NX2.out _ (by simpa using zvx HO.out 0 _) (HB.out.setCell (Nat.le.refl) _)
       rw[←ah]at hA q0;clear NX NX2 pp bd ah HP
       go_upto_region 14 with(fail)
       go_region
       all_goals
        go_wp2_with fail;go_roundw
        case rel=>exact PdR.drew NX3.out
        case measure=>simp[intOf];omega
      ·by_cases k6:k<7
       ·have k56:k=5∨k=6:=by omega
        have pp:=HP.out.2.2.1 k56;have hA:=bd.2.2.2.2.1 (by omega)
        have NX2:Hid (∀W:World,W.heap[w.heap.size]?=some (.cells #[.int .i64 (pA l k:Int),.int .i64 (10*(pB l k:Int)+(s[k].toNat:Int)-48),.int .i64 (pC l k:Int)] 203)→Below w.heap.size w W→PdR w l (.int .i64 1) (.int .i64 ((k:Int)+1)) W):=fun W h1 h2=>by
         have:=NX.out _ _ _ (by rw[pp.1]) (by rw[pp.2.1];omega) (by rw[pp.2.2.1]) W h1 h2 pp.2.2.2.1;rw[pp.2.2.2.2]at this;exact this
        rw[pp.2.2.2.2];obtain⟨A,ah⟩:∃A,A=pB l k:=⟨_,rfl⟩
        have NX3:Hid (PdR w l (.int .i64 1) (.int .i64 ((k:Int)+1)) (w1.setCell ⟨w.heap.size,1,none⟩ (.int .i64 (10*(A:Int)+(s[k].toNat:Int)-48)))):=by
         rw[ah];exact NX2.out _ (by simpa using zvx HO.out 1 _) (HB.out.setCell (Nat.le.refl) _)
        rw[←ah]at hA q1;clear NX NX2 pp bd ah HP
        go_upto_region 14 with(fail)
        go_region
        all_goals
         go_wp2_with fail;go_roundw
         case rel=>exact PdR.drew NX3.out
         case measure=>simp[intOf];omega
       ·have k89:k=8∨k=9:=by omega
        have pp:=HP.out.2.2.2.2 k89;have hA:=bd.2.2.2.2.2 (by omega)
        have NX2:Hid (∀W:World,W.heap[w.heap.size]?=some (.cells #[.int .i64 (pA l k:Int),.int .i64 (pB l k:Int),.int .i64 (10*(pC l k:Int)+(s[k].toNat:Int)-48)] 203)→Below w.heap.size w W→PdR w l (.int .i64 2) (.int .i64 ((k:Int)+1)) W):=fun W h1 h2=>by
         have:=NX.out _ _ _ (by rw[pp.1]) (by rw[pp.2.1]) (by rw[pp.2.2.1];omega) W h1 h2 pp.2.2.2.1;rw[pp.2.2.2.2]at this;exact this
        rw[pp.2.2.2.2];obtain⟨A,ah⟩:∃A,A=pC l k:=⟨_,rfl⟩
        have NX3:Hid (PdR w l (.int .i64 2) (.int .i64 ((k:Int)+1)) (w1.setCell ⟨w.heap.size,2,none⟩ (.int .i64 (10*(A:Int)+(s[k].toNat:Int)-48)))):=by
         rw[ah];exact NX2.out _ (by simpa using zvx HO.out 2 _) (HB.out.setCell (Nat.le.refl) _)
        rw[←ah]at hA q2;clear NX NX2 pp bd ah HP
        go_upto_region 14 with(fail)
        go_region
        all_goals
         go_wp2_with fail;go_roundw
         case rel=>exact PdR.drew NX3.out
         case measure=>simp[intOf];omega
  ·obtain rfl:k=10:=by omega
   have aH:=Z9 (HY.out WU);obtain⟨A,hA⟩:∃A,A=pA l 10:=⟨_,rfl⟩
   obtain⟨B,hB⟩:∃A,A=pB l 10:=⟨_,rfl⟩
   obtain⟨C,hC⟩:∃A,A=pC l 10:=⟨_,rfl⟩
   rw[←hA,←hB,←hC]at aH;rw[←hA]at q0;rw[←hB]at q1;rw[←hC]at q2;have ea:(pAt 10:Nat)=2:=rfl;rw[ea];clear ho hb WU ZA bd hA hB hC ea HN HY;go_wp2_with fail;refine(aH.out _).mono ?_;rintro e w2 ⟨rfl,b2⟩;have B2:=Z9 (HB.out.trans (b2.mono HB.out.size));clear b2;go_wp2_with fail;go_ret2;exact⟨rfl,B2.out⟩
theorem zlf(s:ByteArray)(Za:s.size=10)(hd:dayQ s.data.toList=true):∃v q:Int,(∀w,Calls Tryz.prog 164 #[.string s] w (NumQ w v q)) ∧
 (∀day,datV s.data.toList=some day→v=(day:Int)∧q=0)∧(datV s.data.toList=none→q≠0):=by
 have Z5:s.data.toList.length=10:=by rw[zab,Za]
 have WU:OkD s.data.toList 10:=by
  obtain⟨c0,c1,c2,c3,c5,c6,c8,c9,t,e,h0,h1,h2,h3,h5,h6,h8,h9⟩:=zik hd;rw[e]at Z5 ⊢
  have dg:∀c:UInt8,dgQ c=true→48≤c.toNat∧c.toNat≤57:=fun c hc=>by unfold dgQ at hc;simpa using hc
  intro i c hi hc
  match i,hi with
  |0,_=>injection hc with hc;subst hc;exact dg _ h0
  |1,_=>injection hc with hc;subst hc;exact dg _ h1
  |2,_=>injection hc with hc;subst hc;exact dg _ h2
  |3,_=>injection hc with hc;subst hc;exact dg _ h3
  |4,_=>injection hc with hc;subst hc;rfl
  |5,_=>injection hc with hc;subst hc;exact dg _ h5
  |6,_=>injection hc with hc;subst hc;exact dg _ h6
  |7,_=>injection hc with hc;subst hc;rfl
  |8,_=>injection hc with hc;subst hc;exact dg _ h8
  |9,_=>injection hc with hc;subst hc;exact dg _ h9
 have bd:=z1s Z5 (Nat.le.refl) WU;obtain⟨v,q,hv,h1,h2⟩:=zu6 (pA s.data.toList 10) (pB s.data.toList 10) (pC s.data.toList 10);have ht:s.data.toList.take 10=s.data.toList:=List.take_of_length_le (by omega);have ea:pA s.data.toList 10=numV (s.data.toList.take 4):=by unfold pA;rw[ht]
 have eb:pB s.data.toList 10=numV ((s.data.toList.drop 5).take 2):=by unfold pB;rw[ht]
 have ec:pC s.data.toList 10=numV ((s.data.toList.drop 8).take 2):=by unfold pC;rw[ht]
 refine⟨v,q,fun w=>zsh s w Za v q (Z9 fun k c hk hc hn=>absurd (WU k c hk hc) hn) (Z9 fun _ W=>hv W),?_,?_⟩
 ·intro day Zm
  unfold datV at Zm;dsimp only at Zm;rw[←ea,←eb,←ec]at Zm
  split at Zm
  ·rename_i hc
   injection Zm with Zm
   obtain⟨e1,e2⟩:=h1 hc;exact⟨by rw[e1,Zm],e2⟩
  ·cases Zm
 ·intro Zm
  unfold datV at Zm;dsimp only at Zm;rw[←ea,←eb,←ec]at Zm
  split at Zm
  ·cases Zm
  ·rename_i hc
   exact h2 hc
theorem zod(c:UInt8)(w:World):Calls Tryz.prog 159 #[.int .u8 (c.toNat:Int)] w (RetB w (blQ c)):=by
 by_cases h:c.toNat=32∨c.toNat=9∨c.toNat=10
 ·have hv:blQ c=true:=by unfold blQ;simpa using h
  rw[hv]
  rcases h with h |h |h
  all_goals
   rw[h];go_enter Tryz.func159,Tryz.ntmps159;go_wp2;go_ret;exact⟨rfl,rfl⟩
 ·have hv:blQ c=false:=by unfold blQ;simpa using h
  rw[hv]
  have e32:((c.toNat:Int) == 32)=false:=by simp<;>omega
  have e9:((c.toNat:Int) == 9)=false:=by simp<;>omega
  have e10:((c.toNat:Int) == 10)=false:=by simp<;>omega
  clear h hv;go_enter Tryz.func159,Tryz.ntmps159;go_wp2;go_ret;exact⟨rfl,rfl⟩
theorem zlx(s:ByteArray)(k:Nat)(h:k<s.size):s.data.toList.drop k=s[k] :: s.data.toList.drop (k+1):=by
 rw[List.drop_eq_getElem_cons (by rw[zab];exact h)];rfl
def SkR(s:ByteArray)(F k0:Nat)(b:Bool)(v:Value):Prop:=∃k:Nat,k≤s.size∧k0≤k∧v=.int .i64 (k:Int)∧k+skS b (s.data.toList.drop k)=F
def Eq10(c:UInt8)(b:Bool):Prop:=((c.toNat:Int) == 10)=b∧((c.toNat:Int) != 10) = !b
theorem z4k{c:UInt8}(h:c.toNat=10):Eq10 c true:=by constructor<;>simp[h]
theorem z4j{c:UInt8}(h:¬c.toNat=10):Eq10 c false:=by constructor<;>simp<;>omega
theorem zus(b:Bool):skS b []=0:=by cases b<;>rfl
theorem zk4(s:ByteArray)(b:Bool):skS b (s.data.toList.drop s.size)=0:=by rw[←zab,List.drop_length];exact zus b
theorem zqo(s:ByteArray)(i:Nat)(w:World)(hs:s.size≤100000)(hi:i≤s.size):Calls Tryz.prog 115 #[.string s,.int .i64 (i:Int)] w (RetI w ((i+skS false (s.data.toList.drop i):Nat):Int)):=by
 obtain⟨F,hF⟩:∃F,F=i+skS false (s.data.toList.drop i):=⟨_,rfl⟩
 rw[←hF];have HF:=Z9 hF.symm;clear hF;go_enter Tryz.func115,Tryz.ntmps115;go_wp2_with fail;go_loop [1] (fun v=>SkR s F 0 false v) (fun v=>s.size-(intOf v).toNat)
 case atStart=>exact⟨i,hi,Nat.zero_le _,rfl,HF.out⟩
 case round =>
  obtain⟨k,hk,_,rfl,hf⟩:=hrel
  by_cases Z7:k<s.size
  ·rw[zlx s k Z7]at hf
   by_cases hb:blQ s[k]=true
   ·rw[zqp hb]at hf
    have HB:Hid (∀W,Calls Tryz.prog 159 #[.int .u8 (s[k].toNat:Int)] W (RetB W true)):=fun W=>by have:=zod s[k] W;rwa [hb]at this
    have HX:=Z9 hf;clear hf hb;go_wp2_with (go_at_call 159;refine(HB.out _).mono ?_;rintro e w' ⟨rfl,rfl⟩);go_round
    case rel=>exact⟨k+1,by omega,Nat.zero_le _,by go_num,by have:=HX.out;omega⟩
    case measure=>simp[intOf]<;>omega
   ·have HB:Hid (∀W,Calls Tryz.prog 159 #[.int .u8 (s[k].toNat:Int)] W (RetB W false)):=fun W=>by have:=zod s[k] W;rwa [Bool.eq_false_iff.2 hb]at this
    by_cases VT:s[k].toNat=35
    ·rw[zk5 VT]at hf
     have HX:=Z9 hf
     have t35:((s[k].toNat:Int) == 35)=true:=by simp<;>omega
     have aM:=Z9 VT;clear hf hb VT;go_wp2_with (go_at_call 159;refine(HB.out _).mono ?_;rintro e w' ⟨rfl,rfl⟩);clear t35;go_loop [1] (fun v=>SkR s F k true v) (fun v=>s.size-(intOf v).toNat)
     case atStart =>
      refine⟨k,hk,Nat.le.refl,rfl,?_⟩;rw[zlx s k Z7,zur (by have:=aM.out;omega)];exact HX.out
     case round =>
      obtain⟨j,hj,hkj,rfl,hg⟩:=hrel
      by_cases hjt:j<s.size
      ·rw[zlx s j hjt]at hg
       by_cases Za:s[j].toNat=10
       ·rw[z1l Za]at hg
        have HY:=Z9 hg;obtain⟨t1,t2⟩:=z4k Za
        have ZT:k<j:=by
         rcases Nat.lt_or_ge k j with h |h
         ·exact h
         ·obtain rfl:k=j:=by omega
          have:=aM.out;omega
        have a0:=Z9 Za;clear hg Za;go_wp2_with fail;go_round
        case rel =>
         refine⟨j,by omega,Nat.zero_le _,rfl,?_⟩;rw[zlx s j hjt,zqp (by unfold blQ;simp[a0.out])];exact HY.out
        case measure=>simp[intOf]<;>omega
       ·rw[zur Za]at hg
        have HY:=Z9 hg;obtain⟨t1,t2⟩:=z4j Za;clear hg Za;go_wp2_with fail;go_round
        case rel=>exact⟨j+1,by omega,by omega,by go_num,by have:=HY.out;omega⟩
        case measure=>simp[intOf]<;>omega
      ·obtain rfl:j=s.size:=by omega
       rw[zk4]at hg;have HY:=Z9 hg;clear hg;go_wp2_with fail;go_round
       case rel=>exact⟨s.size,Nat.le.refl,Nat.zero_le _,rfl,by rw[zk4];exact HY.out⟩
       case measure=>simp[intOf]<;>omega
    ·rw[zup hb VT]at hf
     have t35:((s[k].toNat:Int) == 35)=false:=by simp<;>omega
     obtain rfl:k=F:=by omega
     clear hb VT hf;go_wp2_with (go_at_call 159;refine(HB.out _).mono ?_;rintro e w' ⟨rfl,rfl⟩);go_ret;exact⟨rfl,rfl⟩
  ·obtain rfl:k=s.size:=by omega
   rw[zk4]at hf;obtain rfl:s.size=F:=by omega
   clear hf;go_wp2_with fail;go_ret;exact⟨rfl,rfl⟩
set_option linter.unusedVariables false
def RLxR(w:World)(s:ByteArray)(R:LexR)(lv iv:Value)(wr:World):Prop :=
 ∃(ts:List Tk)(k T:Nat),k≤s.size∧ts.length≤k∧iv=.int .i64 (T:Int)∧T≤s.size∧Hid (T=k+skS false (s.data.toList.drop k)∧preL ts (lexL k (s.data.toList.drop k))=R)∧wr.ownsRow w.heap.size 100 5 lv ts.length (tks ts)∧Below w.heap.size w wr
theorem z2z(s:ByteArray)(w:World)(hs:s.size≤20000)(R:LexR)(hR:lexL 0 s.data.toList=R)
 (Sm:Hid (∀(T:Nat)(W:World),T<s.size→Calls Tryz.prog 116 #[.string s,.int .i64 (T:Int)] W (zai W T (oneL (s.data.toList.drop T))))) :
 Calls Tryz.prog 65 #[.string s] w (zl8 w s.size R):=by
 obtain⟨i0,hi,ZN,ZO,ZD⟩:=zjg z1w;have ab:=Z9 hR;clear hR
 have aW:Hid (∀(k:Nat)(W:World),k≤s.size→∃T:Nat,T=k+skS false (s.data.toList.drop k)∧T≤s.size∧Calls Tryz.prog 115 #[.string s,.int .i64 (k:Int)] W (RetI W (T:Int))):=fun k W hk =>
  ⟨_,rfl,by have:=ziz false (s.data.toList.drop k);rw[List.length_drop,zab]at this;omega,zqo s k W (by omega) hk⟩
 obtain⟨T0,e0,l0,Ut⟩:=aW.out 0 w (Nat.zero_le _);have aK:=Z9 e0;have aF:Hid (Calls Tryz.prog 115 #[.string s,.int .i64 0] w (RetI w (T0:Int))):=Ut;clear e0 Ut;have aQ:decide ((20000:Int)<(s.size:Int))=false:=by simp;omega
 go_enter Tryz.func65,Tryz.ntmps65;go_wp2_with fail;refine aF.out.mono ?_;rintro e w' ⟨rfl,rfl⟩;go_wp2_with fail;go_loopw [5,6] (fun lv iv wr=>RLxR w s R lv iv wr) (fun _ iv _=>s.size-(intOf iv).toNat)
 case atStart=>exact⟨[],0,T0,Nat.zero_le _,Nat.zero_le _,rfl,l0,Z9 ⟨aK.out,by rw[List.drop_zero,zqz];exact ab.out⟩,World.ownsRow_nil _ _ _ _,Below.refl _ _⟩
 case round =>
  obtain⟨w1,rfl⟩:∃w1:World,w1=wr:=⟨_,rfl⟩
  obtain⟨ts,k,T,hk,Z5,rfl,hT,VR,U4,hb⟩:=hrel;have aG:=Z9 U4;have HB:=Z9 hb;clear U4 hb aF aK l0
  by_cases Z7:T<s.size
  ·have ac:=Sm.out T w1 Z7
   have aE:skS false (s.data.toList.drop k)<(s.data.toList.drop k).length:=by rw[List.length_drop,zab];have:=VR.out.1;omega
   have WB:(s.data.toList.drop k).drop (skS false (s.data.toList.drop k))=s.data.toList.drop T:=by rw[List.drop_drop,←VR.out.1]
   have au:=Z9 aE;have aL:=Z9 WB;clear aE WB
   cases XH:oneL (s.data.toList.drop T)with
   |no er =>
    have he:(er != 0)=true:=by simpa using zli XH
    have HF:Hid (R=.no T er):=by
     have h1:=zhi (off:=k) au.out (by rw[aL.out];exact XH);rw[←VR.out.2,h1,←VR.out.1];rfl
    rw[XH]at ac;have HO:=Z9 ac;clear XH ac;go_wp2_with fail;refine HO.out.mono ?_;rintro e w2 ⟨⟨K,TT,Q,D,en,rfl⟩,ZS⟩;have aq:=Z9 ((HB.out.trans (ZS.mono HB.out.size)));clear ZS;go_wp2_with fail;refine bodyPost_ret (results_tmp3 rfl _ _ _) rfl ?_;exact .inl ⟨T,er,HF.out,rfl,aq.out.alloc aq.out.size _⟩
   |yes t n =>
    have Xk:=zey XH;have W9:T+n≤s.size:=by have:=zpd XH;rw[List.length_drop,zab]at this;omega
    have ZJ:preL (ts ++ [{ t with place:=(T:Int) }]) (lexL (T+n) (s.data.toList.drop (T+n)))=R:=by
     have h1:=zf6 (off:=k) au.out (by rw[aL.out];exact XH);rw[←VR.out.1]at h1;rw[←VR.out.2,h1,zmu,List.drop_drop,←Nat.add_assoc,←VR.out.1]
    have aB:=Z9 ZJ;clear ZJ;rw[XH]at ac;have HO:=Z9 ac
    obtain⟨T2,e2,l2,TG⟩:∃T2:Nat,T2=T+n+skS false (s.data.toList.drop (T+n))∧T2≤s.size∧Hid (∀W,Calls Tryz.prog 115 #[.string s,.int .i64 ((T+n:Nat):Int)] W (RetI W (T2:Int))) :=
     ⟨_,rfl,by have:=ziz false (s.data.toList.drop (T+n));rw[List.length_drop,zab]at this;omega,Z9 (fun W=>zqo s (T+n) W (by omega) W9)⟩
    have aZ:=Z9 e2;have hT2:T<T2:=by omega
    have htl:ts.length≤T:=by have:=VR.out.1;omega
    obtain⟨E,hE⟩:∃E,E=T+n:=⟨_,rfl⟩
    rw[←hE]at aB TG W9;have aJ:=Z9 hE;have hET:T<E:=by omega
    clear XH ac e2 Xk hE
    obtain⟨x,hx⟩:∃x:Tk,x={ t with place:=(T:Int) }:=⟨_,rfl⟩
    rw[←hx]at aB;have aY:Hid (Obj.cells #[.int .u8 t.kind,.string t.text,.string t.rat,.int .i64 t.date,.int .i64 (T:Int)] 100=.cells (zg3 x).toArray 100):=by rw[hx];rfl
    clear hx;have HO:=Z9 (show Calls Tryz.prog 116 #[.string s,.int .i64 (T:Int)] w1 (fun e w'=>e=.returned (.tuple #[.agg #[.int .u8 t.kind,.string t.text,.string t.rat,.int .i64 t.date,.int .i64 (T:Int)],.int .i64 (E:Int),.int .i64 0])∧Below w1.heap.size w1 w')from HO.out.mono fun e w' ⟨h1,h2⟩=>⟨by rw[aJ.out];exact h1,h2⟩);go_wp2_with fail;refine HO.out.mono ?_;rintro e w2 ⟨rfl,ZS⟩;have aq:=Z9 (HB.out.trans (ZS.mono HB.out.size));have aC:=Z9 (aG.out.kept (zbi ZS) (Classical.em _));clear ZS;have aI:=Z9 ((aC.out.alloc (.cells #[.int .u8 t.kind,.string t.text,.string t.rat,.int .i64 t.date,.int .i64 (T:Int)] 100)).alloc (.cells #[.int .u8 t.kind,.string t.text,.string t.rat,.int .i64 t.date,.int .i64 (T:Int)] 100))
    go_wp2_with (at_builtin;refine wpList_append_own _ rfl (.tmp 30) (.tmp 32) 67 rfl w.heap.size 100 i0 zt1 5 56 Tryz.underlying67 hi ZN ZO ZD rfl (by decide) _ _ _ rfl aI.out ⟨w2.heap.size+1,0,none⟩ 1 1 (zg3 x) rfl ?c0 ?c1 ?c2 ?c3 ?c4 ?c5 ?_)
    case c0=>rfl
    case c1=>rw[aY.out];exact zqh _ _ (by simp) x _
    case c2=>exact zw0 _
    case c3=>unfold maxLen;omega
    case c4=>omega
    case c5=>have:=aq.out.size;simp;omega
    intro v' w3 ZV Z2 _;have Z0:=aq.out.alloc aq.out.size (.cells #[.int .u8 t.kind,.string t.text,.string t.rat,.int .i64 t.date,.int .i64 (T:Int)] 100);have TP:=Z0.alloc Z0.size (.cells #[.int .u8 t.kind,.string t.text,.string t.rat,.int .i64 t.date,.int .i64 (T:Int)] 100);have B3:=Z9 (TP.grown Z2 TP.size (fun j hj=>(aI.out.lt j hj).1));have h1:=ZV;rw[zqg]at h1;have aX:=Z9 h1;clear ZV Z2 Z0 TP h1;go_wp2_with fail;refine(TG.out _).mono ?_;rintro e w' ⟨rfl,rfl⟩;go_wp2_with fail;go_roundw
    case rel=>exact⟨ts ++ [x],E,T2,W9,by rw[List.length_append];show ts.length+1≤E;omega,rfl,l2,Z9 ⟨by rw[aZ.out,aJ.out],aB.out⟩,by rw[List.length_append];exact aX.out,B3.out⟩
    case measure=>simp[intOf]<;>omega
  ·have aU:T=s.size:=by omega
   have hF:R=.yes ts:=by
    have e:skS false (s.data.toList.drop k)=(s.data.toList.drop k).length:=by rw[List.length_drop,zab];have:=VR.out.1;omega
    have h2:=VR.out.2;rw[zc8 e]at h2;rw[←h2];simp[preL]
   have HF:=Z9 hF;clear hF;subst aU;go_wp2_with fail;refine bodyPost_ret (results_tmp3 rfl _ _ _) rfl ?_;exact .inr ⟨ts,_,HF.out,rfl,aG.out,HB.out⟩
theorem zu9(s:ByteArray)(w:World)(hs:20000<s.size):Calls Tryz.prog 65 #[.string s] w (zxu w):=by
 have aQ:decide ((20000:Int)<(s.size:Int))=true:=by simp;omega
 go_enter Tryz.func65,Tryz.ntmps65;go_wp2_with fail;refine bodyPost_ret (results_tmp3 rfl _ _ _) rfl ?_;exact⟨rfl,Below.refl _ _⟩
end Go.Proofs.YtkobkpepgdddeaaGreatDoor
