/-
  The law SheetExprs walked. No condition but the laid shapes.
-/
import Derived.Test.YtkobkpepgdddeaaGreatDoorZax
import Derived.Test.YtkobkpepgdddeaaGreatDoorZbd
import Derived.Test.YtkobkpepgdddeaaGreatDoorZaj
namespace Go.Proofs.YtkobkpepgdddeaaGreatDoor
open Go.RowKit
set_option maxHeartbeats 16000000
set_option maxRecDepth 100000
theorem znp(s:ByteArray)(w:World)(h:(3000<s.size∧s.size≤20000)∨20100<s.size):Calls Tryz.prog 5 #[.string s] w (BelB w true):=by
 have HL:=Z9 (fun W=>z1u s W (by omega));rw[decide_eq_true h]at HL;go_enter Tryz.func5,Tryz.ntmps5;go_wp2_with fail;refine(HL.out _).mono ?_;rintro e w' ⟨rfl,rfl⟩;go_wp2_with fail;go_ret;exact⟨rfl,Below.refl _ _⟩
theorem ztn(s:ByteArray)(w:World)(hs:zhp w)(h:s.size≤3000∨(20000<s.size∧s.size≤20100)):Calls Tryz.prog 5 #[.string s] w (BelB w true):=by
 have HL:=Z9 (fun W=>z1u s W (by omega));rw[decide_eq_false (by omega)]at HL;have HP:Hid (∀W,Below w.heap.size w W→Calls Tryz.prog 25 #[.string s] W (RxP W (zk7 s))):=Z9 (fun W hW=>zvi s W w (by omega) hs hW);have HR:Hid (∀W,Below w.heap.size w W→Calls Tryz.prog 26 #[.string s] W (RxP W (zk7 s))):=Z9 (fun W hW=>zr9 s W w (by omega) hs hW);have HK:=Z9 (zhv s);have HJ:=Z9 (zht s);have HZ:=Z9 (zr6 s);obtain⟨o,ho⟩:∃o,o=zk7 s:=⟨_,rfl⟩
 rw[←ho]at HP HR HZ;obtain⟨kb,hkb⟩:∃b,b=kwB s.data.toList:=⟨_,rfl⟩
 rw[←hkb]at HK HJ;clear ho hkb hs h;go_enter Tryz.func5,Tryz.ntmps5;go_wp2_with fail;refine(HL.out _).mono ?_;rintro e w' ⟨rfl,rfl⟩;go_wp2_with fail;refine(HP.out _ (Below.refl _ _)).mono ?_;intro e w1 h1;obtain⟨n1,a1,l1,k1,rfl,ZJ,ZL⟩:=zqr h1;obtain⟨W1,X8⟩:∃W1,W1=w1.alloc (.cells #[.int .u8 (xoX o).kind,.string (xoX o).rat,.string (xoX o).name,.int .i64 (xoX o).date,.slice a1 l1 k1] 25):=⟨_,rfl⟩
 have X7:Below w1.heap.size w1 W1:=by rw[X8];exact zaf w1 _
 have hbx1:W1.heap[w1.heap.size]?=some (.cells #[.int .u8 (xoX o).kind,.string (xoX o).rat,.string (xoX o).name,.int .i64 (xoX o).date,.slice a1 l1 k1] 25):=by rw[X8];exact heap_alloc_new w1 _
 have HB1:=Z9 (ZL.trans (X7.mono ZL.size));have HX1:=Z9 (ExAt.below X7 ZJ);have HBX1:=Z9 hbx1;have YE:=Z9 X8;have Zy:=(Z8 hbx1);clear h1 ZL ZJ X7 hbx1 X8;go_wp2_with fail;change Calls _ _ _ (w1.alloc (.cells #[.int .u8 (xoX o).kind,.string (xoX o).rat,.string (xoX o).name,.int .i64 (xoX o).date,.slice a1 l1 k1] 25)) _;rw[←YE.out];refine(HR.out _ HB1.out).mono ?_;intro e w2 h2;obtain⟨n2,a2,l2,k2,rfl,Yp,ZS⟩:=zqr h2;obtain⟨W2,Z4⟩:∃W2,W2=w2.alloc (.cells #[.int .u8 (xoX o).kind,.string (xoX o).rat,.string (xoX o).name,.int .i64 (xoX o).date,.slice a2 l2 k2] 25):=⟨_,rfl⟩
 have hB2:Below w2.heap.size w2 W2:=by rw[Z4];exact zaf w2 _
 have hb12:=ZS.trans (hB2.mono ZS.size);have hbx1:w2.heap[w1.heap.size]?=some (.cells #[.int .u8 (xoX o).kind,.string (xoX o).rat,.string (xoX o).name,.int .i64 (xoX o).date,.slice a1 l1 k1] 25):=(ZS.block _ Zy).trans HBX1.out;have hlu:=(Z8 hbx1);obtain⟨c0,c1,c2,c3,c4⟩:=zae hbx1;have HSA:=Z9 (zuw (max n1 n2) (xoX o) _ _ W2 ((ExAt.below hb12 HX1.out).up (Nat.le_max_left _ _)) ((ExAt.below hB2 Yp).up (Nat.le_max_right _ _)) HZ.out);have HB2:=Z9 (HB1.out.trans (hb12.mono HB1.out.size));have HW2:=Z9 Z4;have i1:(o.2.1 == o.2.1)=true:=by simp
 have i2:(o.2.2 == o.2.2)=true:=by simp
 clear h2 ZS Yp hB2 hbx1 hb12 Z4 Zy;go_wp2_with fail;change Calls _ _ _ (w2.alloc (.cells #[.int .u8 (xoX o).kind,.string (xoX o).rat,.string (xoX o).name,.int .i64 (xoX o).date,.slice a2 l2 k2] 25)) _;rw[←HW2.out];refine HSA.out.mono ?_;rintro e w3 ⟨rfl,hb⟩;have HB3:=Z9 (HB2.out.trans (hb.mono HB2.out.size));clear hb c0 c1 c2 c3 c4;go_wp2_with fail;refine(HK.out _).mono ?_;rintro e w4 ⟨rfl,hb⟩;have HB4:=Z9 (HB3.out.trans (hb.mono HB3.out.size));clear hb;go_wp2_with fail;refine(HJ.out _).mono ?_;rintro e w5 ⟨rfl,hb⟩;have HB5:=Z9 (HB4.out.trans (hb.mono HB4.out.size));clear hb;have i3:(kb == kb)=true:=by simp
 go_wp2_with fail;go_ret;exact⟨rfl,HB5.out⟩
theorem exprs13_law(s:ByteArray)(w:World)(hs:zhp w):Calls Tryz.prog 5 #[.string s] w (BelB w true):=by
 rcases(show(s.size≤3000∨(20000<s.size∧s.size≤20100))∨((3000<s.size∧s.size≤20000)∨20100<s.size)by omega)with h |h
 ·exact ztn s w hs h
 ·exact znp s w h
end Go.Proofs.YtkobkpepgdddeaaGreatDoor
