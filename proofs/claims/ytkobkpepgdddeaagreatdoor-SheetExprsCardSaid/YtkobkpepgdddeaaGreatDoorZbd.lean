/-
  The reference's One: walked. No condition.
-/
import Derived.Test.YtkobkpepgdddeaaGreatDoorZbc
import Derived.Test.YtkobkpepgdddeaaGreatDoorZaz
import Derived.Test.YtkobkpepgdddeaaGreatDoorZax
import Derived.Deep.DeepCutAuto
namespace Go.Proofs.YtkobkpepgdddeaaGreatDoor
open Go.RowKit Go.Shelf
set_option maxHeartbeats 16000000
set_option maxRecDepth 100000
set_option linter.unusedVariables false
theorem far1{W:World}{g:Nat}{o:Option Obj}(h:W.heap[g]?=o)(j:Nat)(v:Value):(W.setCell ⟨g+1,j,none⟩ v).heap[g]?=o :=
 (Below.heap_setCell W ⟨g+1,j,none⟩ v g (by show g≠g+1;omega)).trans h
theorem zdf{W w:World}(h:Below w.heap.size w W)(j:Nat)(v:Value):Below w.heap.size w (W.setCell ⟨w.heap.size+1,j,none⟩ v):=h.setCell (p:=⟨w.heap.size+1,j,none⟩) (Nat.le_succ _) v
def SpR(p:UInt8→Bool)(s:ByteArray)(i F:Nat)(v:Value):Prop:=∃j:Nat,i≤j∧j≤s.size∧v=.int .i64 (j:Int)∧Hid (j+spn p (s.data.toList.drop j)=F)
theorem ziy{p:UInt8→Bool}{s:ByteArray}{j F:Nat}(hj:j<s.size)(h:j+spn p (s.data.toList.drop j)=F):(p s[j]=true→j+1+spn p (s.data.toList.drop (j+1))=F)∧(p s[j]=false→j=F):=by
 rw[zfe s j hj]at h
 constructor
 ·intro hp;unfold spn at h;rw[if_pos hp]at h;omega
 ·intro hp;unfold spn at h;rw[if_neg (by rw[hp];decide)]at h;omega
theorem zmm{p:UInt8→Bool}{s:ByteArray}{F:Nat}(h:s.size+spn p (s.data.toList.drop s.size)=F):s.size=F:=by rw[zly]at h;exact h
theorem zv6(t:ByteArray)(b:Bool)(h:nmB t.data.toList=b):Hid (∀W,Calls Tryz.prog 53 #[.string t] W (RetB W b)):=fun W=>h ▸ zi4 t W
theorem zsa(s:ByteArray)(i:Nat)(w:World)(hs:s.size≤20000)(hi:i<s.size)(R:OneR)(HL:Hid (∀W,Calls Tryz.prog 160 #[.int .u8 (s[i].toNat:Int)] W (RetB W true)))(E:Nat)(TX:ByteArray)(hE:Hid (i+1+spn wdQ (s.data.toList.drop (i+1))=E))(S8:i<E)(XD:E≤s.size)(Zz:s.extract i E=TX)(hb:decide ((40:Int)<(TX.size:Int))=false)(HR:Hid (R=.yes ⟨1,TX,bsL [],0,0⟩ (E-i))) :
 Calls Tryz.prog 116 #[.string s,.int .i64 (i:Int)] w (zai w i R):=by
 go_enter Tryz.func116,Tryz.ntmps116;go_wp2_with fail;refine(HL.out _).mono ?_;rintro e w' ⟨rfl,rfl⟩;obtain⟨W2,Z4⟩:∃W2,W2=(w.alloc (.cells #[.int .u8 0,.string ⟨#[]⟩,.string ⟨#[]⟩,.int .i64 0,.int .i64 0] 100)).alloc (.cells #[.int .u8 0,.string ⟨#[]⟩,.string ⟨#[]⟩,.int .i64 0,.int .i64 (i:Int)] 100):=⟨_,rfl⟩
 have hg:W2.heap[w.heap.size]?=some (.cells #[.int .u8 0,.string ⟨#[]⟩,.string ⟨#[]⟩,.int .i64 0,.int .i64 0] 100):=by rw[Z4];exact zaw ..
 have ht:W2.heap[w.heap.size+1]?=some (.cells #[.int .u8 0,.string ⟨#[]⟩,.string ⟨#[]⟩,.int .i64 0,.int .i64 (i:Int)] 100):=by rw[Z4];exact zbc ..
 have Z6:Below w.heap.size w W2:=by rw[Z4];exact(zaf w _).alloc (by simp) _
 rw[←Z4];obtain⟨c0,c1,c2,c3,c4,fz⟩:=zal hg;obtain⟨d0,d1,d2,d3,d4,fy⟩:=zal ht;have HG:=Z9 hg;have HT:=Z9 ht;have aa:=Z9 Z6;clear Z4 hg ht Z6;have ab:=Z9 Zz;clear Zz;go_wp2_with fail;go_loop [9] (fun v=>SpR wdQ s (i+1) E v) (fun v=>s.size-(intOf v).toNat)
 case atStart=>exact⟨i+1,Nat.le.refl,hi,by go_num,hE⟩
 case round =>
  obtain⟨j,WO,hj,rfl,HJ⟩:=hrel
  by_cases Z7:j<s.size
  ·obtain⟨n1,n2⟩:=ziy Z7 HJ.out
   have HI:=Z9 (fun W=>zlr s[j] W)
   cases hw:wdQ s[j]with
   |true =>
    rw[hw]at HI;have HX:=Z9 (n1 hw);clear n1 n2 hw;go_wp2_with fail;refine(HI.out _).mono ?_;rintro e w' ⟨rfl,rfl⟩;go_wp2_with fail;go_round
    case rel=>exact⟨j+1,by omega,by omega,by go_num,HX⟩
    case measure=>simp[intOf]<;>omega
   |false =>
    rw[hw]at HI;obtain rfl:j=E:=n2 hw;have Zz:=ab.out;clear n1 n2 hw HJ;go_wp2_with fail;refine(HI.out _).mono ?_;rintro e w' ⟨rfl,rfl⟩;go_wp2_with fail;refine bodyPost_ret (zaa rfl _ _ w.heap.size 100 _ _ rfl (zag (far1 (far1 HG.out _ _) _ _) _ _ _ _ _) Tryz.underlying100 rfl rfl) rfl ?_
    show zai _ _ _ _ _
    rw[HR.out];exact zap (by omega) (zad (zdf (zdf aa.out _ _) _ _) (Nat.le.refl) _ _ _ _ _)
  ·obtain rfl:j=s.size:=by omega
   obtain rfl:s.size=E:=zmm HJ.out;have Zz:=ab.out;clear HJ;go_wp2_with fail;refine bodyPost_ret (zaa rfl _ _ w.heap.size 100 _ _ rfl (zag (far1 (far1 HG.out _ _) _ _) _ _ _ _ _) Tryz.underlying100 rfl rfl) rfl ?_
   show zai _ _ _ _ _
   rw[HR.out];exact zap (by omega) (zad (zdf (zdf aa.out _ _) _ _) (Nat.le.refl) _ _ _ _ _)
theorem zsb(s:ByteArray)(i:Nat)(w:World)(hs:s.size≤20000)(hi:i<s.size)(R:OneR)(HL:Hid (∀W,Calls Tryz.prog 160 #[.int .u8 (s[i].toNat:Int)] W (RetB W true)))(E:Nat)(TX:ByteArray)(hE:Hid (i+1+spn wdQ (s.data.toList.drop (i+1))=E))(S8:i<E)(XD:E≤s.size)(Zz:s.extract i E=TX)(hb:decide ((40:Int)<(TX.size:Int))=true)(HR:Hid (R=.no 12)) :
 Calls Tryz.prog 116 #[.string s,.int .i64 (i:Int)] w (zai w i R):=by
 go_enter Tryz.func116,Tryz.ntmps116;go_wp2_with fail;refine(HL.out _).mono ?_;rintro e w' ⟨rfl,rfl⟩;obtain⟨W2,Z4⟩:∃W2,W2=(w.alloc (.cells #[.int .u8 0,.string ⟨#[]⟩,.string ⟨#[]⟩,.int .i64 0,.int .i64 0] 100)).alloc (.cells #[.int .u8 0,.string ⟨#[]⟩,.string ⟨#[]⟩,.int .i64 0,.int .i64 (i:Int)] 100):=⟨_,rfl⟩
 have hg:W2.heap[w.heap.size]?=some (.cells #[.int .u8 0,.string ⟨#[]⟩,.string ⟨#[]⟩,.int .i64 0,.int .i64 0] 100):=by rw[Z4];exact zaw ..
 have ht:W2.heap[w.heap.size+1]?=some (.cells #[.int .u8 0,.string ⟨#[]⟩,.string ⟨#[]⟩,.int .i64 0,.int .i64 (i:Int)] 100):=by rw[Z4];exact zbc ..
 have Z6:Below w.heap.size w W2:=by rw[Z4];exact(zaf w _).alloc (by simp) _
 rw[←Z4];obtain⟨c0,c1,c2,c3,c4,fz⟩:=zal hg;obtain⟨d0,d1,d2,d3,d4,fy⟩:=zal ht;have HG:=Z9 hg;have HT:=Z9 ht;have aa:=Z9 Z6;clear Z4 hg ht Z6;have ab:=Z9 Zz;clear Zz;go_wp2_with fail;go_loop [9] (fun v=>SpR wdQ s (i+1) E v) (fun v=>s.size-(intOf v).toNat)
 case atStart=>exact⟨i+1,Nat.le.refl,hi,by go_num,hE⟩
 case round =>
  obtain⟨j,WO,hj,rfl,HJ⟩:=hrel
  by_cases Z7:j<s.size
  ·obtain⟨n1,n2⟩:=ziy Z7 HJ.out
   have HI:=Z9 (fun W=>zlr s[j] W)
   cases hw:wdQ s[j]with
   |true =>
    rw[hw]at HI;have HX:=Z9 (n1 hw);clear n1 n2 hw;go_wp2_with fail;refine(HI.out _).mono ?_;rintro e w' ⟨rfl,rfl⟩;go_wp2_with fail;go_round
    case rel=>exact⟨j+1,by omega,by omega,by go_num,HX⟩
    case measure=>simp[intOf]<;>omega
   |false =>
    rw[hw]at HI;obtain rfl:j=E:=n2 hw;have Zz:=ab.out;clear n1 n2 hw HJ;go_wp2_with fail;refine(HI.out _).mono ?_;rintro e w' ⟨rfl,rfl⟩;go_wp2_with fail;refine bodyPost_ret (zaa rfl _ _ w.heap.size 100 _ _ rfl (zag (far1 (far1 HG.out _ _) _ _) _ _ _ _ _) Tryz.underlying100 rfl rfl) rfl ?_
    show zai _ _ _ _ _
    rw[HR.out];exact za8 (zad (zdf (zdf aa.out _ _) _ _) (Nat.le.refl) _ _ _ _ _)
  ·obtain rfl:j=s.size:=by omega
   obtain rfl:s.size=E:=zmm HJ.out;have Zz:=ab.out;clear HJ;go_wp2_with fail;refine bodyPost_ret (zaa rfl _ _ w.heap.size 100 _ _ rfl (zag (far1 (far1 HG.out _ _) _ _) _ _ _ _ _) Tryz.underlying100 rfl rfl) rfl ?_
   show zai _ _ _ _ _
   rw[HR.out];exact za8 (zad (zdf (zdf aa.out _ _) _ _) (Nat.le.refl) _ _ _ _ _)
theorem zoz(s:ByteArray)(i:Nat)(w:World)(hs:s.size≤20000)(hi:i<s.size)(R:OneR)(HL:Hid (∀W,Calls Tryz.prog 160 #[.int .u8 (s[i].toNat:Int)] W (RetB W false)))(t34:((s[i].toNat:Int) == 34)=true)(E:Nat)(hE:Hid (i+1+spn (fun x=>decide (x.toNat≠34)) (s.data.toList.drop (i+1))=E))(S8:i<E)(XD:E=s.size)(HR:Hid (R=.no 12)) :
 Calls Tryz.prog 116 #[.string s,.int .i64 (i:Int)] w (zai w i R):=by
 go_enter Tryz.func116,Tryz.ntmps116;go_wp2_with fail;refine(HL.out _).mono ?_;rintro e w' ⟨rfl,rfl⟩;obtain⟨W2,Z4⟩:∃W2,W2=(w.alloc (.cells #[.int .u8 0,.string ⟨#[]⟩,.string ⟨#[]⟩,.int .i64 0,.int .i64 0] 100)).alloc (.cells #[.int .u8 0,.string ⟨#[]⟩,.string ⟨#[]⟩,.int .i64 0,.int .i64 (i:Int)] 100):=⟨_,rfl⟩
 have hg:W2.heap[w.heap.size]?=some (.cells #[.int .u8 0,.string ⟨#[]⟩,.string ⟨#[]⟩,.int .i64 0,.int .i64 0] 100):=by rw[Z4];exact zaw ..
 have ht:W2.heap[w.heap.size+1]?=some (.cells #[.int .u8 0,.string ⟨#[]⟩,.string ⟨#[]⟩,.int .i64 0,.int .i64 (i:Int)] 100):=by rw[Z4];exact zbc ..
 have Z6:Below w.heap.size w W2:=by rw[Z4];exact(zaf w _).alloc (by simp) _
 rw[←Z4];obtain⟨c0,c1,c2,c3,c4,fz⟩:=zal hg;obtain⟨d0,d1,d2,d3,d4,fy⟩:=zal ht;have HG:=Z9 hg;have HT:=Z9 ht;have aa:=Z9 Z6;clear Z4 hg ht Z6;go_wp2_with fail;go_loop [9] (fun v=>SpR (fun x=>decide (x.toNat≠34)) s (i+1) E v) (fun v=>s.size-(intOf v).toNat)
 case atStart=>exact⟨i+1,Nat.le.refl,hi,by go_num,hE⟩
 case round =>
  obtain⟨j,WO,hj,rfl,HJ⟩:=hrel
  by_cases Z7:j<s.size
  ·obtain⟨n1,n2⟩:=ziy Z7 HJ.out
   by_cases hw:s[j].toNat=34
   ·obtain rfl:j=E:=n2 (by simp[hw])
    have u1:((s[j].toNat:Int) != 34)=false:=by simp;omega
    clear n1 n2 hw HJ;exact absurd XD (by omega)
   ·have HX:=Z9 (n1 (by simp[hw]))
    have u1:((s[j].toNat:Int) != 34)=true:=by simp;omega
    clear n1 n2 hw;go_wp2_with fail;go_round
    case rel=>exact⟨j+1,by omega,by omega,by go_num,HX⟩
    case measure=>simp[intOf]<;>omega
  ·obtain rfl:j=s.size:=by omega
   have aG:s.size=E:=zmm HJ.out;clear HJ;subst aG;go_wp2_with fail;refine bodyPost_ret (zaa rfl _ _ w.heap.size 100 _ _ rfl (zag HG.out _ _ _ _ _) Tryz.underlying100 rfl rfl) rfl ?_
   show zai _ _ _ _ _
   rw[HR.out];exact za8 (zad aa.out (Nat.le.refl) _ _ _ _ _)
theorem zoy(s:ByteArray)(i:Nat)(w:World)(hs:s.size≤20000)(hi:i<s.size)(R:OneR)(HL:Hid (∀W,Calls Tryz.prog 160 #[.int .u8 (s[i].toNat:Int)] W (RetB W false)))(t34:((s[i].toNat:Int) == 34)=true)(E:Nat)(hE:Hid (i+1+spn (fun x=>decide (x.toNat≠34)) (s.data.toList.drop (i+1))=E))(S8:i<E)(XD:E<s.size)(TX:ByteArray)(Zz:s.extract (i+1) E=TX)(HN:Hid (∀W,Calls Tryz.prog 53 #[.string TX] W (RetB W false)))(HR:Hid (R=.no 12)) :
 Calls Tryz.prog 116 #[.string s,.int .i64 (i:Int)] w (zai w i R):=by
 go_enter Tryz.func116,Tryz.ntmps116;go_wp2_with fail;refine(HL.out _).mono ?_;rintro e w' ⟨rfl,rfl⟩;obtain⟨W2,Z4⟩:∃W2,W2=(w.alloc (.cells #[.int .u8 0,.string ⟨#[]⟩,.string ⟨#[]⟩,.int .i64 0,.int .i64 0] 100)).alloc (.cells #[.int .u8 0,.string ⟨#[]⟩,.string ⟨#[]⟩,.int .i64 0,.int .i64 (i:Int)] 100):=⟨_,rfl⟩
 have hg:W2.heap[w.heap.size]?=some (.cells #[.int .u8 0,.string ⟨#[]⟩,.string ⟨#[]⟩,.int .i64 0,.int .i64 0] 100):=by rw[Z4];exact zaw ..
 have ht:W2.heap[w.heap.size+1]?=some (.cells #[.int .u8 0,.string ⟨#[]⟩,.string ⟨#[]⟩,.int .i64 0,.int .i64 (i:Int)] 100):=by rw[Z4];exact zbc ..
 have Z6:Below w.heap.size w W2:=by rw[Z4];exact(zaf w _).alloc (by simp) _
 rw[←Z4];obtain⟨c0,c1,c2,c3,c4,fz⟩:=zal hg;obtain⟨d0,d1,d2,d3,d4,fy⟩:=zal ht;have HG:=Z9 hg;have HT:=Z9 ht;have aa:=Z9 Z6;clear Z4 hg ht Z6;have ab:=Z9 Zz;clear Zz;go_wp2_with fail;go_loop [9] (fun v=>SpR (fun x=>decide (x.toNat≠34)) s (i+1) E v) (fun v=>s.size-(intOf v).toNat)
 case atStart=>exact⟨i+1,Nat.le.refl,hi,by go_num,hE⟩
 case round =>
  obtain⟨j,WO,hj,rfl,HJ⟩:=hrel
  by_cases Z7:j<s.size
  ·obtain⟨n1,n2⟩:=ziy Z7 HJ.out
   by_cases hw:s[j].toNat=34
   ·obtain rfl:j=E:=n2 (by simp[hw])
    have u1:((s[j].toNat:Int) != 34)=false:=by simp;omega
    clear n1 n2 hw HJ;go_wp2_with fail;rw[ab.out];refine(HN.out _).mono ?_;rintro e w' ⟨rfl,rfl⟩;have Zz:=ab.out;go_wp2_with fail;refine bodyPost_ret (zaa rfl _ _ w.heap.size 100 _ _ rfl (zag HG.out _ _ _ _ _) Tryz.underlying100 rfl rfl) rfl ?_
    show zai _ _ _ _ _
    rw[HR.out];exact za8 (zad aa.out (Nat.le.refl) _ _ _ _ _)
   ·have HX:=Z9 (n1 (by simp[hw]))
    have u1:((s[j].toNat:Int) != 34)=true:=by simp;omega
    clear n1 n2 hw;go_wp2_with fail;go_round
    case rel=>exact⟨j+1,by omega,by omega,by go_num,HX⟩
    case measure=>simp[intOf]<;>omega
  ·obtain rfl:j=s.size:=by omega
   have aG:s.size=E:=zmm HJ.out;clear HJ;exact absurd XD (by omega)
theorem zox(s:ByteArray)(i:Nat)(w:World)(hs:s.size≤20000)(hi:i<s.size)(R:OneR)(HL:Hid (∀W,Calls Tryz.prog 160 #[.int .u8 (s[i].toNat:Int)] W (RetB W false)))(t34:((s[i].toNat:Int) == 34)=true)(E:Nat)(hE:Hid (i+1+spn (fun x=>decide (x.toNat≠34)) (s.data.toList.drop (i+1))=E))(S8:i<E)(XD:E<s.size)(TX:ByteArray)(Zz:s.extract (i+1) E=TX)(HN:Hid (∀W,Calls Tryz.prog 53 #[.string TX] W (RetB W true)))(HR:Hid (R=.yes ⟨2,TX,bsL [],0,0⟩ (E+1-i))) :
 Calls Tryz.prog 116 #[.string s,.int .i64 (i:Int)] w (zai w i R):=by
 go_enter Tryz.func116,Tryz.ntmps116;go_wp2_with fail;refine(HL.out _).mono ?_;rintro e w' ⟨rfl,rfl⟩;obtain⟨W2,Z4⟩:∃W2,W2=(w.alloc (.cells #[.int .u8 0,.string ⟨#[]⟩,.string ⟨#[]⟩,.int .i64 0,.int .i64 0] 100)).alloc (.cells #[.int .u8 0,.string ⟨#[]⟩,.string ⟨#[]⟩,.int .i64 0,.int .i64 (i:Int)] 100):=⟨_,rfl⟩
 have hg:W2.heap[w.heap.size]?=some (.cells #[.int .u8 0,.string ⟨#[]⟩,.string ⟨#[]⟩,.int .i64 0,.int .i64 0] 100):=by rw[Z4];exact zaw ..
 have ht:W2.heap[w.heap.size+1]?=some (.cells #[.int .u8 0,.string ⟨#[]⟩,.string ⟨#[]⟩,.int .i64 0,.int .i64 (i:Int)] 100):=by rw[Z4];exact zbc ..
 have Z6:Below w.heap.size w W2:=by rw[Z4];exact(zaf w _).alloc (by simp) _
 rw[←Z4];obtain⟨c0,c1,c2,c3,c4,fz⟩:=zal hg;obtain⟨d0,d1,d2,d3,d4,fy⟩:=zal ht;have HG:=Z9 hg;have HT:=Z9 ht;have aa:=Z9 Z6;clear Z4 hg ht Z6;have ab:=Z9 Zz;clear Zz;go_wp2_with fail;go_loop [9] (fun v=>SpR (fun x=>decide (x.toNat≠34)) s (i+1) E v) (fun v=>s.size-(intOf v).toNat)
 case atStart=>exact⟨i+1,Nat.le.refl,hi,by go_num,hE⟩
 case round =>
  obtain⟨j,WO,hj,rfl,HJ⟩:=hrel
  by_cases Z7:j<s.size
  ·obtain⟨n1,n2⟩:=ziy Z7 HJ.out
   by_cases hw:s[j].toNat=34
   ·obtain rfl:j=E:=n2 (by simp[hw])
    have u1:((s[j].toNat:Int) != 34)=false:=by simp;omega
    clear n1 n2 hw HJ;go_wp2_with fail;rw[ab.out];refine(HN.out _).mono ?_;rintro e w' ⟨rfl,rfl⟩;have Zz:=ab.out;go_wp2_with fail;refine bodyPost_ret (zaa rfl _ _ w.heap.size 100 _ _ rfl (zag (far1 (far1 HG.out _ _) _ _) _ _ _ _ _) Tryz.underlying100 rfl rfl) rfl ?_
    show zai _ _ _ _ _
    rw[HR.out];exact zap (by omega) (zad (zdf (zdf aa.out _ _) _ _) (Nat.le.refl) _ _ _ _ _)
   ·have HX:=Z9 (n1 (by simp[hw]))
    have u1:((s[j].toNat:Int) != 34)=true:=by simp;omega
    clear n1 n2 hw;go_wp2_with fail;go_round
    case rel=>exact⟨j+1,by omega,by omega,by go_num,HX⟩
    case measure=>simp[intOf]<;>omega
  ·obtain rfl:j=s.size:=by omega
   have aG:s.size=E:=zmm HJ.out;clear HJ;exact absurd XD (by omega)
theorem zu5(s:ByteArray)(i:Nat)(w:World)(hs:s.size≤20000)(hi:i<s.size)(R:OneR)(HL:Hid (∀W,Calls Tryz.prog 160 #[.int .u8 (s[i].toNat:Int)] W (RetB W false)))(t34:((s[i].toNat:Int) == 34)=false)(Yh:Hid (∀W,Calls Tryz.prog 162 #[.string s,.int .i64 (i:Int)] W (RetB W true)))(Za:i+10≤s.size)(Wv:Hid (∀W,Calls Tryz.prog 163 #[.string s,.int .i64 ((i:Int)+10)] W (RetB W false)))(HR:Hid (R=.no 12)) :
 Calls Tryz.prog 116 #[.string s,.int .i64 (i:Int)] w (zai w i R):=by
 go_enter Tryz.func116,Tryz.ntmps116;go_wp2_with fail;refine(HL.out _).mono ?_;rintro e w' ⟨rfl,rfl⟩;obtain⟨W2,Z4⟩:∃W2,W2=(w.alloc (.cells #[.int .u8 0,.string ⟨#[]⟩,.string ⟨#[]⟩,.int .i64 0,.int .i64 0] 100)).alloc (.cells #[.int .u8 0,.string ⟨#[]⟩,.string ⟨#[]⟩,.int .i64 0,.int .i64 (i:Int)] 100):=⟨_,rfl⟩
 have hg:W2.heap[w.heap.size]?=some (.cells #[.int .u8 0,.string ⟨#[]⟩,.string ⟨#[]⟩,.int .i64 0,.int .i64 0] 100):=by rw[Z4];exact zaw ..
 have ht:W2.heap[w.heap.size+1]?=some (.cells #[.int .u8 0,.string ⟨#[]⟩,.string ⟨#[]⟩,.int .i64 0,.int .i64 (i:Int)] 100):=by rw[Z4];exact zbc ..
 have Z6:Below w.heap.size w W2:=by rw[Z4];exact(zaf w _).alloc (by simp) _
 rw[←Z4];obtain⟨c0,c1,c2,c3,c4,fz⟩:=zal hg;obtain⟨d0,d1,d2,d3,d4,fy⟩:=zal ht;have HG:=Z9 hg;have HT:=Z9 ht;have aa:=Z9 Z6;clear Z4 hg ht Z6;go_wp2_with fail;refine(Yh.out _).mono ?_;rintro e w' ⟨rfl,rfl⟩;go_wp2_with fail;refine(Wv.out _).mono ?_;rintro e w' ⟨rfl,rfl⟩;go_wp2_with fail;refine bodyPost_ret (zaa rfl _ _ w.heap.size 100 _ _ rfl (zag HG.out _ _ _ _ _) Tryz.underlying100 rfl rfl) rfl ?_
 show zai _ _ _ _ _
 rw[HR.out];exact za8 (zad aa.out (Nat.le.refl) _ _ _ _ _)
theorem zu4(s:ByteArray)(i:Nat)(w:World)(hs:s.size≤20000)(hi:i<s.size)(R:OneR)(HL:Hid (∀W,Calls Tryz.prog 160 #[.int .u8 (s[i].toNat:Int)] W (RetB W false)))(t34:((s[i].toNat:Int) == 34)=false)(Yh:Hid (∀W,Calls Tryz.prog 162 #[.string s,.int .i64 (i:Int)] W (RetB W true)))(Za:i+10≤s.size)(Wv:Hid (∀W,Calls Tryz.prog 163 #[.string s,.int .i64 ((i:Int)+10)] W (RetB W true)))(v q:Int)(hq:(q != 0)=true)(TX:ByteArray)(Zz:s.extract i (i+10)=TX)(HP:Hid (∀W,Calls Tryz.prog 164 #[.string TX] W (NumQ W v q)))(HR:Hid (R=.no 40)) :
 Calls Tryz.prog 116 #[.string s,.int .i64 (i:Int)] w (zai w i R):=by
 go_enter Tryz.func116,Tryz.ntmps116;go_wp2_with fail;refine(HL.out _).mono ?_;rintro e w' ⟨rfl,rfl⟩;obtain⟨W2,Z4⟩:∃W2,W2=(w.alloc (.cells #[.int .u8 0,.string ⟨#[]⟩,.string ⟨#[]⟩,.int .i64 0,.int .i64 0] 100)).alloc (.cells #[.int .u8 0,.string ⟨#[]⟩,.string ⟨#[]⟩,.int .i64 0,.int .i64 (i:Int)] 100):=⟨_,rfl⟩
 have hg:W2.heap[w.heap.size]?=some (.cells #[.int .u8 0,.string ⟨#[]⟩,.string ⟨#[]⟩,.int .i64 0,.int .i64 0] 100):=by rw[Z4];exact zaw ..
 have ht:W2.heap[w.heap.size+1]?=some (.cells #[.int .u8 0,.string ⟨#[]⟩,.string ⟨#[]⟩,.int .i64 0,.int .i64 (i:Int)] 100):=by rw[Z4];exact zbc ..
 have Z6:Below w.heap.size w W2:=by rw[Z4];exact(zaf w _).alloc (by simp) _
 rw[←Z4];obtain⟨c0,c1,c2,c3,c4,fz⟩:=zal hg;obtain⟨d0,d1,d2,d3,d4,fy⟩:=zal ht;have HG:=Z9 hg;have HT:=Z9 ht;have aa:=Z9 Z6;clear Z4 hg ht Z6;have ab:=Z9 Zz;clear Zz;go_wp2_with fail;refine(Yh.out _).mono ?_;rintro e w' ⟨rfl,rfl⟩;go_wp2_with fail;refine(Wv.out _).mono ?_;rintro e w' ⟨rfl,rfl⟩;go_wp2_with fail;rw[ab.out];refine(HP.out _).mono ?_;rintro e w3 ⟨rfl,Z0⟩;have ZY:=(Z0.block _ (Z8 HG.out)).trans HG.out;have ar:=(Z0.block _ (Z8 HT.out)).trans HT.out;have az:=Z9 ZY;have af:=Z9 (aa.out.trans (Z0.mono aa.out.size));clear c0 c1 c2 c3 c4 fz d0 d1 d2 d3 d4 fy Z0 HG HT aa;have HG:=az
 have aa:=af;clear az af;obtain⟨c0,c1,c2,c3,c4,fz⟩:=zal ZY;obtain⟨d0,d1,d2,d3,d4,fy⟩:=zal ar;clear ZY ar;go_wp2_with fail;refine bodyPost_ret (zaa rfl _ _ w.heap.size 100 _ _ rfl (zag HG.out _ _ _ _ _) Tryz.underlying100 rfl rfl) rfl ?_
 show zai _ _ _ _ _
 rw[HR.out];exact za8 (zad aa.out (Nat.le.refl) _ _ _ _ _)
theorem zu3(s:ByteArray)(i:Nat)(w:World)(hs:s.size≤20000)(hi:i<s.size)(R:OneR)(HL:Hid (∀W,Calls Tryz.prog 160 #[.int .u8 (s[i].toNat:Int)] W (RetB W false)))(t34:((s[i].toNat:Int) == 34)=false)(Yh:Hid (∀W,Calls Tryz.prog 162 #[.string s,.int .i64 (i:Int)] W (RetB W true)))(Za:i+10≤s.size)(Wv:Hid (∀W,Calls Tryz.prog 163 #[.string s,.int .i64 ((i:Int)+10)] W (RetB W true)))(v q:Int)(hq:q=0)(TX:ByteArray)(Zz:s.extract i (i+10)=TX)(HP:Hid (∀W,Calls Tryz.prog 164 #[.string TX] W (NumQ W v q)))(HR:Hid (R=.yes ⟨4,bsL [],bsL [],v,0⟩ 10)) :
 Calls Tryz.prog 116 #[.string s,.int .i64 (i:Int)] w (zai w i R):=by
 go_enter Tryz.func116,Tryz.ntmps116;go_wp2_with fail;refine(HL.out _).mono ?_;rintro e w' ⟨rfl,rfl⟩;obtain⟨W2,Z4⟩:∃W2,W2=(w.alloc (.cells #[.int .u8 0,.string ⟨#[]⟩,.string ⟨#[]⟩,.int .i64 0,.int .i64 0] 100)).alloc (.cells #[.int .u8 0,.string ⟨#[]⟩,.string ⟨#[]⟩,.int .i64 0,.int .i64 (i:Int)] 100):=⟨_,rfl⟩
 have hg:W2.heap[w.heap.size]?=some (.cells #[.int .u8 0,.string ⟨#[]⟩,.string ⟨#[]⟩,.int .i64 0,.int .i64 0] 100):=by rw[Z4];exact zaw ..
 have ht:W2.heap[w.heap.size+1]?=some (.cells #[.int .u8 0,.string ⟨#[]⟩,.string ⟨#[]⟩,.int .i64 0,.int .i64 (i:Int)] 100):=by rw[Z4];exact zbc ..
 have Z6:Below w.heap.size w W2:=by rw[Z4];exact(zaf w _).alloc (by simp) _
 rw[←Z4];obtain⟨c0,c1,c2,c3,c4,fz⟩:=zal hg;obtain⟨d0,d1,d2,d3,d4,fy⟩:=zal ht;have HG:=Z9 hg;have HT:=Z9 ht;have aa:=Z9 Z6;clear Z4 hg ht Z6;subst hq;have ab:=Z9 Zz;clear Zz;go_wp2_with fail;refine(Yh.out _).mono ?_;rintro e w' ⟨rfl,rfl⟩;go_wp2_with fail;refine(Wv.out _).mono ?_;rintro e w' ⟨rfl,rfl⟩;go_wp2_with fail;rw[ab.out];refine(HP.out _).mono ?_;rintro e w3 ⟨rfl,Z0⟩;have ZY:=(Z0.block _ (Z8 HG.out)).trans HG.out;have ar:=(Z0.block _ (Z8 HT.out)).trans HT.out;have az:=Z9 ZY;have af:=Z9 (aa.out.trans (Z0.mono aa.out.size));clear c0 c1 c2 c3 c4 fz d0 d1 d2 d3 d4 fy Z0 HG HT aa;have HG:=az
 have aa:=af;clear az af;obtain⟨c0,c1,c2,c3,c4,fz⟩:=zal ZY;obtain⟨d0,d1,d2,d3,d4,fy⟩:=zal ar;clear ZY ar;go_wp2_with fail;refine bodyPost_ret (zaa rfl _ _ w.heap.size 100 _ _ rfl (zag (far1 (far1 HG.out _ _) _ _) _ _ _ _ _) Tryz.underlying100 rfl rfl) rfl ?_
 show zai _ _ _ _ _
 rw[HR.out];exact zap (by omega) (zad (zdf (zdf aa.out _ _) _ _) (Nat.le.refl) _ _ _ _ _)
theorem zo0(s:ByteArray)(i:Nat)(w:World)(hs:s.size≤20000)(hi:i<s.size)(R:OneR)(HL:Hid (∀W,Calls Tryz.prog 160 #[.int .u8 (s[i].toNat:Int)] W (RetB W false)))(t34:((s[i].toNat:Int) == 34)=false)(Yh:Hid (∀W,Calls Tryz.prog 162 #[.string s,.int .i64 (i:Int)] W (RetB W false)))(Yq:Hid (∀W,Calls Tryz.prog 165 #[.int .u8 (s[i].toNat:Int)] W (RetB W false)))(t45:((s[i].toNat:Int) == 45)=true)(Vj:Hid (∀W,Calls Tryz.prog 166 #[.string s,.int .i64 ((i:Int)+1)] W (RetB W false)))(XG:Hid (∀W,Calls Tryz.prog 168 #[.int .u8 (s[i].toNat:Int)] W (RetB W true)))(TX:ByteArray)(Zz:s.extract i (i+1)=TX)(HR:Hid (R=.yes ⟨5,TX,bsL [],0,0⟩ 1)) :
 Calls Tryz.prog 116 #[.string s,.int .i64 (i:Int)] w (zai w i R):=by
 go_enter Tryz.func116,Tryz.ntmps116;go_wp2_with fail;refine(HL.out _).mono ?_;rintro e w' ⟨rfl,rfl⟩;obtain⟨W2,Z4⟩:∃W2,W2=(w.alloc (.cells #[.int .u8 0,.string ⟨#[]⟩,.string ⟨#[]⟩,.int .i64 0,.int .i64 0] 100)).alloc (.cells #[.int .u8 0,.string ⟨#[]⟩,.string ⟨#[]⟩,.int .i64 0,.int .i64 (i:Int)] 100):=⟨_,rfl⟩
 have hg:W2.heap[w.heap.size]?=some (.cells #[.int .u8 0,.string ⟨#[]⟩,.string ⟨#[]⟩,.int .i64 0,.int .i64 0] 100):=by rw[Z4];exact zaw ..
 have ht:W2.heap[w.heap.size+1]?=some (.cells #[.int .u8 0,.string ⟨#[]⟩,.string ⟨#[]⟩,.int .i64 0,.int .i64 (i:Int)] 100):=by rw[Z4];exact zbc ..
 have Z6:Below w.heap.size w W2:=by rw[Z4];exact(zaf w _).alloc (by simp) _
 rw[←Z4];obtain⟨c0,c1,c2,c3,c4,fz⟩:=zal hg;obtain⟨d0,d1,d2,d3,d4,fy⟩:=zal ht;have HG:=Z9 hg;have HT:=Z9 ht;have aa:=Z9 Z6;clear Z4 hg ht Z6;go_wp2_with fail;refine(Yh.out _).mono ?_;rintro e w' ⟨rfl,rfl⟩;go_wp2_with fail;refine(Yq.out _).mono ?_;rintro e w' ⟨rfl,rfl⟩;go_wp2_with fail;refine(Vj.out _).mono ?_;rintro e w' ⟨rfl,rfl⟩;go_wp2_with fail;refine(XG.out _).mono ?_;rintro e w' ⟨rfl,rfl⟩;go_wp2_with fail;refine bodyPost_ret (zaa rfl _ _ w.heap.size 100 _ _ rfl (zag (far1 (far1 HG.out _ _) _ _) _ _ _ _ _) Tryz.underlying100 rfl rfl) rfl ?_
 show zai _ _ _ _ _
 rw[HR.out];exact zap (by omega) (zad (zdf (zdf aa.out _ _) _ _) (Nat.le.refl) _ _ _ _ _)
theorem zo1(s:ByteArray)(i:Nat)(w:World)(hs:s.size≤20000)(hi:i<s.size)(R:OneR)(HL:Hid (∀W,Calls Tryz.prog 160 #[.int .u8 (s[i].toNat:Int)] W (RetB W false)))(t34:((s[i].toNat:Int) == 34)=false)(Yh:Hid (∀W,Calls Tryz.prog 162 #[.string s,.int .i64 (i:Int)] W (RetB W false)))(Yq:Hid (∀W,Calls Tryz.prog 165 #[.int .u8 (s[i].toNat:Int)] W (RetB W false)))(t45:((s[i].toNat:Int) == 45)=false)(XG:Hid (∀W,Calls Tryz.prog 168 #[.int .u8 (s[i].toNat:Int)] W (RetB W true)))(TX:ByteArray)(Zz:s.extract i (i+1)=TX)(HR:Hid (R=.yes ⟨5,TX,bsL [],0,0⟩ 1)) :
 Calls Tryz.prog 116 #[.string s,.int .i64 (i:Int)] w (zai w i R):=by
 go_enter Tryz.func116,Tryz.ntmps116;go_wp2_with fail;refine(HL.out _).mono ?_;rintro e w' ⟨rfl,rfl⟩;obtain⟨W2,Z4⟩:∃W2,W2=(w.alloc (.cells #[.int .u8 0,.string ⟨#[]⟩,.string ⟨#[]⟩,.int .i64 0,.int .i64 0] 100)).alloc (.cells #[.int .u8 0,.string ⟨#[]⟩,.string ⟨#[]⟩,.int .i64 0,.int .i64 (i:Int)] 100):=⟨_,rfl⟩
 have hg:W2.heap[w.heap.size]?=some (.cells #[.int .u8 0,.string ⟨#[]⟩,.string ⟨#[]⟩,.int .i64 0,.int .i64 0] 100):=by rw[Z4];exact zaw ..
 have ht:W2.heap[w.heap.size+1]?=some (.cells #[.int .u8 0,.string ⟨#[]⟩,.string ⟨#[]⟩,.int .i64 0,.int .i64 (i:Int)] 100):=by rw[Z4];exact zbc ..
 have Z6:Below w.heap.size w W2:=by rw[Z4];exact(zaf w _).alloc (by simp) _
 rw[←Z4];obtain⟨c0,c1,c2,c3,c4,fz⟩:=zal hg;obtain⟨d0,d1,d2,d3,d4,fy⟩:=zal ht;have HG:=Z9 hg;have HT:=Z9 ht;have aa:=Z9 Z6;clear Z4 hg ht Z6;go_wp2_with fail;refine(Yh.out _).mono ?_;rintro e w' ⟨rfl,rfl⟩;go_wp2_with fail;refine(Yq.out _).mono ?_;rintro e w' ⟨rfl,rfl⟩;go_wp2_with fail;refine(XG.out _).mono ?_;rintro e w' ⟨rfl,rfl⟩;go_wp2_with fail;refine bodyPost_ret (zaa rfl _ _ w.heap.size 100 _ _ rfl (zag (far1 (far1 HG.out _ _) _ _) _ _ _ _ _) Tryz.underlying100 rfl rfl) rfl ?_
 show zai _ _ _ _ _
 rw[HR.out];exact zap (by omega) (zad (zdf (zdf aa.out _ _) _ _) (Nat.le.refl) _ _ _ _ _)
theorem zo2(s:ByteArray)(i:Nat)(w:World)(hs:s.size≤20000)(hi:i<s.size)(R:OneR)(HL:Hid (∀W,Calls Tryz.prog 160 #[.int .u8 (s[i].toNat:Int)] W (RetB W false)))(t34:((s[i].toNat:Int) == 34)=false)(Yh:Hid (∀W,Calls Tryz.prog 162 #[.string s,.int .i64 (i:Int)] W (RetB W false)))(Yq:Hid (∀W,Calls Tryz.prog 165 #[.int .u8 (s[i].toNat:Int)] W (RetB W false)))(t45:((s[i].toNat:Int) == 45)=false)(XG:Hid (∀W,Calls Tryz.prog 168 #[.int .u8 (s[i].toNat:Int)] W (RetB W false)))(HR:Hid (R=.no 12)) :
 Calls Tryz.prog 116 #[.string s,.int .i64 (i:Int)] w (zai w i R):=by
 go_enter Tryz.func116,Tryz.ntmps116;go_wp2_with fail;refine(HL.out _).mono ?_;rintro e w' ⟨rfl,rfl⟩;obtain⟨W2,Z4⟩:∃W2,W2=(w.alloc (.cells #[.int .u8 0,.string ⟨#[]⟩,.string ⟨#[]⟩,.int .i64 0,.int .i64 0] 100)).alloc (.cells #[.int .u8 0,.string ⟨#[]⟩,.string ⟨#[]⟩,.int .i64 0,.int .i64 (i:Int)] 100):=⟨_,rfl⟩
 have hg:W2.heap[w.heap.size]?=some (.cells #[.int .u8 0,.string ⟨#[]⟩,.string ⟨#[]⟩,.int .i64 0,.int .i64 0] 100):=by rw[Z4];exact zaw ..
 have ht:W2.heap[w.heap.size+1]?=some (.cells #[.int .u8 0,.string ⟨#[]⟩,.string ⟨#[]⟩,.int .i64 0,.int .i64 (i:Int)] 100):=by rw[Z4];exact zbc ..
 have Z6:Below w.heap.size w W2:=by rw[Z4];exact(zaf w _).alloc (by simp) _
 rw[←Z4];obtain⟨c0,c1,c2,c3,c4,fz⟩:=zal hg;obtain⟨d0,d1,d2,d3,d4,fy⟩:=zal ht;have HG:=Z9 hg;have HT:=Z9 ht;have aa:=Z9 Z6;clear Z4 hg ht Z6;go_wp2_with fail;refine(Yh.out _).mono ?_;rintro e w' ⟨rfl,rfl⟩;go_wp2_with fail;refine(Yq.out _).mono ?_;rintro e w' ⟨rfl,rfl⟩;go_wp2_with fail;refine(XG.out _).mono ?_;rintro e w' ⟨rfl,rfl⟩;go_wp2_with fail;refine bodyPost_ret (zaa rfl _ _ w.heap.size 100 _ _ rfl (zag HG.out _ _ _ _ _) Tryz.underlying100 rfl rfl) rfl ?_
 show zai _ _ _ _ _
 rw[HR.out];exact za8 (zad aa.out (Nat.le.refl) _ _ _ _ _)
set_option linter.unusedVariables false
theorem zgv{W:World}{g:Nat}{o:Obj}(h:W.heap[g]?=some o)(O:Obj):(W.alloc O).heap[g]?=some o:=(Below.heap_alloc W O g (Z8 h)).trans h
theorem ze9{w W:World}(h:Below w.heap.size w W)(O:Obj):Below w.heap.size w (W.alloc O):=h.alloc h.size O
theorem zsd(s:ByteArray)(i:Nat)(w:World)(hs:s.size≤20000)(hi:i<s.size)(R:OneR)(HL:Hid (∀W,Calls Tryz.prog 160 #[.int .u8 (s[i].toNat:Int)] W (RetB W false)))(t34:((s[i].toNat:Int) == 34)=false)(Yh:Hid (∀W,Calls Tryz.prog 162 #[.string s,.int .i64 (i:Int)] W (RetB W false)))(Yq:Hid (∀W,Calls Tryz.prog 165 #[.int .u8 (s[i].toNat:Int)] W (RetB W true)))(XN:Hid (∀W,Calls Tryz.prog 167 #[.string s,.int .i64 (i:Int)] W (zai W i R))) :
 Calls Tryz.prog 116 #[.string s,.int .i64 (i:Int)] w (zai w i R):=by
 go_enter Tryz.func116,Tryz.ntmps116;go_wp2_with fail;refine(HL.out _).mono ?_;rintro e w' ⟨rfl,rfl⟩;obtain⟨W2,Z4⟩:∃W2,W2=(w.alloc (.cells #[.int .u8 0,.string ⟨#[]⟩,.string ⟨#[]⟩,.int .i64 0,.int .i64 0] 100)).alloc (.cells #[.int .u8 0,.string ⟨#[]⟩,.string ⟨#[]⟩,.int .i64 0,.int .i64 (i:Int)] 100):=⟨_,rfl⟩
 have hg:W2.heap[w.heap.size]?=some (.cells #[.int .u8 0,.string ⟨#[]⟩,.string ⟨#[]⟩,.int .i64 0,.int .i64 0] 100):=by rw[Z4];exact zaw ..
 have ht:W2.heap[w.heap.size+1]?=some (.cells #[.int .u8 0,.string ⟨#[]⟩,.string ⟨#[]⟩,.int .i64 0,.int .i64 (i:Int)] 100):=by rw[Z4];exact zbc ..
 have Z6:Below w.heap.size w W2:=by rw[Z4];exact(zaf w _).alloc (by simp) _
 rw[←Z4];obtain⟨c0,c1,c2,c3,c4,fz⟩:=zal hg;obtain⟨d0,d1,d2,d3,d4,fy⟩:=zal ht;have HG:=Z9 hg;have HT:=Z9 ht;have aa:=Z9 Z6;clear Z4 hg ht Z6;go_wp2_with fail;refine(Yh.out _).mono ?_;rintro e w' ⟨rfl,rfl⟩;go_wp2_with fail;refine(Yq.out _).mono ?_;rintro e w' ⟨rfl,rfl⟩;go_wp2_with fail;have XN:=Z9 (XN.out W2)
 cases R with
 |no er =>
  refine XN.out.mono ?_;rintro e w3 ⟨⟨K,TT,Q,D,en,rfl⟩,Z0⟩;have ZY:=(Z0.block _ (Z8 HG.out)).trans HG.out;have Zo:w.heap.size<w3.heap.size:=(Z8 ZY);have ap:=Z9 ZY;have af:=Z9 (aa.out.trans (Z0.mono aa.out.size));clear c0 c1 c2 c3 c4 fz d0 d1 d2 d3 d4 fy Z0;obtain⟨c0,c1,c2,c3,c4,fz⟩:=zal ZY;clear ZY;go_wp2_with fail;refine bodyPost_ret (zaa rfl _ _ w.heap.size 100 _ _ rfl (zgv (zag ap.out _ _ _ _ _) _) Tryz.underlying100 rfl rfl) rfl ?_
  show zai _ _ _ _ _
  exact za8 (ze9 (zad af.out (Nat.le.refl) _ _ _ _ _) _)
 |yes t n =>
  refine XN.out.mono ?_;rintro e w3 ⟨rfl,Z0⟩;have ZY:=(Z0.block _ (Z8 HG.out)).trans HG.out;have Zo:w.heap.size<w3.heap.size:=(Z8 ZY);have ap:=Z9 ZY;have af:=Z9 (aa.out.trans (Z0.mono aa.out.size));clear c0 c1 c2 c3 c4 fz d0 d1 d2 d3 d4 fy Z0;obtain⟨c0,c1,c2,c3,c4,fz⟩:=zal ZY;clear ZY;go_wp2_with fail;refine bodyPost_ret (zaa rfl _ _ w.heap.size 100 _ _ rfl (zgv (zag ap.out _ _ _ _ _) _) Tryz.underlying100 rfl rfl) rfl ?_
  show zai _ _ _ _ _
  exact zap rfl (ze9 (zad af.out (Nat.le.refl) _ _ _ _ _) _)
theorem zsc(s:ByteArray)(i:Nat)(w:World)(hs:s.size≤20000)(hi:i<s.size)(R:OneR)(HL:Hid (∀W,Calls Tryz.prog 160 #[.int .u8 (s[i].toNat:Int)] W (RetB W false)))(t34:((s[i].toNat:Int) == 34)=false)(Yh:Hid (∀W,Calls Tryz.prog 162 #[.string s,.int .i64 (i:Int)] W (RetB W false)))(Yq:Hid (∀W,Calls Tryz.prog 165 #[.int .u8 (s[i].toNat:Int)] W (RetB W false)))(t45:((s[i].toNat:Int) == 45)=true)(Vj:Hid (∀W,Calls Tryz.prog 166 #[.string s,.int .i64 ((i:Int)+1)] W (RetB W true)))(XN:Hid (∀W,Calls Tryz.prog 167 #[.string s,.int .i64 (i:Int)] W (zai W i R))) :
 Calls Tryz.prog 116 #[.string s,.int .i64 (i:Int)] w (zai w i R):=by
 go_enter Tryz.func116,Tryz.ntmps116;go_wp2_with fail;refine(HL.out _).mono ?_;rintro e w' ⟨rfl,rfl⟩;obtain⟨W2,Z4⟩:∃W2,W2=(w.alloc (.cells #[.int .u8 0,.string ⟨#[]⟩,.string ⟨#[]⟩,.int .i64 0,.int .i64 0] 100)).alloc (.cells #[.int .u8 0,.string ⟨#[]⟩,.string ⟨#[]⟩,.int .i64 0,.int .i64 (i:Int)] 100):=⟨_,rfl⟩
 have hg:W2.heap[w.heap.size]?=some (.cells #[.int .u8 0,.string ⟨#[]⟩,.string ⟨#[]⟩,.int .i64 0,.int .i64 0] 100):=by rw[Z4];exact zaw ..
 have ht:W2.heap[w.heap.size+1]?=some (.cells #[.int .u8 0,.string ⟨#[]⟩,.string ⟨#[]⟩,.int .i64 0,.int .i64 (i:Int)] 100):=by rw[Z4];exact zbc ..
 have Z6:Below w.heap.size w W2:=by rw[Z4];exact(zaf w _).alloc (by simp) _
 rw[←Z4];obtain⟨c0,c1,c2,c3,c4,fz⟩:=zal hg;obtain⟨d0,d1,d2,d3,d4,fy⟩:=zal ht;have HG:=Z9 hg;have HT:=Z9 ht;have aa:=Z9 Z6;clear Z4 hg ht Z6;go_wp2_with fail;refine(Yh.out _).mono ?_;rintro e w' ⟨rfl,rfl⟩;go_wp2_with fail;refine(Yq.out _).mono ?_;rintro e w' ⟨rfl,rfl⟩;go_wp2_with fail;refine(Vj.out _).mono ?_;rintro e w' ⟨rfl,rfl⟩;go_wp2_with fail;have XN:=Z9 (XN.out W2)
 cases R with
 |no er =>
  refine XN.out.mono ?_;rintro e w3 ⟨⟨K,TT,Q,D,en,rfl⟩,Z0⟩;have ZY:=(Z0.block _ (Z8 HG.out)).trans HG.out;have Zo:w.heap.size<w3.heap.size:=(Z8 ZY);have ap:=Z9 ZY;have af:=Z9 (aa.out.trans (Z0.mono aa.out.size));clear c0 c1 c2 c3 c4 fz d0 d1 d2 d3 d4 fy Z0;obtain⟨c0,c1,c2,c3,c4,fz⟩:=zal ZY;clear ZY;go_wp2_with fail;refine bodyPost_ret (zaa rfl _ _ w.heap.size 100 _ _ rfl (zgv (zag ap.out _ _ _ _ _) _) Tryz.underlying100 rfl rfl) rfl ?_
  show zai _ _ _ _ _
  exact za8 (ze9 (zad af.out (Nat.le.refl) _ _ _ _ _) _)
 |yes t n =>
  refine XN.out.mono ?_;rintro e w3 ⟨rfl,Z0⟩;have ZY:=(Z0.block _ (Z8 HG.out)).trans HG.out;have Zo:w.heap.size<w3.heap.size:=(Z8 ZY);have ap:=Z9 ZY;have af:=Z9 (aa.out.trans (Z0.mono aa.out.size));clear c0 c1 c2 c3 c4 fz d0 d1 d2 d3 d4 fy Z0;obtain⟨c0,c1,c2,c3,c4,fz⟩:=zal ZY;clear ZY;go_wp2_with fail;refine bodyPost_ret (zaa rfl _ _ w.heap.size 100 _ _ rfl (zgv (zag ap.out _ _ _ _ _) _) Tryz.underlying100 rfl rfl) rfl ?_
  show zai _ _ _ _ _
  exact zap rfl (ze9 (zad af.out (Nat.le.refl) _ _ _ _ _) _)
set_option linter.unusedVariables false
theorem zw2(s:ByteArray)(i:Nat):(s.data.toList.drop i).length=s.size-i:=by rw[List.length_drop,zab]
theorem zyt(s:ByteArray)(i:Nat)(w:World)(hs:s.size≤20000)(hi:i<s.size):Calls Tryz.prog 116 #[.string s,.int .i64 (i:Int)] w (zai w i (oneL (s.data.toList.drop i))):=by
 have hl:=zfe s i hi;have UA:i+1≤s.size:=by omega
 have ad:=Z9 (fun W=>znf s[i] W);rw[hl];obtain⟨r,hr⟩:∃r,r=s.data.toList.drop (i+1):=⟨_,rfl⟩
 rw[←hr];have WD:r.length=s.size-(i+1):=by rw[hr,zw2]
 by_cases VL:letB s[i]=true
 ·rw[VL]at ad
  rw[zem VL];obtain⟨E,hE⟩:∃E,E=i+1+spn wdQ r:=⟨_,rfl⟩
  have XD:E≤s.size:=by have:=zd4 wdQ r;omega
  have hT:(s.extract i E).data.toList=(s[i] :: r).take (spn wdQ r+1):=by
   rw[zcb,hl,←hr];congr 1;omega
  have a0:(s.extract i E).size=spn wdQ r+1:=by simp;omega
  have HE:Hid (i+1+spn wdQ (s.data.toList.drop (i+1))=E):=by rw[←hr];exact hE.symm
  by_cases Vl:40<spn wdQ r+1
  ·rw[if_pos Vl]
   exact zsb s i w hs hi _ ad E _ HE (by omega) XD rfl (by simp;omega) rfl
  ·rw[if_neg Vl]
   refine zsa s i w hs hi _ ad E _ HE (by omega) XD rfl (by simp;omega) ?_
   show OneR.yes _ _=OneR.yes _ _
   rw[zl2 hT,show E-i=spn wdQ r+1 by omega];rfl
 ·have bc:=Bool.eq_false_iff.2 VL
  rw[bc]at ad
  by_cases V5:s[i].toNat=34
  ·have t34:((s[i].toNat:Int) == 34)=true:=by simp;omega
   rw[zdk V5]
   obtain⟨k,hk⟩:∃k,k=spn (fun x=>decide (x.toNat≠34)) r:=⟨_,rfl⟩
   rw[←hk];have hkl:k≤r.length:=by rw[hk];exact zd4 _ r
   have HE:Hid (i+1+spn (fun x=>decide (x.toNat≠34)) (s.data.toList.drop (i+1))=i+1+k):=by rw[←hr,←hk];exact rfl
   by_cases YV:k<r.length
   ·have hT:(s.extract (i+1) (i+1+k)).data.toList=r.take k:=by rw[zcb,←hr];congr 1;omega
    cases hn:nmB (r.take k)with
    |true =>
     rw[if_pos ⟨YV,rfl⟩];refine zox s i w hs hi _ ad t34 (i+1+k) HE (by omega) (by omega) _ rfl (zv6 _ _ (by rw[hT];exact hn)) ?_
     show OneR.yes _ _=OneR.yes _ _
     rw[zl2 hT,show i+1+k+1-i=k+2 by omega];rfl
    |false =>
     rw[if_neg (by rintro⟨_,a⟩;cases a)];exact zoy s i w hs hi _ ad t34 (i+1+k) HE (by omega) (by omega) _ rfl (zv6 _ _ (by rw[hT];exact hn)) rfl
   ·rw[if_neg (by rintro⟨a,_⟩;exact YV a)]
    exact zoz s i w hs hi _ ad t34 (i+1+k) HE (by omega) (by omega) rfl
  ·have t34:((s[i].toNat:Int) == 34)=false:=by simp;omega
   have Yh:=Z9 (fun W=>z0f s i W (by omega) (by omega));rw[hl,←hr]at Yh
   by_cases Zm:dayQ (s[i] :: r)=true
   ·rw[Zm]at Yh
    rw[zf4 Zm];have Za:i+10≤s.size:=by have:=zgc Zm;simp at this;omega
    have Wv:=Z9 (fun W:World=>ze3 s (i+10) W Za);have aK:s.data.toList.drop (i+10)=(s[i] :: r).drop 10:=by rw[hr,←hl,List.drop_drop]
    rw[aK]at Wv
    cases S6:endQ ((s[i] :: r).drop 10)with
    |false =>
     rw[S6]at Wv;rw[if_neg (by decide)];exact zu5 s i w hs hi _ ad t34 Yh Za Wv rfl
    |true =>
     rw[S6]at Wv;rw[if_pos rfl];have hT:(s.extract i (i+10)).data.toList=(s[i] :: r).take 10:=by rw[zcb,hl,←hr];congr 1;omega
     have a0:(s.extract i (i+10)).size=10:=by simp;omega
     have aH:dayQ (s.extract i (i+10)).data.toList=true:=by
      rw[hT];obtain⟨c0,c1,c2,c3,c5,c6,c8,c9,t,e,h0,h1,h2,h3,h5,h6,h8,h9⟩:=zik Zm;rw[e]at Zm ⊢;exact Zm
     have bd:datV (s.extract i (i+10)).data.toList=datV (s[i] :: r):=by
      rw[hT];obtain⟨c0,c1,c2,c3,c5,c6,c8,c9,t,e,_⟩:=zik Zm;rw[e];rfl
     obtain⟨v,q,hp,h1,h2⟩:=zlf _ a0 aH;rw[bd]at h1 h2
     cases hv:datV (s[i] :: r)with
     |some day =>
      obtain⟨e1,e2⟩:=h1 day hv;exact zu3 s i w hs hi _ ad t34 Yh Za Wv v q e2 _ rfl (Z9 hp) (by rw[e1];exact rfl)
     |none =>
      exact zu4 s i w hs hi _ ad t34 Yh Za Wv v q (by simpa using h2 hv) _ rfl (Z9 hp) rfl
   ·have be:=Bool.eq_false_iff.2 Zm
    rw[be]at Yh;have Yq:=Z9 (fun W=>zg4 s[i] W);have Vj:=Z9 (fun W:World=>show Calls Tryz.prog 166 #[.string s,.int .i64 ((i:Int)+1)] W (RetB W (dgH r))from(by have:=zc3 s (i+1) W UA;rw[←hr]at this;exact this))
    cases TY:dgQ s[i]with
    |true =>
     rw[TY]at Yq;rw[zez Zm (.inl TY)];have XN:=Z9 (fun W=>zmq s i W (by omega) hi (.inl TY));rw[hl,←hr]at XN;exact zsd s i w hs hi _ ad t34 Yh Yq XN
    |false =>
     rw[TY]at Yq;have XG:=Z9 (fun W=>zzh s[i] W)
     have hT:(s.extract i (i+1)).data.toList=[s[i]]:=by
      rw[zcb,hl,show i+1-i=1 by omega];rfl
     by_cases YN:s[i].toNat=45
     ·have t45:((s[i].toNat:Int) == 45)=true:=by simp;omega
      cases Ux:dgH r with
      |true =>
       rw[Ux]at Vj;rw[zez Zm (.inr ⟨YN,Ux⟩)];have XN:=Z9 (fun W=>zmq s i W (by omega) hi (.inr ⟨YN,by rw[←hr];exact Ux⟩));rw[hl,←hr]at XN;exact zsc s i w hs hi _ ad t34 Yh Yq t45 Vj XN
      |false =>
       rw[Ux]at Vj;have Yb:mkB s[i]=true:=(zlo _).2 (by omega);rw[Yb]at XG;rw[zdo Yb (by rintro⟨_,a⟩;rw[a]at Ux;cases Ux)];exact zo0 s i w hs hi _ ad t34 Yh Yq t45 Vj XG _ rfl (by rw[zl2 hT];exact rfl)
     ·have t45:((s[i].toNat:Int) == 45)=false:=by simp;omega
      cases Yb:mkB s[i]with
      |true =>
       rw[Yb]at XG;rw[zdo Yb (fun e=>YN e.1)];exact zo1 s i w hs hi _ ad t34 Yh Yq t45 XG _ rfl (by rw[zl2 hT];exact rfl)
      |false =>
       rw[Yb]at XG;rw[zen VL V5 (by rw[TY];decide) (by rw[Yb];decide)];exact zo2 s i w hs hi _ ad t34 Yh Yq t45 XG rfl
theorem zqt(s:ByteArray)(w:World)(hs:s.size≤20000):Calls Tryz.prog 65 #[.string s] w (zl8 w s.size (lexL 0 s.data.toList)) :=
 z2z s w hs _ rfl (Z9 fun T W h=>zyt s T W hs h)
def plW{α:Type}(r:Rd α)(len:Nat):Int:=match r with | .ok _ [] => -1 | .no []=>(len:Int) | .ok _ (t :: _)=>t.place | .no (t :: _)=>t.place
theorem zmw(rb:Nat)(ts:List Tk)(s:ByteArray)(w:World)(a:Option Addr)(cap nx:Nat)(b:Bool)(t:Tk)(l:List Tk)(hb:w.heap[rb]?=some (.cells #[.slice a ts.length cap,.int .i64 (nx:Nat),.bool b] 98))(_h1:ts.length≤cap)(_h3:ts.length≤100000)(h4:ts.drop nx=t :: l)(h5:TksAt w rb a ts) :
 Calls Tryz.prog 68 #[.agg #[.slice a ts.length cap,.int .i64 (nx:Nat),.bool b],.string s] w (IntP w t.place):=by
 obtain⟨g,o,rfl,Z7,_,hg,Y1,hc⟩:=h5.nth h4;obtain⟨W0,Z3⟩:∃W0,W0=w.alloc (.cells #[.slice (some ⟨g,o,none⟩) ts.length cap,.int .i64 (nx:Nat),.bool b] 98):=⟨_,rfl⟩
 have ZP:Below w.heap.size w W0:=by rw[Z3];exact zaf w _
 have ZZ:W0.heap[w.heap.size]?=some (.cells #[.slice (some ⟨g,o,none⟩) ts.length cap,.int .i64 (nx:Nat),.bool b] 98):=by rw[Z3];exact heap_alloc_new w _
 obtain⟨c0,c1,c2⟩:=q3 ZZ;have k4:=((zfx ZP).1 g (o+nx*5+4) hg).trans (hc 4 (by omega));change W0.cell? ⟨g,o+nx*5+4,none⟩=some (.int .i64 t.place)at k4;have Xz:decide ((nx:Int)<(ts.length:Int))=true:=decide_eq_true (by omega);have aY:(0:Int)≤(nx:Int):=by omega
 have HF:=Z9 ZP;have aw:=Z9 Z3;obtain⟨n,hn⟩:∃n,n=ts.length:=⟨_,rfl⟩
 rw[←hn]at c0 Xz Z7 aw ⊢;have hni:(nx:Int)<(n:Int):=by omega
 clear hb h5 h4 hc hn ZZ Z3 ZP;go_enter Tryz.func68,Tryz.ntmps68;go_wp2_with (rw[←aw.out]);go_ret;exact⟨rfl,HF.out⟩
theorem zmx(ts:List Tk)(s:ByteArray)(w:World)(a:Option Addr)(cap nx:Nat)(b:Bool)(h4:ts.drop nx=[]) :
 Calls Tryz.prog 68 #[.agg #[.slice a ts.length cap,.int .i64 (nx:Nat),.bool b],.string s] w (IntP w (if b=true then(s.size:Int)else -1)):=by
 obtain⟨W0,Z3⟩:∃W0,W0=w.alloc (.cells #[.slice a ts.length cap,.int .i64 (nx:Nat),.bool b] 98):=⟨_,rfl⟩
 have ZP:Below w.heap.size w W0:=by rw[Z3];exact zaf w _
 have ZZ:W0.heap[w.heap.size]?=some (.cells #[.slice a ts.length cap,.int .i64 (nx:Nat),.bool b] 98):=by rw[Z3];exact heap_alloc_new w _
 obtain⟨c0,c1,c2⟩:=q3 ZZ;have YZ:ts.length≤nx:=List.drop_eq_nil_iff.1 h4;have Xz:decide ((nx:Int)<(ts.length:Int))=false:=decide_eq_false (by omega);have HF:=Z9 ZP;have aw:=Z9 Z3;obtain⟨n,hn⟩:∃n,n=ts.length:=⟨_,rfl⟩
 rw[←hn]at c0 Xz aw YZ ⊢;clear h4 hn ZZ Z3 ZP
 cases b
 all_goals
  go_enter Tryz.func68,Tryz.ntmps68;go_wp2_with (rw[←aw.out]);go_ret;exact⟨rfl,HF.out⟩
theorem zy7{α:Type}{rb:Nat}{ts:List Tk}{w:World}{r:Rd α}(s:ByteArray)(h:QSt rb ts w r){a:Option Addr}{n cap:Nat}{nx:Int}{b:Bool}(hb:w.heap[rb]?=some (.cells #[.slice a n cap,.int .i64 nx,.bool b] 98)) :
 Calls Tryz.prog 68 #[.agg #[.slice a n cap,.int .i64 nx,.bool b],.string s] w (IntP w (plW r s.size)):=by
 cases r with
 |ok x l =>
  obtain⟨a',cap',nx',aj,h1,h2,h3,h4,h5⟩:=h;have e:=hb.symm.trans aj;simp only[Option.some.injEq,Obj.cells.injEq,Array.mk.injEq,List.cons.injEq,Value.slice.injEq,Value.int.injEq,Value.bool.injEq,true_and,and_true]at e;obtain⟨⟨rfl,rfl,rfl⟩,rfl,rfl⟩:=e
  cases l with
  |nil=>exact zmx ts s w _ _ nx' false h4
  |cons t l=>exact zmw rb ts s w _ _ nx' false t l aj h1 h3 h4 h5
 |no l =>
  obtain⟨a',cap',nx',aj,h1,h2,h3,h4,h5⟩:=h;have e:=hb.symm.trans aj;simp only[Option.some.injEq,Obj.cells.injEq,Array.mk.injEq,List.cons.injEq,Value.slice.injEq,Value.int.injEq,Value.bool.injEq,true_and,and_true]at e;obtain⟨⟨rfl,rfl,rfl⟩,rfl,rfl⟩:=e
  cases l with
  |nil=>exact zmx ts s w _ _ nx' true h4
  |cons t l=>exact zmw rb ts s w _ _ nx' true t l aj h1 h3 h4 h5
theorem z3e{α:Type}{rb:Nat}{ts:List Tk}{w:World}{r:Rd α}(h:QSt rb ts w r):∃a cap nx b,w.heap[rb]?=some (.cells #[.slice a ts.length cap,.int .i64 nx,.bool b] 98):=by
 cases r with
 |ok x l =>
  obtain⟨a',cap',nx',aj,_⟩:=h;exact⟨_,_,_,_,aj⟩
 |no l =>
  obtain⟨a',cap',nx',aj,_⟩:=h;exact⟨_,_,_,_,aj⟩
def trQ:List Tk→Bool
 | []=>false
 |t :: _=>(t.kind == 1) && (((((t.text.toList == [108,101,115,115]) ||(t.text.toList == [101,113,117,97,108])) ||(t.text.toList == [97,110,100])) ||(t.text.toList == [111,114])) ||(t.text.toList == [110,111,116]))
theorem zrx(n:Nat)(l:List Tk):zde n l=rdE n (!trQ l) l:=by
 unfold zde
 cases l with
 |nil=>rfl
 |cons t l =>
  have hh:∀s,kwB s=true→((zar (t :: l)=s)↔((t.kind == 1) && (t.text.toList == s))=true):=fun s hs=>by
   have:=zqi (l:=t :: l) hs;change (decide (t.kind=1) && (t.text.data.toList == s))=_ at this;rw[←zac]at this
   have e:(t.kind == 1)=decide (t.kind=1):=by by_cases h:t.kind=1<;>simp[h]
   rw[e,this,decide_eq_true_iff]
  have h1:=hh [108,101,115,115] (by decide);have h2:=hh [101,113,117,97,108] (by decide);have h3:=hh [97,110,100] (by decide);have h4:=hh [111,114] (by decide);have h5:=hh [110,111,116] (by decide)
  have hk:(zar (t :: l)=[108,101,115,115]∨zar (t :: l)=[101,113,117,97,108]∨zar (t :: l)=[97,110,100]∨zar (t :: l)=[111,114]∨zar (t :: l)=[110,111,116])↔((t.kind == 1) && (((((t.text.toList == [108,101,115,115]) ||(t.text.toList == [101,113,117,97,108])) ||(t.text.toList == [97,110,100])) ||(t.text.toList == [111,114])) ||(t.text.toList == [110,111,116])))=true:=by
   simp only[h1,h2,h3,h4,h5,Bool.and_eq_true,Bool.or_eq_true]
   constructor
   ·rintro(⟨a,b⟩ |⟨a,b⟩ |⟨a,b⟩ |⟨a,b⟩ |⟨a,b⟩)
    ·exact⟨a,.inl (.inl (.inl (.inl b)))⟩
    ·exact⟨a,.inl (.inl (.inl (.inr b)))⟩
    ·exact⟨a,.inl (.inl (.inr b))⟩
    ·exact⟨a,.inl (.inr b)⟩
    ·exact⟨a,.inr b⟩
   ·rintro⟨a,(((b |b) |b) |b) |b⟩
    ·exact .inl ⟨a,b⟩
    ·exact .inr (.inl ⟨a,b⟩)
    ·exact .inr (.inr (.inl ⟨a,b⟩))
    ·exact .inr (.inr (.inr (.inl ⟨a,b⟩)))
    ·exact .inr (.inr (.inr (.inr ⟨a,b⟩)))
  show _=rdE n (!((t.kind == 1) && (((((t.text.toList == [108,101,115,115]) ||(t.text.toList == [101,113,117,97,108])) ||(t.text.toList == [97,110,100])) ||(t.text.toList == [111,114])) ||(t.text.toList == [110,111,116])))) (t :: l)
  obtain⟨q,hq⟩:∃q,q=((t.kind == 1) && (((((t.text.toList == [108,101,115,115]) ||(t.text.toList == [101,113,117,97,108])) ||(t.text.toList == [97,110,100])) ||(t.text.toList == [111,114])) ||(t.text.toList == [110,111,116]))):=⟨_,rfl⟩
  rw[←hq]at hk ⊢
  cases q with
  |true=>exact if_pos (hk.2 rfl)
  |false=>exact if_neg fun h=>absurd (hk.1 h) (by decide)
theorem zwg:∀(n off:Nat)(l:List UInt8),l.length≤n→∀{ts:List Tk},lexL off l=.yes ts→∀t ∈ ts,0≤t.place:=by
 intro n
 induction n with
 |zero =>
  intro off l hl ts h;have:l=[]:=List.length_eq_zero_iff.1 (by omega);subst this;rw[zc8 (by rfl)]at h
  injection h with h;subst h;exact fun t ht=>by cases ht
 |succ n ih =>
  intro off l hl ts h
  by_cases hs:skS false l<l.length
  ·cases ho:oneL (l.drop (skS false l))with
   |no e=>rw[zhi hs ho]at h;cases h
   |yes t k =>
    have hk:=zey ho;rw[zf6 hs ho]at h
    cases hr:lexL (off+skS false l+k) (l.drop (skS false l+k))with
    |no i e=>rw[hr]at h;cases h
    |yes us =>
     rw[hr]at h;have a:=ih _ _ (by rw[List.length_drop];omega) hr
     injection h with h
     subst h;intro u hu
     rcases List.mem_cons.1 hu with rfl |hu
     ·exact Int.natCast_nonneg _
     ·exact a u hu
  ·have:=ziz false l
   rw[zc8 (by omega)]at h
   injection h with h;subst h;exact fun t ht=>by cases ht
theorem zmp{w:World}{s:ByteArray}{i:Int}{er:Int}(S7:er≠0)(HL:Hid (∀W,Calls Tryz.prog 65 #[.string s] W (fun e w'=>e=.returned (.tuple #[.slice none 0 0,.int .i64 i,.int .i64 er])∧Below W.heap.size W w'))) :
 Calls Tryz.prog 26 #[.string s] w (RxP w (none,i,er)):=by
 have ZS:=zaf w zC;have ZZ:=heap_alloc_new w zC;have e2:(er != 0)=true:=by simp[S7]
 have aA:=Z9 ZS;have aD:=Z9 ZZ;clear ZS ZZ;go_enter Tryz.func26,Tryz.ntmps26;go_wp2_with fail;refine(HL.out _).mono ?_;rintro e u ⟨rfl,hb⟩;have hr:=(hb.block _ (Z8 aD.out)).trans aD.out;have ag:=za2 hr (.int .u8 0) (.string ⟨#[]⟩) (.string ⟨#[]⟩) (.int .i64 0) (.slice none 0 0);obtain⟨r0,r1,r2,r3,r4⟩:=zae hr;have fr:∀i,u.frozen? ⟨w.heap.size,i,none⟩=false:=Lib.frozen_of_heap hr
 have l0:=(Z8 hr);have an:=Z9 (zae ag);have HU:=Z9 (aA.out.trans (hb.mono aA.out.size));have aq:=Z9 (((((HU.out.setCell (p:=⟨w.heap.size,0,none⟩) (Nat.le.refl) (.int .u8 0)).setCell (p:=⟨w.heap.size,1,none⟩) (Nat.le.refl) (.string ⟨#[]⟩)).setCell (p:=⟨w.heap.size,2,none⟩) (Nat.le.refl) (.string ⟨#[]⟩)).setCell (p:=⟨w.heap.size,3,none⟩) (Nat.le.refl) (.int .i64 0)).setCell (p:=⟨w.heap.size,4,none⟩) (Nat.le.refl) (.slice none 0 0));clear hb hr ag;go_wp2_with fail;obtain⟨q0,q1,q2,q3,q4⟩:=an.out;exact bodyPost_ret (v:=.tuple #[.agg #[.int .u8 0,.string ⟨#[]⟩,.string ⟨#[]⟩,.int .i64 0,.slice none 0 0],.int .i64 i,.int .i64 er]) (by simp only[results,Tryz.results26];simp[go_sem,q0,q1,q2,q3,q4]) rfl ⟨_,rfl,rfl,aq.out⟩
theorem z7i:fnQ true=67:=rfl
theorem z7j:fnQ false=66:=rfl
noncomputable def rxR(R:Rd Ex)(len:Nat):Option Ex × Int × Int :=
 match R with
 | .ok x []=>if chkX x=0 then(some x,(len:Int),0)else(none,(len:Int),chkX x)
 | .ok _ (t :: _)=>(none,t.place,12)
 | .no []=>(none,(len:Int),12)
 | .no (t :: _)=>(none,t.place,12)
theorem zuy{s:ByteArray}{ts:List Tk}(h:lexL 0 s.data.toList=.yes ts):zk6 s=rxR (zde 20001 ts) s.size:=by
 unfold zk6 rxR;rw[h];rfl
theorem z5g{R:Rd Ex}{len:Nat}(h:0≤plW R len):rxR R len=(none,plW R len,12):=by
 cases R with
 |ok x l =>
  cases l with
  |nil=>exact absurd h (by show ¬(0:Int) ≤ -1;decide)
  |cons t l=>rfl
 |no l=>cases l<;>rfl
theorem z5w{R:Rd Ex}{len:Nat}(hr:∀t ∈ R.rest,0≤t.place)(h:∀x,R≠.ok x []):0≤plW R len:=by
 cases R with
 |ok x l =>
  cases l with
  |nil=>exact absurd rfl (h x)
  |cons t l=>exact hr t (List.mem_cons_self ..)
 |no l =>
  cases l with
  |nil=>exact Int.natCast_nonneg _
  |cons t l=>exact hr t (List.mem_cons_self ..)
theorem zr8{w Wg:World}{s:ByteArray}{ts:List Tk}(a5:ts.length≤20000)(Yg:∀t ∈ ts,0≤t.place)(T4:∀x l,zde 20001 ts=.ok x l→GdX x∧x.size≤100000)(ZQ:zhp Wg)(YX:Below Wg.heap.size Wg w)
 (HL:Hid (∀W,Calls Tryz.prog 65 #[.string s] W (fun e w'=>∃v,e=.returned (.tuple #[v,.int .i64 (s.size:Int),.int .i64 0])∧w'.ownsRow W.heap.size 100 5 v ts.length (tks ts)∧Below W.heap.size W w'))) :
 Calls Tryz.prog 26 #[.string s] w (RxP w (rxR (zde 20001 ts) s.size)):=by
 have ZS:=zaf w zC;have ZZ:=heap_alloc_new w zC;have aA:=Z9 ZS;have aD:=Z9 ZZ;obtain⟨R,hR⟩:∃R,R=zde 20001 ts:=⟨_,rfl⟩
 have aL:R=rdE 20001 (!trQ ts) ts:=hR.trans (zrx _ _)
 have YM:∀t ∈ R.rest,0≤t.place:=fun t ht=>by
  have:=zbh 20001 (!trQ ts) ts;rw[←aL]at this
  cases hq:R with
  |ok x l=>rw[hq]at this ht;exact Yg t (this.1.subset ht)
  |no l=>rw[hq]at this ht;exact Yg t (List.IsSuffix.subset this ht)
 rw[←hR]at T4 ⊢
 have HP:Hid (∀rb W,QAt rb ts W false ts→Calls Tryz.prog (fnQ (!trQ ts)) #[.pointer (some ⟨rb,0,none⟩)] W (QP (VEx W.heap.size) QEx rb ts W R)):=Z9 (fun rb W hW=>by
  have:=zmz rb ts 20001 (!trQ ts) W (.ok [] ts) hW (fun x l e=>by injection e with e1 e2;rw[←e2];omega);rw[Rd.bind_ok]at this
  have e:za9 (rdE 20001 true) (rdE 20001 false) (!trQ ts) ts=R:=by rw[aL];cases trQ ts<;>rfl
  rw[e]at this
  exact this)
 have ax:Hid (∀x,R=.ok x []→plW R s.size = -1):=Z9 (fun x e=>by rw[e];rfl);have ay:Hid ((∀x,R≠.ok x [])→0≤plW R s.size):=Z9 (fun h=>z5w YM h);have ac:Hid ((0≤plW R s.size→rxR R s.size=(none,plW R s.size,12))∧∀x,R=.ok x []→rxR R s.size=if chkX x=0 then(some x,(s.size:Int),0)else(none,(s.size:Int),chkX x)):=Z9 ⟨z5g,fun x e=>by rw[e];rfl⟩
 have aC:Hid (∀x n cs u,R=.ok x []→ExAt n u cs x→Below w.heap.size w u→Calls Tryz.prog 37 #[.agg cs.toArray] u (IntP u (chkX x))):=Z9 (fun x n cs u e ZB ZR=>by
  obtain⟨⟨d,h1,h2⟩,h3⟩:=T4 x [] e
  exact zvl (max n d) x cs u Wg ⟨ZB.up (by omega),h2.up (by omega),h3,⟨d,h1⟩,ZQ,YX.trans (ZR.mono YX.size)⟩)
 have bh:Hid (ts.length≤20000):=a5;clear ZS ZZ hR aL YM T4 ZQ YX a5 Yg;obtain⟨OUT,WI⟩:∃o,o=rxR R s.size:=⟨_,rfl⟩
 rw[←WI]at ac ⊢;clear WI;go_enter Tryz.func26,Tryz.ntmps26;go_wp2_with fail;refine(HL.out _).mono ?_;rintro e u ⟨v,rfl,ZG,hb⟩;obtain⟨ta,tc,rfl,UI,WE,Vb⟩:=z1f (rb:=u.heap.size) ZG rfl;obtain⟨n,hn⟩:∃n,n=ts.length:=⟨_,rfl⟩
 rw[←hn]at UI ⊢;obtain⟨rb,Zi⟩:∃rb,rb=u.heap.size:=⟨_,rfl⟩
 obtain⟨W5,Xf⟩:∃W5,W5=(u.alloc (.cells #[.slice ta n tc,.int .i64 0,.bool false] 98)).alloc zC:=⟨_,rfl⟩
 have aV:W5.heap.size=rb+1+1:=by rw[Xf,Zi];simp
 have aJ:∀g,g<u.heap.size→W5.heap[g]?=u.heap[g]?:=fun g hg=>by
  rw[Xf,Below.heap_alloc _ _ _ (by simp;omega),Below.heap_alloc _ _ _ hg]
 have XK:W5.heap[rb]?=some (.cells #[.slice ta n tc,.int .i64 0,.bool false] 98):=by
  rw[Xf,Zi,Below.heap_alloc _ _ _ (by simp)];exact heap_alloc_new _ _
 have aZ:W5.heap[rb+1]?=some zC:=by
  have:=heap_alloc_new (u.alloc (.cells #[.slice ta n tc,.int .i64 0,.bool false] 98)) zC;rw[World.size_alloc,←Zi,←Xf]at this;exact this
 have ai:TksAt W5 rb ta ts:=by
  rw[Zi];exact Vb W5 (Nat.le.refl) (by omega) (fun g _ h2=>aJ g h2)
 have aX:QAt rb ts W5 false ts:=⟨ta,tc,0,by rw[←hn];exact XK,by rw[←hn];exact UI,Nat.zero_le _,by have:=bh.out;omega,rfl,ai⟩;have aW:w.heap.size<u.heap.size:=by have:=hb.size;simp at this;omega
 have au:W5.heap[w.heap.size]?=some zC:=(aJ _ aW).trans ((hb.block _ (by simp)).trans aD.out);have aS:=Z9 (aA.out.trans (hb.mono aA.out.size));have ba:Hid (Below w.heap.size w W5):=Z9 (by rw[Xf];exact(aS.out.alloc aS.out.size _).alloc (by simp;have:=aS.out.size;omega) _);have bj:=Z9 aX;have bi:=Z9 au;have a9:=Z9 aZ;have a6:=Z9 aV;have ah:Hid (w.heap.size<rb):=Z9 (by omega);have bg:=Z9 Xf;have HN:=Z9 hn;clear hb ZG Vb aV aJ XK aZ aX aW au Xf WE hn
 go_upto_region 6 with(fail)
 change Code.wp _ _ _ _ ((u.alloc (.cells #[.slice ta n tc,.int .i64 0,.bool false] 98)).alloc zC);rw[←bg.out,←Zi];clear Zi;go_cut [68] (fun s wx=>s=.bool (trQ ts)∧wx=W5)
 case first =>
  clear HP ax ay ac aC
  cases ts with
  |nil =>
   have aY:n=0:=HN.out;subst aY;go_wp2_with fail;go_meet;exact⟨rfl,rfl⟩
  |cons t l =>
   obtain⟨g,o,rfl,Z7,_,hg,Y1,hc⟩:=ai.nth (nx:=0) rfl;have k0:=hc 0 (by omega);have k1:=hc 1 (by omega);rw[Nat.zero_mul,Nat.add_zero]at k0 k1;change W5.cell? ⟨g,o,none⟩=some (.int .u8 t.kind)at k0;change W5.cell? ⟨g,o+1,none⟩=some (.string t.text)at k1;have Zp:Hid (trQ (t :: l)=((t.kind == 1) && (((((t.text.toList == [108,101,115,115]) ||(t.text.toList == [101,113,117,97,108])) ||(t.text.toList == [97,110,100])) ||(t.text.toList == [111,114])) ||(t.text.toList == [110,111,116])))):=rfl;have hln:0<n:=by have:=HN.out;rw[List.length_cons]at this;omega
   have Wo:decide ((0:Int)<(n:Int))=true:=decide_eq_true (by omega);obtain⟨b0,YJ⟩:∃b,(t.kind == 1)=b:=⟨_,rfl⟩
   obtain⟨b1,ZL⟩:∃b,(t.text.toList == [108,101,115,115])=b:=⟨_,rfl⟩
   obtain⟨b2,ZS⟩:∃b,(t.text.toList == [101,113,117,97,108])=b:=⟨_,rfl⟩
   obtain⟨b3,Z0⟩:∃b,(t.text.toList == [97,110,100])=b:=⟨_,rfl⟩
   obtain⟨b4,TP⟩:∃b,(t.text.toList == [111,114])=b:=⟨_,rfl⟩
   obtain⟨b5,Wy⟩:∃b,(t.text.toList == [110,111,116])=b:=⟨_,rfl⟩
   rw[YJ,ZL,ZS,Z0,TP,Wy]at Zp;clear ai hc Z7
   cases b0 with
   |false =>
    go_wp2_with fail;go_meet;exact⟨by rw[Zp.out];rfl,rfl⟩
   |true =>
   cases b1 with
   |true =>
    go_wp2_with fail;go_meet;exact⟨by rw[Zp.out];rfl,rfl⟩
   |false =>
   cases b2 with
   |true =>
    go_wp2_with fail;go_meet;exact⟨by rw[Zp.out];rfl,rfl⟩
   |false =>
   cases b3 with
   |true =>
    go_wp2_with fail;go_meet;exact⟨by rw[Zp.out];rfl,rfl⟩
   |false =>
   cases b4 with
   |true =>
    go_wp2_with fail;go_meet;exact⟨by rw[Zp.out];rfl,rfl⟩
   |false =>
   cases b5 with
   |true =>
    go_wp2_with fail;go_meet;exact⟨by rw[Zp.out];rfl,rfl⟩
   |false =>
    go_wp2_with fail;go_meet;exact⟨by rw[Zp.out];rfl,rfl⟩
 case rest =>
  obtain⟨rfl,rfl⟩:=hcut;have ae:=Z9 (HP.out rb _ bj.out);clear ai UI HP;have Zy:=(Z8 a9.out)
  cases hb:trQ ts
  all_goals
   rw[hb]at ae
   first |rw[Bool.not_true,z7j]at ae |rw[Bool.not_false,z7i]at ae
   go_wp2_with fail;refine ae.out.mono ?_;rintro e u6 ⟨vv,rfl,⟨yk,ya,yb,yd,pa,pl,pc,rfl⟩,hx,hr,hg⟩;have ZT:rb+1≠rb:=by omega
   have Vf:=zao a9.out hg (by omega);have au:=zao bi.out hg (by have:=ah.out;omega);obtain⟨W6,VE⟩:∃W6,W6=(((((u6.setCell ⟨rb+1,0,none⟩ (.int .u8 yk)).setCell ⟨rb+1,1,none⟩ (.string ya)).setCell ⟨rb+1,2,none⟩ (.string yb)).setCell ⟨rb+1,3,none⟩ (.int .i64 yd)).setCell ⟨rb+1,4,none⟩ (.slice pa pl pc)):=⟨_,rfl⟩
   have aP:W6.heap[rb+1]?=some (.cells #[.int .u8 yk,.string ya,.string yb,.int .i64 yd,.slice pa pl pc] 25):=by rw[VE];exact za2 Vf _ _ _ _ _
   have aQ:W6.heap[w.heap.size]?=some zC:=by rw[VE];exact(zdr (show w.heap.size≠rb+1 by have:=ah.out;omega)).trans au
   have a1:QSt rb ts W6 R:=by rw[VE];exact((((hr.setNew (Nat.lt_succ_self rb) _ _).setNew (Nat.lt_succ_self rb) _ _).setNew (Nat.lt_succ_self rb) _ _).setNew (Nat.lt_succ_self rb) _ _).setNew (Nat.lt_succ_self rb) _ _
   have a4:Below w.heap.size w W6:=by
    have bf:=ba.out.grown hg ba.out.size (fun k e=>by injection e with e;have:=ah.out;omega);rw[VE];exact(((((bf.setCell (p:=⟨rb+1,0,none⟩) (by show w.heap.size≤rb+1;have:=ah.out;omega) _).setCell (p:=⟨rb+1,1,none⟩) (by show w.heap.size≤rb+1;have:=ah.out;omega) _).setCell (p:=⟨rb+1,2,none⟩) (by show w.heap.size≤rb+1;have:=ah.out;omega) _).setCell (p:=⟨rb+1,3,none⟩) (by show w.heap.size≤rb+1;have:=ah.out;omega) _).setCell (p:=⟨rb+1,4,none⟩) (by show w.heap.size≤rb+1;have:=ah.out;omega) _)
   have a3:∀x l,R=.ok x l→∃m,ExOn (fun g=>rb+1+1≤g∧g<W6.heap.size) m W6 [.int .u8 yk,.string ya,.string yb,.int .i64 yd,.slice pa pl pc] x:=fun x l e=>by
    obtain⟨m,X3⟩:=zir (hx x l e);refine⟨m,zdc X3 (fun g h => ?_) (fun g h=>⟨by have:=a6.out;omega,by rw[VE];simpa only [World.size_setCell]using h.2⟩)⟩;rw[VE];exact zdr (by have:=a6.out;omega)
   obtain⟨a2,cap2,nx2,b2,XK⟩:=z3e hr
   have al:W6.heap[rb]?=some (.cells #[.slice a2 ts.length cap2,.int .i64 nx2,.bool b2] 98):=by rw[VE];exact(zdr (show rb≠rb+1 by omega)).trans XK
   have ao:=Z9 (zy7 s a1 al);obtain⟨c0,c1,c2⟩:=q3 XK;obtain⟨d0,d1,d2⟩:=q3 al;obtain⟨z0,z1,z2,z3,z4⟩:=zae Vf;have fz:∀i,u6.frozen? ⟨rb+1,i,none⟩=false:=Lib.frozen_of_heap Vf
   have l6:=(Z8 Vf);have br:=Z9 aP;have bb:=Z9 aQ;have aF:=Z9 a4;have aU:=Z9 a3;have a7:=Z9 VE;obtain⟨p,hp⟩:∃p,p=plW R s.size:=⟨_,rfl⟩
   rw[←hp]at ao ax ay ac;have aI:=(Z8 aP);have av:=(Z8 aQ)
   have Wc:(∃x,R=.ok x [])∨∀x,R≠.ok x []:=by
    by_cases h:∃x,R=.ok x []
    ·exact .inl h
    ·exact .inr fun x e=>h ⟨x,e⟩
   clear hx hr hg ZT Vf au VE aP aQ a1 a4 a3 XK al hp
   rcases Wc with⟨x,TF⟩ |Xl
   ·have U5:=ax.out x TF
    subst U5;obtain⟨m,X3⟩:=aU.out x [] TF;have bk:=Z9 X3;have a8:Hid (∀u,Below w.heap.size w u→ExAt m u [.int .u8 yk,.string ya,.string yb,.int .i64 yd,.slice pa pl pc] x→Calls Tryz.prog 37 #[.agg #[.int .u8 yk,.string ya,.string yb,.int .i64 yd,.slice pa pl pc]] u (IntP u (chkX x))):=Z9 (fun u hu ZB=>aC.out x m _ u TF ZB hu);have aR:=Z9 (ac.out.2 x TF);obtain⟨K,hK⟩:∃K,K=chkX x:=⟨_,rfl⟩
    rw[←hK]at a8 aR;clear TF X3 ac ax ay aC aU hK;go_wp2_with fail;rw[←a7.out];refine ao.out.mono ?_;rintro e u7 ⟨rfl,XJ⟩;have aT:=Z9 (aF.out.trans (XJ.mono aF.out.size));have aB:=(XJ.block _ aI).trans br.out;have ak:=(XJ.block _ av).trans bb.out;have aO:ExOn (fun g=>rb+1+1≤g∧g<u7.heap.size) m u7 [.int .u8 yk,.string ya,.string yb,.int .i64 yd,.slice pa pl pc] x:=zdc bk.out (fun g h=>XJ.block g h.2) (fun g h=>⟨h.1,Nat.lt_of_lt_of_le h.2 XJ.size⟩);have bm:=Z9 (a8.out u7 aT.out (aO.at fun g h=>h.2));have bq:=Z9 aO;have bo:=Z9 aB;have bp:=Z9 ak;have l7x:=(Z8 aB);have l7r:=(Z8 ak)
    obtain⟨y0,y1,y2,y3,y4⟩:=zae aB;clear XJ aB ak aO c0 c1 c2 d0 d1 d2 z0 z1 z2 z3 z4 fz l6;go_wp2_with fail;refine bm.out.mono ?_;rintro e u8 ⟨rfl,Xq⟩;have aE:=Z9 (aT.out.trans (Xq.mono aT.out.size));have aM:=(Xq.block _ l7x).trans bo.out;have am:=(Xq.block _ l7r).trans bp.out;have aN:ExOn (fun g=>rb+1+1≤g∧g<u8.heap.size) m u8 [.int .u8 yk,.string ya,.string yb,.int .i64 yd,.slice pa pl pc] x:=zdc bq.out (fun g h=>Xq.block g h.2) (fun g h=>⟨h.1,Nat.lt_of_lt_of_le h.2 Xq.size⟩);have bn:=Z9 aN;obtain⟨t0,t1,t2,t3,t4⟩:=zae aM;obtain⟨r0,r1,r2,r3,r4⟩:=zae am;have fr:∀i,u8.frozen? ⟨w.heap.size,i,none⟩=false:=Lib.frozen_of_heap am
    have l0:=(Z8 am);have Wu:=ah.out;clear Xq y0 y1 y2 y3 y4 l7x l7r
    by_cases UN:K=0
    ·subst UN
     have ag:=za2 am (.int .u8 yk) (.string ya) (.string yb) (.int .i64 yd) (.slice pa pl pc);have an:=Z9 (zae ag);have aq:Hid (Below w.heap.size w (((((u8.setCell ⟨w.heap.size,0,none⟩ (.int .u8 yk)).setCell ⟨w.heap.size,1,none⟩ (.string ya)).setCell ⟨w.heap.size,2,none⟩ (.string yb)).setCell ⟨w.heap.size,3,none⟩ (.int .i64 yd)).setCell ⟨w.heap.size,4,none⟩ (.slice pa pl pc))):=Z9 (((((aE.out.setCell (p:=⟨w.heap.size,0,none⟩) (Nat.le.refl) _).setCell (p:=⟨w.heap.size,1,none⟩) (Nat.le.refl) _).setCell (p:=⟨w.heap.size,2,none⟩) (Nat.le.refl) _).setCell (p:=⟨w.heap.size,3,none⟩) (Nat.le.refl) _).setCell (p:=⟨w.heap.size,4,none⟩) (Nat.le.refl) _)
     have HV:Hid (VEx w.heap.size x (((((u8.setCell ⟨w.heap.size,0,none⟩ (.int .u8 yk)).setCell ⟨w.heap.size,1,none⟩ (.string ya)).setCell ⟨w.heap.size,2,none⟩ (.string yb)).setCell ⟨w.heap.size,3,none⟩ (.int .i64 yd)).setCell ⟨w.heap.size,4,none⟩ (.slice pa pl pc)) (.agg #[.int .u8 yk,.string ya,.string yb,.int .i64 yd,.slice pa pl pc])):=Z9 (zoa (n:=m) (zdc bn.out (fun g h=>zdr (show g≠w.heap.size by have:=ah.out;omega)) (fun g h=>⟨by have:=ah.out;omega,by simpa only [World.size_setCell]using h.2⟩)));clear aM am aN ag;go_wp2_with fail;obtain⟨q0,q1,q2,q3,q4⟩:=an.out;exact bodyPost_ret (v:=.tuple #[.agg #[.int .u8 yk,.string ya,.string yb,.int .i64 yd,.slice pa pl pc],.int .i64 (s.size:Int),.int .i64 0]) (by simp only[results,Tryz.results26];simp[go_sem,q0,q1,q2,q3,q4]) rfl (zux (show OUT=(some x,(s.size:Int),0)by rw[aR.out];simp) ⟨_,rfl,HV.out,aq.out⟩)
    ·have e2:(K != 0)=true:=by simp[UN]
     have ag:=za2 am (.int .u8 0) (.string ⟨#[]⟩) (.string ⟨#[]⟩) (.int .i64 0) (.slice none 0 0);have an:=Z9 (zae ag);have aq:Hid (Below w.heap.size w (((((u8.setCell ⟨w.heap.size,0,none⟩ (.int .u8 0)).setCell ⟨w.heap.size,1,none⟩ (.string ⟨#[]⟩)).setCell ⟨w.heap.size,2,none⟩ (.string ⟨#[]⟩)).setCell ⟨w.heap.size,3,none⟩ (.int .i64 0)).setCell ⟨w.heap.size,4,none⟩ (.slice none 0 0))):=Z9 (((((aE.out.setCell (p:=⟨w.heap.size,0,none⟩) (Nat.le.refl) _).setCell (p:=⟨w.heap.size,1,none⟩) (Nat.le.refl) _).setCell (p:=⟨w.heap.size,2,none⟩) (Nat.le.refl) _).setCell (p:=⟨w.heap.size,3,none⟩) (Nat.le.refl) _).setCell (p:=⟨w.heap.size,4,none⟩) (Nat.le.refl) _)
     clear aM am aN ag;go_wp2_with fail;obtain⟨q0,q1,q2,q3,q4⟩:=an.out;exact bodyPost_ret (v:=.tuple #[.agg #[.int .u8 0,.string ⟨#[]⟩,.string ⟨#[]⟩,.int .i64 0,.slice none 0 0],.int .i64 (s.size:Int),.int .i64 K]) (by simp only[results,Tryz.results26];simp[go_sem,q0,q1,q2,q3,q4]) rfl (zux (aR.out.trans (if_neg UN)) ⟨_,rfl,rfl,aq.out⟩)
   ·have Yz:=ay.out Xl
    have bl:=Z9 (ac.out.1 Yz);have hpd:decide ((0:Int)≤p)=true:=decide_eq_true Yz;clear Xl ac ax ay aC aU;go_wp2_with fail;rw[←a7.out];refine ao.out.mono ?_;rintro e u7 ⟨rfl,XJ⟩;have aE:=Z9 (aF.out.trans (XJ.mono aF.out.size));have ak:=(XJ.block _ av).trans bb.out;obtain⟨r0,r1,r2,r3,r4⟩:=zae ak;have fr:∀i,u7.frozen? ⟨w.heap.size,i,none⟩=false:=Lib.frozen_of_heap ak
    have l0:=(Z8 ak);have ag:=za2 ak (.int .u8 0) (.string ⟨#[]⟩) (.string ⟨#[]⟩) (.int .i64 0) (.slice none 0 0);have an:=Z9 (zae ag);have aq:Hid (Below w.heap.size w (((((u7.setCell ⟨w.heap.size,0,none⟩ (.int .u8 0)).setCell ⟨w.heap.size,1,none⟩ (.string ⟨#[]⟩)).setCell ⟨w.heap.size,2,none⟩ (.string ⟨#[]⟩)).setCell ⟨w.heap.size,3,none⟩ (.int .i64 0)).setCell ⟨w.heap.size,4,none⟩ (.slice none 0 0))):=Z9 (((((aE.out.setCell (p:=⟨w.heap.size,0,none⟩) (Nat.le.refl) _).setCell (p:=⟨w.heap.size,1,none⟩) (Nat.le.refl) _).setCell (p:=⟨w.heap.size,2,none⟩) (Nat.le.refl) _).setCell (p:=⟨w.heap.size,3,none⟩) (Nat.le.refl) _).setCell (p:=⟨w.heap.size,4,none⟩) (Nat.le.refl) _)
    clear XJ ak ag c0 c1 c2 d0 d1 d2 z0 z1 z2 z3 z4 fz l6;go_wp2_with fail;obtain⟨q0,q1,q2,q3,q4⟩:=an.out;exact bodyPost_ret (v:=.tuple #[.agg #[.int .u8 0,.string ⟨#[]⟩,.string ⟨#[]⟩,.int .i64 0,.slice none 0 0],.int .i64 p,.int .i64 12]) (by simp only[results,Tryz.results26];simp[go_sem,q0,q1,q2,q3,q4]) rfl (zux bl.out ⟨_,rfl,rfl,aq.out⟩)
theorem zr9(s:ByteArray)(w Wg:World)(hs:s.size≤1000000)(ZQ:zhp Wg)(YX:Below Wg.heap.size Wg w):Calls Tryz.prog 26 #[.string s] w (RxP w (zk7 s)):=by
 unfold zk7
 rcases Nat.lt_or_ge 20000 s.size with h |h
 ·rw[if_pos h]
  exact zmp (i:=0) (by decide) (Z9 fun W=>zu9 s W h)
 ·rw[if_neg (by omega)]
  cases hl:lexL 0 s.data.toList with
  |no i er =>
   have e:zk6 s=(none,(i:Int),er):=by unfold zk6;rw[hl]
   rw[e];refine zmp (zpl hl) (Z9 fun W=>(zqt s W h).mono ?_);rintro e w' (⟨i2,er2,h,rfl,hb⟩ |⟨ts,v,h,_⟩)
   ·rw[hl]at h;injection h with h1 h2;subst h1 h2;exact⟨rfl,hb⟩
   ·rw[hl]at h;cases h
  |yes ts =>
   rw[zuy hl];have Z5:=zpk hl;rw[zab]at Z5;have Xo:=zne _ 0 _ (Nat.le.refl) hl;refine zr8 (by omega) (zwg _ 0 _ (Nat.le.refl) hl) (fun x l e=>by have:=zmc 20001 ts Xo x l e;exact⟨this.1,by have:=this.2;omega⟩) ZQ YX (Z9 fun W=>(zqt s W h).mono ?_);rintro e w' (⟨i2,er2,h,_⟩ |⟨ts2,v,h,rfl,ho,hb⟩)
   ·rw[hl]at h;cases h
   ·rw[hl]at h;injection h with h;subst h;exact⟨v,rfl,ho,hb⟩
end Go.Proofs.YtkobkpepgdddeaaGreatDoor
