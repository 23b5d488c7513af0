/-
  The program's Check of rationals. No condition.
-/
import Derived.Test.YtkobkpepgdddeaaGreatDoorZae
import Derived.Test.YtkobkpepgdddeaaGreatDoorZaf
import Derived.RegionTactic
import Derived.Test.YtkobkpepgdddeaaGreatDoorZaa
import Derived.Deep.RegionLaw
import Derived.Deep.AppendLies
namespace Go.Proofs.YtkobkpepgdddeaaGreatDoor
open Go.RowKit Go.Shelf
set_option maxHeartbeats 16000000
set_option maxRecDepth 100000
theorem zwq(l:List UInt8):(Lib.indexByte l 47 = -1∧slN l=l.length)∨(Lib.indexByte l 47=(slN l:Int)∧slN l<l.length):=by
 have h0:=Lib.indexByte_ge l 47
 by_cases h:Lib.indexByte l 47 = -1
 ·exact .inl ⟨h,zqn fun j _=>Lib.indexByte_none h j⟩
 ·right
  obtain⟨o,ho⟩:∃o:Nat,Lib.indexByte l 47=o:=⟨(Lib.indexByte l 47).toNat,by omega⟩
  obtain⟨h1,h2⟩:=Lib.indexByte_some ho
  have hl:o<l.length:=by
   rcases Nat.lt_or_ge o l.length with h |h
   ·exact h
   ·rw[List.getElem?_eq_none h]at h1;cases h1
  have:=z1k hl h2 h1;rw[this];exact⟨ho,hl⟩
def zb1(w:World)(n d:ByteArray)(b:Bool)(e:Ending)(w':World):Prop:=e=.returned (.tuple #[.string n,.string d,.bool b])∧Below w.heap.size w w'
theorem zuu(s:ByteArray)(w:World)(h:slN s.data.toList=s.data.toList.length) :
 Calls Tryz.prog 244 #[.string s,.string ⟨#[47]⟩] w (zb1 w s ByteArray.empty false):=by
 have hi:=Tryz.stringslite_Index_one s 47 w
 rcases zwq s.data.toList with⟨e,_⟩ |⟨_,e⟩
 ·rw[e]at hi
  have HI:=Z9 hi;clear hi e h;go_enter Tryz.func244,Tryz.ntmps244;go_wp2_with fail;refine HI.out.mono ?_;rintro e w' ⟨rfl,rfl⟩;go_wp2_with fail;go_ret3;exact⟨rfl,Below.refl _ _⟩
 ·omega
theorem z2o(s:ByteArray)(k:Nat)(w:World)(hs:s.size≤1000000)(h:slN s.data.toList=k)(hk:k<s.size) :
 Calls Tryz.prog 244 #[.string s,.string ⟨#[47]⟩] w (zb1 w (s.extract 0 k) (s.extract (k+1) s.size) true):=by
 have hi:=Tryz.stringslite_Index_one s 47 w
 rcases zwq s.data.toList with⟨_,e⟩ |⟨e,_⟩
 ·rw[zab]at e;omega
 ·rw[e,h]at hi
  have HI:=Z9 hi;clear hi e h;go_enter Tryz.func244,Tryz.ntmps244;go_wp2_with fail;refine HI.out.mono ?_;rintro e w' ⟨rfl,rfl⟩;go_wp2_with fail;go_region
  all_goals
   go_wp2_with fail;go_ret3;exact⟨rfl,(Below.refl _ _).drew⟩
theorem z15(s n d:ByteArray)(b:Bool)(w:World)(h:Calls Tryz.prog 244 #[.string s,.string ⟨#[47]⟩] w (zb1 w n d b)) :
 Calls Tryz.prog 225 #[.string s,.string ⟨#[47]⟩] w (zb1 w n d b):=by
 have HC:=Z9 h;clear h;go_enter Tryz.func225,Tryz.ntmps225;go_wp2_with fail;refine HC.out.mono ?_;rintro e w' ⟨rfl,b1⟩;have B1:=Z9 b1;clear b1;go_wp2_with fail;go_ret3;exact⟨rfl,B1.out⟩
theorem zqm(s n d:ByteArray)(b:Bool)(w:World)(h:Calls Tryz.prog 225 #[.string s,.string ⟨#[47]⟩] w (zb1 w n d b)) :
 Calls Tryz.prog 202 #[.string s] w (zb1 w n d b):=by
 have HC:=Z9 h;clear h;go_enter Tryz.func202,Tryz.ntmps202;go_wp2_with fail;refine HC.out.mono ?_;rintro e w' ⟨rfl,b1⟩;have B1:=Z9 b1;clear b1;go_wp2_with fail;go_ret3;exact⟨rfl,B1.out⟩
def frmZ(l:List UInt8):Int:=if chkZ l=12 then 12 else 0
theorem zks(l:List UInt8):chkZ l=0∨chkZ l=12∨chkZ l=14:=by
 rcases zct l with⟨h,_⟩ |⟨z,_,_,h⟩
 ·exact .inr (.inl h)
 ·rw[h];split
  ·exact .inr (.inr rfl)
  ·exact .inl rfl
theorem zzz(s:ByteArray)(w:World)(hs:s.size≤1000000) :
 Calls Tryz.prog 203 #[.string s] w fun e w'=>e=.returned (.int .i64 (frmZ s.data.toList))∧w=w':=by
 have hc:=zgd s w hs;unfold frmZ
 rcases zks s.data.toList with h |h |h<;>rw[h]at hc ⊢ <;> have HC:=Z9 hc<;>clear hc h
 all_goals
  go_enter Tryz.func203,Tryz.ntmps203;go_wp2_with fail;refine HC.out.mono ?_;rintro e w' ⟨rfl,rfl⟩;go_wp2_with fail;go_ret;exact⟨rfl,rfl⟩
theorem qc_n(s n d:ByteArray)(b:Bool)(FN:Hid (∀W,Calls Tryz.prog 203 #[.string n] W fun e w'=>e=.returned (.int .i64 12)∧W=w'))(w:World)
 (HW:Hid (Calls Tryz.prog 202 #[.string s] w (zb1 w n d b))) :
 Calls Tryz.prog 178 #[.string s] w (za6 w 12):=by
 go_enter Tryz.func178,Tryz.ntmps178;go_wp2_with fail;refine HW.out.mono ?_;rintro e w1 ⟨rfl,b1⟩;have B:=Z9 b1;clear b1;go_wp2_with fail;refine(FN.out _).mono ?_;rintro e w' ⟨rfl,rfl⟩;go_wp2_with fail;go_ret;exact⟨rfl,B.out⟩
theorem z5r(s n d:ByteArray)(FN:Hid (∀W,Calls Tryz.prog 203 #[.string n] W fun e w'=>e=.returned (.int .i64 0)∧W=w'))(CN:Hid (∀W,Calls Tryz.prog 204 #[.string n] W fun e w'=>e=.returned (.int .i64 14)∧W=w'))(w:World)
 (HW:Hid (Calls Tryz.prog 202 #[.string s] w (zb1 w n d false))) :
 Calls Tryz.prog 178 #[.string s] w (za6 w 14):=by
 go_enter Tryz.func178,Tryz.ntmps178;go_wp2_with fail;refine HW.out.mono ?_;rintro e w1 ⟨rfl,b1⟩;have B:=Z9 b1;clear b1;go_wp2_with fail;refine(FN.out _).mono ?_;rintro e w' ⟨rfl,rfl⟩;go_wp2_with fail;refine(CN.out _).mono ?_;rintro e w' ⟨rfl,rfl⟩;go_wp2_with fail;go_ret;exact⟨rfl,B.out⟩
theorem z65(s n d:ByteArray)(FN:Hid (∀W,Calls Tryz.prog 203 #[.string n] W fun e w'=>e=.returned (.int .i64 0)∧W=w'))(CN:Hid (∀W,Calls Tryz.prog 204 #[.string n] W fun e w'=>e=.returned (.int .i64 0)∧W=w'))(w:World)
 (HW:Hid (Calls Tryz.prog 202 #[.string s] w (zb1 w n d false))) :
 Calls Tryz.prog 178 #[.string s] w (za6 w 0):=by
 go_enter Tryz.func178,Tryz.ntmps178;go_wp2_with fail;refine HW.out.mono ?_;rintro e w1 ⟨rfl,b1⟩;have B:=Z9 b1;clear b1;go_wp2_with fail;refine(FN.out _).mono ?_;rintro e w' ⟨rfl,rfl⟩;go_wp2_with fail;refine(CN.out _).mono ?_;rintro e w' ⟨rfl,rfl⟩;go_wp2_with fail;go_ret;exact⟨rfl,B.out⟩
theorem qc_d(s n d:ByteArray)(FN:Hid (∀W,Calls Tryz.prog 203 #[.string n] W fun e w'=>e=.returned (.int .i64 0)∧W=w'))(FD:Hid (∀W,Calls Tryz.prog 203 #[.string d] W fun e w'=>e=.returned (.int .i64 12)∧W=w'))(w:World)
 (HW:Hid (Calls Tryz.prog 202 #[.string s] w (zb1 w n d true))) :
 Calls Tryz.prog 178 #[.string s] w (za6 w 12):=by
 go_enter Tryz.func178,Tryz.ntmps178;go_wp2_with fail;refine HW.out.mono ?_;rintro e w1 ⟨rfl,b1⟩;have B:=Z9 b1;clear b1;go_wp2_with fail;refine(FN.out _).mono ?_;rintro e w' ⟨rfl,rfl⟩;go_wp2_with fail;refine(FD.out _).mono ?_;rintro e w' ⟨rfl,rfl⟩;go_wp2_with fail;go_ret;exact⟨rfl,B.out⟩
theorem qc_m(s n d:ByteArray)(FN:Hid (∀W,Calls Tryz.prog 203 #[.string n] W fun e w'=>e=.returned (.int .i64 0)∧W=w'))(FD:Hid (∀W,Calls Tryz.prog 203 #[.string d] W fun e w'=>e=.returned (.int .i64 0)∧W=w'))(h0:0<d.size)(hm:((d[0].toNat:Int) == 45)=true)(w:World)
 (HW:Hid (Calls Tryz.prog 202 #[.string s] w (zb1 w n d true))) :
 Calls Tryz.prog 178 #[.string s] w (za6 w 12):=by
 go_enter Tryz.func178,Tryz.ntmps178;go_wp2_with fail;refine HW.out.mono ?_;rintro e w1 ⟨rfl,b1⟩;have B:=Z9 b1;clear b1;go_wp2_with fail;refine(FN.out _).mono ?_;rintro e w' ⟨rfl,rfl⟩;go_wp2_with fail;refine(FD.out _).mono ?_;rintro e w' ⟨rfl,rfl⟩;go_wp2_with fail;go_ret;exact⟨rfl,B.out⟩
theorem qc_0(s n d:ByteArray)(FN:Hid (∀W,Calls Tryz.prog 203 #[.string n] W fun e w'=>e=.returned (.int .i64 0)∧W=w'))(FD:Hid (∀W,Calls Tryz.prog 203 #[.string d] W fun e w'=>e=.returned (.int .i64 0)∧W=w'))(h0:0<d.size)(hm:((d[0].toNat:Int) == 45)=false)(d0:(d.toList == [48])=true)(w:World)
 (HW:Hid (Calls Tryz.prog 202 #[.string s] w (zb1 w n d true))) :
 Calls Tryz.prog 178 #[.string s] w (za6 w 12):=by
 go_enter Tryz.func178,Tryz.ntmps178;go_wp2_with fail;refine HW.out.mono ?_;rintro e w1 ⟨rfl,b1⟩;have B:=Z9 b1;clear b1;go_wp2_with fail;refine(FN.out _).mono ?_;rintro e w' ⟨rfl,rfl⟩;go_wp2_with fail;refine(FD.out _).mono ?_;rintro e w' ⟨rfl,rfl⟩;go_wp2_with fail;go_ret;exact⟨rfl,B.out⟩
theorem qc_1(s n d:ByteArray)(FN:Hid (∀W,Calls Tryz.prog 203 #[.string n] W fun e w'=>e=.returned (.int .i64 0)∧W=w'))(FD:Hid (∀W,Calls Tryz.prog 203 #[.string d] W fun e w'=>e=.returned (.int .i64 0)∧W=w'))(h0:0<d.size)(hm:((d[0].toNat:Int) == 45)=false)(d0:(d.toList == [48])=false)(d1:(d.toList == [49])=true)(w:World)
 (HW:Hid (Calls Tryz.prog 202 #[.string s] w (zb1 w n d true))) :
 Calls Tryz.prog 178 #[.string s] w (za6 w 12):=by
 go_enter Tryz.func178,Tryz.ntmps178;go_wp2_with fail;refine HW.out.mono ?_;rintro e w1 ⟨rfl,b1⟩;have B:=Z9 b1;clear b1;go_wp2_with fail;refine(FN.out _).mono ?_;rintro e w' ⟨rfl,rfl⟩;go_wp2_with fail;refine(FD.out _).mono ?_;rintro e w' ⟨rfl,rfl⟩;go_wp2_with fail;go_ret;exact⟨rfl,B.out⟩
theorem z67(s n d:ByteArray)(FN:Hid (∀W,Calls Tryz.prog 203 #[.string n] W fun e w'=>e=.returned (.int .i64 0)∧W=w'))(FD:Hid (∀W,Calls Tryz.prog 203 #[.string d] W fun e w'=>e=.returned (.int .i64 0)∧W=w'))(h0:0<d.size)(hm:((d[0].toNat:Int) == 45)=false)(d0:(d.toList == [48])=false)(d1:(d.toList == [49])=false)(CN:Hid (∀W,Calls Tryz.prog 204 #[.string n] W fun e w'=>e=.returned (.int .i64 14)∧W=w'))(w:World)
 (HW:Hid (Calls Tryz.prog 202 #[.string s] w (zb1 w n d true))) :
 Calls Tryz.prog 178 #[.string s] w (za6 w 14):=by
 go_enter Tryz.func178,Tryz.ntmps178;go_wp2_with fail;refine HW.out.mono ?_;rintro e w1 ⟨rfl,b1⟩;have B:=Z9 b1;clear b1;go_wp2_with fail;refine(FN.out _).mono ?_;rintro e w' ⟨rfl,rfl⟩;go_wp2_with fail;refine(FD.out _).mono ?_;rintro e w' ⟨rfl,rfl⟩;go_wp2_with fail;refine(CN.out _).mono ?_;rintro e w' ⟨rfl,rfl⟩;go_wp2_with fail;go_ret;exact⟨rfl,B.out⟩
theorem z66(s n d:ByteArray)(FN:Hid (∀W,Calls Tryz.prog 203 #[.string n] W fun e w'=>e=.returned (.int .i64 0)∧W=w'))(FD:Hid (∀W,Calls Tryz.prog 203 #[.string d] W fun e w'=>e=.returned (.int .i64 0)∧W=w'))(h0:0<d.size)(hm:((d[0].toNat:Int) == 45)=false)(d0:(d.toList == [48])=false)(d1:(d.toList == [49])=false)(CN:Hid (∀W,Calls Tryz.prog 204 #[.string n] W fun e w'=>e=.returned (.int .i64 0)∧W=w'))(CD:Hid (∀W,Calls Tryz.prog 204 #[.string d] W fun e w'=>e=.returned (.int .i64 14)∧W=w'))(w:World)
 (HW:Hid (Calls Tryz.prog 202 #[.string s] w (zb1 w n d true))) :
 Calls Tryz.prog 178 #[.string s] w (za6 w 14):=by
 go_enter Tryz.func178,Tryz.ntmps178;go_wp2_with fail;refine HW.out.mono ?_;rintro e w1 ⟨rfl,b1⟩;have B:=Z9 b1;clear b1;go_wp2_with fail;refine(FN.out _).mono ?_;rintro e w' ⟨rfl,rfl⟩;go_wp2_with fail;refine(FD.out _).mono ?_;rintro e w' ⟨rfl,rfl⟩;go_wp2_with fail;refine(CN.out _).mono ?_;rintro e w' ⟨rfl,rfl⟩;go_wp2_with fail;refine(CD.out _).mono ?_;rintro e w' ⟨rfl,rfl⟩;go_wp2_with fail;go_ret;exact⟨rfl,B.out⟩
theorem z5s(s n d:ByteArray)(FN:Hid (∀W,Calls Tryz.prog 203 #[.string n] W fun e w'=>e=.returned (.int .i64 0)∧W=w'))(FD:Hid (∀W,Calls Tryz.prog 203 #[.string d] W fun e w'=>e=.returned (.int .i64 0)∧W=w'))(h0:0<d.size)(hm:((d[0].toNat:Int) == 45)=false)(d0:(d.toList == [48])=false)(d1:(d.toList == [49])=false)(CN:Hid (∀W,Calls Tryz.prog 204 #[.string n] W fun e w'=>e=.returned (.int .i64 0)∧W=w'))(CD:Hid (∀W,Calls Tryz.prog 204 #[.string d] W fun e w'=>e=.returned (.int .i64 0)∧W=w'))(g:ByteArray)(HG:Hid (∀W,Calls Tryz.prog 205 #[.string n,.string d] W (zh4 W g)))(hg:(g.toList == [49])=false)(w:World)
 (HW:Hid (Calls Tryz.prog 202 #[.string s] w (zb1 w n d true))) :
 Calls Tryz.prog 178 #[.string s] w (za6 w 12):=by
 go_enter Tryz.func178,Tryz.ntmps178;go_wp2_with fail;refine HW.out.mono ?_;rintro e w1 ⟨rfl,b1⟩;have B:=Z9 b1;clear b1;go_wp2_with fail;refine(FN.out _).mono ?_;rintro e w' ⟨rfl,rfl⟩;go_wp2_with fail;refine(FD.out _).mono ?_;rintro e w' ⟨rfl,rfl⟩;go_wp2_with fail;refine(CN.out _).mono ?_;rintro e w' ⟨rfl,rfl⟩;go_wp2_with fail;refine(CD.out _).mono ?_;rintro e w' ⟨rfl,rfl⟩;go_wp2_with fail;refine(HG.out _).mono ?_;rintro e w4 ⟨rfl,b4⟩;have B4:=Z9 (B.out.trans (b4.mono B.out.size));clear b4;go_wp2_with fail;go_ret;exact⟨rfl,B4.out⟩
theorem z3c(s n d:ByteArray)(FN:Hid (∀W,Calls Tryz.prog 203 #[.string n] W fun e w'=>e=.returned (.int .i64 0)∧W=w'))(FD:Hid (∀W,Calls Tryz.prog 203 #[.string d] W fun e w'=>e=.returned (.int .i64 0)∧W=w'))(h0:0<d.size)(hm:((d[0].toNat:Int) == 45)=false)(d0:(d.toList == [48])=false)(d1:(d.toList == [49])=false)(CN:Hid (∀W,Calls Tryz.prog 204 #[.string n] W fun e w'=>e=.returned (.int .i64 0)∧W=w'))(CD:Hid (∀W,Calls Tryz.prog 204 #[.string d] W fun e w'=>e=.returned (.int .i64 0)∧W=w'))(g:ByteArray)(HG:Hid (∀W,Calls Tryz.prog 205 #[.string n,.string d] W (zh4 W g)))(hg:(g.toList == [49])=true)(w:World)
 (HW:Hid (Calls Tryz.prog 202 #[.string s] w (zb1 w n d true))) :
 Calls Tryz.prog 178 #[.string s] w (za6 w 0):=by
 go_enter Tryz.func178,Tryz.ntmps178;go_wp2_with fail;refine HW.out.mono ?_;rintro e w1 ⟨rfl,b1⟩;have B:=Z9 b1;clear b1;go_wp2_with fail;refine(FN.out _).mono ?_;rintro e w' ⟨rfl,rfl⟩;go_wp2_with fail;refine(FD.out _).mono ?_;rintro e w' ⟨rfl,rfl⟩;go_wp2_with fail;refine(CN.out _).mono ?_;rintro e w' ⟨rfl,rfl⟩;go_wp2_with fail;refine(CD.out _).mono ?_;rintro e w' ⟨rfl,rfl⟩;go_wp2_with fail;refine(HG.out _).mono ?_;rintro e w4 ⟨rfl,b4⟩;have B4:=Z9 (B.out.trans (b4.mono B.out.size));clear b4;go_wp2_with fail;go_ret;exact⟨rfl,B4.out⟩
theorem zgn(s:ByteArray)(n:Int)(h:frmZ s.data.toList=n)(hs:s.size≤1000000) :
 ∀W,Calls Tryz.prog 203 #[.string s] W fun e w'=>e=.returned (.int .i64 n)∧W=w':=fun W=>by
 have:=zzz s W hs
 rwa [h]at this
theorem zge(s:ByteArray)(n:Int)(h:chkZ s.data.toList=n)(hs:s.size≤1000000) :
 ∀W,Calls Tryz.prog 204 #[.string s] W fun e w'=>e=.returned (.int .i64 n)∧W=w':=fun W=>by
 have:=zgd s W hs
 rwa [h]at this
theorem zpt{l:List UInt8}(h:chkZ l=12):frmZ l=12:=by unfold frmZ;rw[if_pos h]
theorem zrh{l:List UInt8}(h:chkZ l≠12):frmZ l=0:=by unfold frmZ;rw[if_neg h]
theorem zy3(s:ByteArray)(w:World)(hs:s.size≤100000)(h:slN s.data.toList=s.data.toList.length) :
 Calls Tryz.prog 178 #[.string s] w (za6 w (chkR s.data.toList)):=by
 have HW:Hid (Calls Tryz.prog 202 #[.string s] w (zb1 w s ByteArray.empty false)):=zqm _ _ _ _ w (z15 _ _ _ _ w (zuu s w h));rw[zro h]
 rcases zks s.data.toList with e |e |e<;>rw[e]
 ·exact z65 s s _ (zgn s 0 (zrh (by omega)) (by omega)) (zge s 0 e (by omega)) w HW
 ·exact qc_n s s _ _ (zgn s 12 (zpt e) (by omega)) w HW
 ·exact z5r s s _ (zgn s 0 (zrh (by omega)) (by omega)) (zge s 14 e (by omega)) w HW
theorem zvm(s:ByteArray)(k:Nat)(w:World)(hs:s.size≤100000)(h:slN s.data.toList=k)(hk:k<s.size) :
 Calls Tryz.prog 178 #[.string s] w (za6 w (chkR s.data.toList)):=by
 rw[zn6 h (by rw[zab];exact hk)];have HW0:Calls Tryz.prog 202 #[.string s] w (zb1 w (s.extract 0 k) (s.extract (k+1) s.size) true):=zqm _ _ _ _ w (z15 _ _ _ _ w (z2o s k w (by omega) h hk));obtain⟨n,hn⟩:∃n,n=s.extract 0 k:=⟨_,rfl⟩
 obtain⟨d,hd⟩:∃d,d=s.extract (k+1) s.size:=⟨_,rfl⟩
 rw[←hn,←hd]at HW0;have en:s.data.toList.take k=n.data.toList:=by rw[hn,Lib.extract_data];simp
 have ed:s.data.toList.drop (k+1)=d.data.toList:=by rw[hd,Lib.extract_to_end]
 rw[en,ed];have sn:n.size≤100000:=by rw[hn];simp;omega
 have sd:d.size≤100000:=by rw[hd];simp;omega
 have HW:=Z9 HW0;clear HW0 hn hd en ed h hk
 by_cases n12:chkZ n.data.toList=12
 ·rw[zei (.inl n12)]
  exact qc_n s n d _ (zgn n 12 (zpt n12) (by omega)) w HW
 have FN:=Z9 (zgn n 0 (zrh n12) (by omega))
 by_cases d12:chkZ d.data.toList=12
 ·rw[zei (.inr (.inl d12))]
  exact qc_d s n d FN (zgn d 12 (zpt d12) (by omega)) w HW
 have FD:=Z9 (zgn d 0 (zrh d12) (by omega))
 have h0:0<d.size:=by
  rcases Nat.eq_zero_or_pos d.size with e |e
  ·refine absurd ?_ d12
   have:d.data.toList=[]:=List.eq_nil_of_length_eq_zero (by rw[zab];exact e);rw[this]
   rcases zct []with h |⟨z,_,h,_⟩
   ·exact h.1
   ·unfold txtZ at h
    split at h
    ·cases h
    ·exact absurd h.symm (zhd _)
  ·exact e
 cases hm:((d[0].toNat:Int) == 45)with
 |true =>
  rw[zei (.inr (.inr (.inl (zgm h0 (n:=45) (by omega) hm))))];exact qc_m s n d FN FD h0 hm w HW
 |false =>
  have hm':=ze2 h0 (n:=45) (by omega) hm
  cases d0:(d.toList == [48])with
  |true =>
   rw[zei (.inr (.inr (.inr (.inl (by rw[zac]at d0;simpa using d0)))))];exact qc_0 s n d FN FD h0 hm d0 w HW
  |false =>
   cases d1:(d.toList == [49])with
   |true =>
    rw[zei (.inr (.inr (.inr (.inr (by rw[zac]at d1;simpa using d1)))))];exact qc_1 s n d FN FD h0 hm d0 d1 w HW
   |false =>
    have d0':d.data.toList≠[48]:=by rw[zac]at d0;simpa using d0
    have d1':d.data.toList≠[49]:=by rw[zac]at d1;simpa using d1
    rcases zct n.data.toList with⟨e,_⟩ |⟨x,_,n2,n3⟩
    ·exact absurd e n12
    rcases zct d.data.toList with⟨e,_⟩ |⟨y,_,d2,d3⟩
    ·exact absurd e d12
    have ef:chkF n.data.toList d.data.toList=if bigZ x=true∨bigZ y=true then 14 else if Nat.gcd x.natAbs y.natAbs=1 then 0 else 12:=by
     rw[n2,d2];exact zn9 x y (by rw[d2]at hm';have:=mt (zfg y).2 hm';omega) (by rw[←d2];exact d0') (by rw[←d2];exact d1')
    rw[ef]
    cases bx:bigZ x with
    |true =>
     rw[bx,if_pos rfl]at n3;rw[if_pos (.inl rfl)];exact z67 s n d FN FD h0 hm d0 d1 (zge n 14 n3 (by omega)) w HW
    |false =>
     rw[bx,if_neg (by simp)]at n3;have CN:=Z9 (zge n 0 n3 (by omega))
     cases bb:bigZ y with
     |true =>
      rw[bb,if_pos rfl]at d3;rw[if_pos (.inr rfl)];exact z66 s n d FN FD h0 hm d0 d1 CN (zge d 14 d3 (by omega)) w HW
     |false =>
      rw[bb,if_neg (by simp)]at d3;have CD:=Z9 (zge d 0 d3 (by omega));rw[if_neg (by simp)]
      have HG:Hid (∀W,Calls Tryz.prog 205 #[.string n,.string d] W (zh4 W ⟨(txtZ (Nat.gcd x.natAbs y.natAbs:Int)).toArray⟩)):=fun W=>zrg n d x y W sn sd n2 d2 bx bb
      by_cases hg:Nat.gcd x.natAbs y.natAbs=1
      ·rw[if_pos hg]
       exact z3c s n d FN FD h0 hm d0 d1 CN CD _ HG (by rw[zac,hg];show((txtZ ((1:Nat):Int)) == [49])=true;rw[(zh6 1).2 rfl];rfl) w HW
      ·rw[if_neg hg]
       exact z5s s n d FN FD h0 hm d0 d1 CN CD _ HG (by rw[zac];exact list_beq.2 (fun h=>hg ((zh6 _).1 h))) w HW
theorem zy4(s:ByteArray)(w:World)(hs:s.size≤100000) :
 Calls Tryz.prog 178 #[.string s] w (za6 w (chkR s.data.toList)):=by
 by_cases h:slN s.data.toList<s.size
 ·exact zvm s _ w hs rfl h
 ·exact zy3 s w hs (by have:=z1j s.data.toList;rw[zab]at this ⊢;omega)
def zfp(y:Nat):Bool:=decide (y % 4=0∧(y % 100≠0∨y % 400=0))
def zcu(y m:Nat):Nat:=if m=4∨m=6∨m=9∨m=11 then 30 else if m=2 then(if zfp y=true then 29 else 28)else 31
theorem zd8(y m:Nat):zcu y m≤31:=by unfold zcu;split<;>(try split)<;>(try split)<;>omega
def zfd(y:Nat):Nat:=y / 4-y / 100+y / 400
def yd(y:Nat):Nat:=365*(y-1900)+(zfd (y-1)-460)
theorem zkk(y:Nat):zfd (y+1)=zfd y+if zfp (y+1)=true then 1 else 0:=by
 unfold zfd zfp;simp only[decide_eq_true_eq]
 split<;>omega
theorem zrb{y:Nat}(_h:1899≤y):460≤zfd y:=by
 induction y with
 |zero=>omega
 |succ y ih =>
  rcases Nat.lt_or_ge y 1899 with h' |h'
  ·have:y=1898:=by omega
   subst this;decide
  ·have:=ih h';have:=zkk y;omega
theorem zxx:yd 1900=0:=by decide
theorem zoj{y:Nat}(h:1900≤y):yd (y+1)=yd y+365+if zfp y=true then 1 else 0:=by
 obtain⟨k,rfl⟩:∃k,y=k+1:=⟨y-1,by omega⟩
 have:=zrb (y:=k) (by omega);unfold yd;simp only[Nat.add_sub_cancel];rw[zkk k]
 split<;>omega
theorem z6x{y:Nat}(_h:1900≤y):365*(y-1900)≤yd y:=by unfold yd;omega
theorem zky{a b:Nat}(h:1900≤a)(S3:a≤b):yd a≤yd b:=by
 induction b with
 |zero=>omega
 |succ b ih =>
  rcases Nat.lt_or_ge b a with h' |h'
  ·have:a=b+1:=by omega
   subst this;exact Nat.le_refl _
  ·have:=ih h';have:=zoj (y:=b) (by omega);omega
def mdR(y:Nat):Nat→Nat
 |0=>0
 |m+1=>mdR y m+zcu y (m+1)
theorem zif(y:Nat){a b:Nat}(h:a≤b):mdR y a≤mdR y b:=by
 induction b with
 |zero =>
  have:a=0:=by omega
  subst this;exact Nat.le_refl _
 |succ b ih =>
  rcases Nat.lt_or_ge b a with h' |h'
  ·have:a=b+1:=by omega
   subst this;exact Nat.le_refl _
  ·have:=ih h';show _≤mdR y b+_;omega
theorem zq9(y:Nat):mdR y 12=365+if zfp y=true then 1 else 0:=by
 have e:∀m,zcu y m=if m=4∨m=6∨m=9∨m=11 then 30 else if m=2 then(if zfp y=true then 29 else 28)else 31:=fun m=>rfl
 simp only[mdR];simp only[e]
 cases zfp y<;>simp
theorem z2b{y:Nat}(h:1900≤y):yd (y+1)=yd y+mdR y 12:=by rw[zoj h,zq9];omega
def DateIs(day y m d:Nat):Prop:=1900≤y∧1≤m∧m≤12∧1≤d∧d≤zcu y m∧yd y+mdR y (m-1)+d=day+1
theorem DateIs.lt{day y m d:Nat}(h:DateIs day y m d):yd y≤day∧day<yd (y+1):=by
 obtain⟨h1,h2,h3,h4,h5,h6⟩:=h;obtain⟨k,rfl⟩:∃k,m=k+1:=⟨m-1,by omega⟩
 have a:=zif y (a:=k+1) (b:=12) h3;rw[z2b h1];simp only[Nat.add_sub_cancel]at h6;change mdR y k+zcu y (k+1)≤_ at a;omega
theorem DateIs.small{day y m d:Nat}(h:DateIs day y m d)(hd:day≤99999):y≤2174∧d≤31:=by
 have a:=z6x h.1;have b:=h.lt;have c:=zd8 y m;have e:=h.2.2.2.2.1;omega
def figB(n:Nat):Nat→List UInt8
 |0=>[]
 |k+1=>figB (n / 10) k ++ [UInt8.ofNat (48+n % 10)]
theorem zrj(n k:Nat):(figB n k).length=k:=by
 induction k generalizing n with
 |zero=>rfl
 |succ k ih=>simp[figB,ih]
def zdu(y m d:Nat):List UInt8:=figB y 4 ++ [45] ++ figB m 2 ++ [45] ++ figB d 2
theorem zxa(y m d:Nat):(zdu y m d).length=10:=by simp[zdu,zrj]
def letB(c:UInt8):Bool:=decide ((97≤c.toNat∧c.toNat≤122)∨(65≤c.toNat∧c.toNat≤90))
def othB(c:UInt8):Bool:=decide ((48≤c.toNat∧c.toNat≤57)∨c.toNat=95∨c.toNat=45)
def nmB(l:List UInt8):Bool:=decide (1≤l.length∧l.length≤40) && (match l.head? with |some c=>letB c |none=>false) && l.all fun c=>letB c ||othB c
theorem zlk{l:List UInt8}(h:l.length<1∨40<l.length):nmB l=false:=by
 unfold nmB;rw[show decide (1≤l.length∧l.length≤40)=false by simp;omega];rfl
theorem zq8{l:List UInt8}{c:UInt8}(h:l.head?=some c)(hc:letB c=false):nmB l=false:=by
 unfold nmB;rw[h];simp[hc]
theorem zv5{l:List UInt8}{c:UInt8}(h:c ∈ l)(h1:letB c=false)(h2:othB c=false):nmB l=false:=by
 unfold nmB
 have:(l.all fun c=>letB c ||othB c)=false:=by
  rw[List.all_eq_false];exact⟨c,h,by simp[h1,h2]⟩
 rw[this];simp
theorem zv4{l:List UInt8}{c:UInt8}(h1:1≤l.length)(h2:l.length≤40)(h:l.head?=some c)(hc:letB c=true)(ha:∀x ∈ l,(letB x ||othB x)=true):nmB l=true:=by
 unfold nmB;rw[h];simp only[hc,Bool.and_true,Bool.and_eq_true,decide_eq_true_eq,List.all_eq_true];exact⟨⟨h1,h2⟩,ha⟩
theorem z4b{c:UInt8}(h:c.toNat<65):letB c=false:=by unfold letB;simp;omega
theorem zzp{c:UInt8}(h:65≤c.toNat)(h2:c.toNat≤90):letB c=true:=by unfold letB;simp;omega
theorem zzo{c:UInt8}(h:90<c.toNat)(h2:c.toNat<97):letB c=false:=by unfold letB;simp;omega
theorem zte{c:UInt8}(h:97≤c.toNat)(h2:c.toNat≤122):letB c=true:=by unfold letB;simp;omega
theorem z4c{c:UInt8}(h:122<c.toNat):letB c=false:=by unfold letB;simp;omega
theorem ztd(c:UInt8)(w:World):Calls Tryz.prog 99 #[.int .u8 (c.toNat:Int)] w fun e w'=>e=.returned (.bool (letB c))∧w=w':=by
 have hc:c.toNat<65∨(65≤c.toNat∧c.toNat≤90)∨(90<c.toNat∧c.toNat<97)∨(97≤c.toNat∧c.toNat≤122)∨122<c.toNat:=by omega
 rcases hc with h |⟨h,h'⟩ |⟨h,h'⟩ |⟨h,h'⟩ |h
 ·rw[z4b h]
  go_enter Tryz.func99,Tryz.ntmps99;go_wp2;go_ret;exact⟨zay (by first |rfl |(simp;omega)),rfl⟩
 ·rw[zzp h h']
  go_enter Tryz.func99,Tryz.ntmps99;go_wp2;go_ret;exact⟨zay (by first |rfl |(simp;omega)),rfl⟩
 ·rw[zzo h h']
  go_enter Tryz.func99,Tryz.ntmps99;go_wp2;go_ret;exact⟨zay (by first |rfl |(simp;omega)),rfl⟩
 ·rw[zte h h']
  go_enter Tryz.func99,Tryz.ntmps99;go_wp2;go_ret;exact⟨zay (by first |rfl |(simp;omega)),rfl⟩
 ·rw[z4c h]
  go_enter Tryz.func99,Tryz.ntmps99;go_wp2;go_ret;exact⟨zay (by first |rfl |(simp;omega)),rfl⟩
theorem zgz{c:UInt8}{b:Bool}(h:letB c=b)(w:World):Calls Tryz.prog 99 #[.int .u8 (c.toNat:Int)] w fun e w'=>e=.returned (.bool b)∧w=w':=h ▸ ztd c w
def NmR(s:ByteArray)(i:Value):Prop:=∃k:Nat,k≤s.size∧i=.int .i64 k∧∀c ∈ s.data.toList.take k,(letB c ||othB c)=true
theorem zm8(s:ByteArray):NmR s (.int .i64 0):=⟨0,Nat.zero_le _,rfl,by simp⟩
theorem zid(s:ByteArray)(k:Nat)(hk:k<s.size)(h:∀c ∈ s.data.toList.take k,(letB c ||othB c)=true)(h1:(letB s[k] ||othB s[k])=true) :
 ∀c ∈ s.data.toList.take (k+1),(letB c ||othB c)=true:=by
 rw[zdv s k hk];intro c hc
 rcases List.mem_append.1 hc with hc |hc
 ·exact h c hc
 ·rw[List.mem_singleton.1 hc];exact h1
theorem zv8(s:ByteArray)(w:World)(h0:0<s.size)(h4:s.size≤40)(h1:letB s[0]=true) :
 Calls Tryz.prog 51 #[.string s] w fun e w'=>e=.returned (.bool (nmB s.data.toList))∧w=w':=by
 have HL:=Z9 (fun W=>zgz h1 W)
 have HA:Hid ((∀x ∈ s.data.toList,(letB x ||othB x)=true)→nmB s.data.toList=true):=fun h=>zv4 (by rw[zab];omega) (by rw[zab];omega) (zcf s h0) h1 h
 clear h1;go_enter Tryz.func51,Tryz.ntmps51;go_wp2_with fail;refine(HL.out _).mono ?_;rintro e w' ⟨rfl,rfl⟩;go_wp2_with fail;go_loop [21] (fun i=>NmR s i) (fun i=>s.size-(intOf i).toNat)
 case atStart=>exact zm8 s
 case round =>
  obtain⟨k,hk,rfl,hd⟩:=hrel;have HD:=Z9 hd;clear hd HL
  by_cases Z7:k<s.size
  ·cases hb:letB s[k]with
   |true =>
    have HN:=Z9 (zid s k Z7 HD.out (by rw[hb];rfl));have HB:=Z9 (fun W=>zgz hb W);clear hb HA HD;go_wp2_with fail;refine(HB.out _).mono ?_;rintro e w' ⟨rfl,rfl⟩;go_wp2_with fail;go_round
    case rel=>exact⟨k+1,by omega,by go_num,HN.out⟩
    case measure=>simp[intOf];omega
   |false =>
    have HB:=Z9 (fun W=>zgz hb W)
    cases ho:othB s[k]with
    |true =>
     have HN:=Z9 (zid s k Z7 HD.out (by rw[ho];simp));have hc:(48≤s[k].toNat∧s[k].toNat≤57)∨(95≤s[k].toNat∧s[k].toNat≤95)∨(45≤s[k].toNat∧s[k].toNat≤45):=by unfold othB at ho;simp at ho;omega
     clear hb ho HA HD
     rcases hc with⟨c1,c2⟩ |⟨c1,c2⟩ |⟨c1,c2⟩
     ·have p48:(decide ((s[k].toNat:Int)<48))=false:=by simp;omega
      have p57:(decide ((57:Int)<(s[k].toNat:Int)))=false:=by simp;omega
      have e95:((s[k].toNat:Int) != 95)=true:=by simp;omega
      have e45:((s[k].toNat:Int) != 45)=true:=by simp;omega
      clear c1 c2;go_wp2_with fail;refine(HB.out _).mono ?_;rintro e w' ⟨rfl,rfl⟩;go_wp2;go_round
      case rel=>exact⟨k+1,by omega,by go_num,HN.out⟩
      case measure=>simp[intOf];omega
     ·have p48:(decide ((s[k].toNat:Int)<48))=false:=by simp;omega
      have p57:(decide ((57:Int)<(s[k].toNat:Int)))=true:=by simp;omega
      have e95:((s[k].toNat:Int) != 95)=false:=by simp;omega
      have e45:((s[k].toNat:Int) != 45)=true:=by simp;omega
      clear c1 c2;go_wp2_with fail;refine(HB.out _).mono ?_;rintro e w' ⟨rfl,rfl⟩;go_wp2;go_round
      case rel=>exact⟨k+1,by omega,by go_num,HN.out⟩
      case measure=>simp[intOf];omega
     ·have p48:(decide ((s[k].toNat:Int)<48))=true:=by simp;omega
      have p57:(decide ((57:Int)<(s[k].toNat:Int)))=false:=by simp;omega
      have e95:((s[k].toNat:Int) != 95)=true:=by simp;omega
      have e45:((s[k].toNat:Int) != 45)=false:=by simp;omega
      clear c1 c2;go_wp2_with fail;refine(HB.out _).mono ?_;rintro e w' ⟨rfl,rfl⟩;go_wp2;go_round
      case rel=>exact⟨k+1,by omega,by go_num,HN.out⟩
      case measure=>simp[intOf];omega
    |false =>
     have e4:=Z9 (zv5 (zc9 s k Z7) hb ho)
     have hc:(0≤s[k].toNat∧s[k].toNat≤44)∨(46≤s[k].toNat∧s[k].toNat≤47)∨(58≤s[k].toNat∧s[k].toNat≤94)∨(96≤s[k].toNat∧s[k].toNat≤255):=by
      have:=s[k].toNat_lt;unfold othB at ho;simp at ho;omega
     clear hb ho HA HD
     rcases hc with⟨c1,c2⟩ |⟨c1,c2⟩ |⟨c1,c2⟩ |⟨c1,c2⟩
     ·have p48:(decide ((s[k].toNat:Int)<48))=true:=by simp;omega
      have p57:(decide ((57:Int)<(s[k].toNat:Int)))=false:=by simp;omega
      have e95:((s[k].toNat:Int) != 95)=true:=by simp;omega
      have e45:((s[k].toNat:Int) != 45)=true:=by simp;omega
      clear c1 c2;go_wp2_with fail;refine(HB.out _).mono ?_;rintro e w' ⟨rfl,rfl⟩;go_wp2;go_ret;exact⟨zay e4.out.symm,rfl⟩
     ·have p48:(decide ((s[k].toNat:Int)<48))=true:=by simp;omega
      have p57:(decide ((57:Int)<(s[k].toNat:Int)))=false:=by simp;omega
      have e95:((s[k].toNat:Int) != 95)=true:=by simp;omega
      have e45:((s[k].toNat:Int) != 45)=true:=by simp;omega
      clear c1 c2;go_wp2_with fail;refine(HB.out _).mono ?_;rintro e w' ⟨rfl,rfl⟩;go_wp2;go_ret;exact⟨zay e4.out.symm,rfl⟩
     ·have p48:(decide ((s[k].toNat:Int)<48))=false:=by simp;omega
      have p57:(decide ((57:Int)<(s[k].toNat:Int)))=true:=by simp;omega
      have e95:((s[k].toNat:Int) != 95)=true:=by simp;omega
      have e45:((s[k].toNat:Int) != 45)=true:=by simp;omega
      clear c1 c2;go_wp2_with fail;refine(HB.out _).mono ?_;rintro e w' ⟨rfl,rfl⟩;go_wp2;go_ret;exact⟨zay e4.out.symm,rfl⟩
     ·have p48:(decide ((s[k].toNat:Int)<48))=false:=by simp;omega
      have p57:(decide ((57:Int)<(s[k].toNat:Int)))=true:=by simp;omega
      have e95:((s[k].toNat:Int) != 95)=true:=by simp;omega
      have e45:((s[k].toNat:Int) != 45)=true:=by simp;omega
      clear c1 c2;go_wp2_with fail;refine(HB.out _).mono ?_;rintro e w' ⟨rfl,rfl⟩;go_wp2;go_ret;exact⟨zay e4.out.symm,rfl⟩
  ·have e4:=Z9 (HA.out (by
    have:=HD.out
    rwa [List.take_of_length_le (by rw[zab];omega)]at this))
   clear HA HD;go_wp2;go_ret;exact⟨zay e4.out.symm,rfl⟩
theorem zln(s:ByteArray)(w:World) :
 Calls Tryz.prog 51 #[.string s] w fun e w'=>e=.returned (.bool (nmB s.data.toList))∧w=w':=by
 by_cases h0:s.size<1
 ·rw[zlk (.inl (by rw[zab];exact h0))]
  go_enter Tryz.func51,Tryz.ntmps51;go_wp2;go_ret;exact⟨rfl,rfl⟩
 by_cases h4:40<s.size
 ·rw[zlk (.inr (by rw[zab];exact h4))]
  go_enter Tryz.func51,Tryz.ntmps51;go_wp2;go_ret;exact⟨rfl,rfl⟩
 have h0':0<s.size:=by omega
 have h4':s.size≤40:=by omega
 clear h0 h4
 cases h1:letB (s[0]'h0')with
 |true=>exact zv8 s w h0' h4' h1
 |false =>
  rw[zq8 (zcf s h0') h1];have HL:=Z9 (fun W=>zgz h1 W);clear h1;go_enter Tryz.func51,Tryz.ntmps51;go_wp2_with fail;refine(HL.out _).mono ?_;rintro e w' ⟨rfl,rfl⟩;go_wp2_with fail;go_ret;exact⟨rfl,rfl⟩
theorem zse(s:ByteArray)(w:World)(h0:0<s.size)(h4:s.size≤40) :
 Calls Tryz.prog 53 #[.string s] w fun e w'=>e=.returned (.bool (nmB s.data.toList))∧w=w':=by
 have HH:Hid (letB s[0]=false→nmB s.data.toList=false):=fun h=>zq8 (zcf s h0) h
 have HA:Hid (letB s[0]=true→(∀x ∈ s.data.toList,(letB x ||othB x)=true)→nmB s.data.toList=true):=fun h1 h=>zv4 (by rw[zab];omega) (by rw[zab];omega) (zcf s h0) h1 h
 have t0:((s.size:Int) == 0)=false:=by simp;intro h;rw[h]at h0;exact absurd h0 (by decide)
 go_enter Tryz.func53,Tryz.ntmps53;go_wp2_with fail;go_loop [3] (fun i=>NmR s i∧(0<(intOf i).toNat→letB s[0]=true)) (fun i=>s.size-(intOf i).toNat)
 case atStart=>exact⟨zm8 s,fun h=>absurd h (by simp[intOf])⟩
 case round =>
  obtain⟨⟨k,hk,rfl,hd⟩,h1⟩:=hrel;have HD:=Z9 hd
  have h1':Hid (0<k→letB s[0]=true):=fun h=>h1 (by simpa[intOf]using h)
  clear hd h1
  by_cases Z7:k<s.size
  ·have hb:Hid (∀b,letB s[k]=b→k=0→letB s[0]=b):=fun b hb hk=>by subst hk;exact hb
   cases hl:letB s[k]with
   |true =>
    have HN:=Z9 (zid s k Z7 HD.out (by rw[hl];rfl))
    have H0:Hid (letB s[0]=true):=by
     rcases Nat.eq_zero_or_pos k with e |e
     ·exact hb.out _ hl e
     ·exact h1'.out e
    have hc:(65≤s[k].toNat∧s[k].toNat≤90)∨(97≤s[k].toNat∧s[k].toNat≤122):=by unfold letB at hl;simp at hl;omega
    clear hb hl HA HD HH h1'
    rcases hc with⟨c1,c2⟩ |⟨c1,c2⟩
    ·have p97:(decide ((97:Int)≤(s[k].toNat:Int)))=false:=by simp;omega
     have p122:(decide ((s[k].toNat:Int)≤122))=true:=by simp;omega
     have p65:(decide ((65:Int)≤(s[k].toNat:Int)))=true:=by simp;omega
     have p90:(decide ((s[k].toNat:Int)≤90))=true:=by simp;omega
     have p48:(decide ((48:Int)≤(s[k].toNat:Int)))=true:=by simp;omega
     have p57:(decide ((s[k].toNat:Int)≤57))=false:=by simp;omega
     have e95:((s[k].toNat:Int) == 95)=false:=by simp;omega
     have e45:((s[k].toNat:Int) == 45)=false:=by simp;omega
     clear c1 c2;go_wp2;go_round
     case rel=>exact⟨⟨k+1,by omega,by go_num,HN.out⟩,fun _=>H0.out⟩
     case measure=>simp[intOf];omega
    ·have p97:(decide ((97:Int)≤(s[k].toNat:Int)))=true:=by simp;omega
     have p122:(decide ((s[k].toNat:Int)≤122))=true:=by simp;omega
     have p65:(decide ((65:Int)≤(s[k].toNat:Int)))=true:=by simp;omega
     have p90:(decide ((s[k].toNat:Int)≤90))=false:=by simp;omega
     have p48:(decide ((48:Int)≤(s[k].toNat:Int)))=true:=by simp;omega
     have p57:(decide ((s[k].toNat:Int)≤57))=false:=by simp;omega
     have e95:((s[k].toNat:Int) == 95)=false:=by simp;omega
     have e45:((s[k].toNat:Int) == 45)=false:=by simp;omega
     clear c1 c2;go_wp2;go_round
     case rel=>exact⟨⟨k+1,by omega,by go_num,HN.out⟩,fun _=>H0.out⟩
     case measure=>simp[intOf];omega
   |false =>
    have hl':s[k].toNat<65∨(90<s[k].toNat∧s[k].toNat<97)∨122<s[k].toNat:=by unfold letB at hl;simp at hl;omega
    have hu:=s[k].toNat_lt
    by_cases Yt:k=0
    ·have e4:=Z9 (HH.out (hb.out _ hl Yt))
     clear hb hl HA HD HH h1';subst Yt;have hc:(0≤s[0].toNat∧s[0].toNat≤44)∨(45≤s[0].toNat∧s[0].toNat≤45)∨(46≤s[0].toNat∧s[0].toNat≤47)∨(48≤s[0].toNat∧s[0].toNat≤57)∨(58≤s[0].toNat∧s[0].toNat≤64)∨(91≤s[0].toNat∧s[0].toNat≤94)∨(95≤s[0].toNat∧s[0].toNat≤95)∨(96≤s[0].toNat∧s[0].toNat≤96)∨(123≤s[0].toNat∧s[0].toNat≤255):=by omega
     clear hl' hu
     rcases hc with⟨c1,c2⟩ |⟨c1,c2⟩ |⟨c1,c2⟩ |⟨c1,c2⟩ |⟨c1,c2⟩ |⟨c1,c2⟩ |⟨c1,c2⟩ |⟨c1,c2⟩ |⟨c1,c2⟩
     ·have p97:(decide ((97:Int)≤(s[0].toNat:Int)))=false:=by simp;omega
      have p122:(decide ((s[0].toNat:Int)≤122))=true:=by simp;omega
      have p65:(decide ((65:Int)≤(s[0].toNat:Int)))=false:=by simp;omega
      have p90:(decide ((s[0].toNat:Int)≤90))=true:=by simp;omega
      have p48:(decide ((48:Int)≤(s[0].toNat:Int)))=false:=by simp;omega
      have p57:(decide ((s[0].toNat:Int)≤57))=true:=by simp;omega
      have e95:((s[0].toNat:Int) == 95)=false:=by simp;omega
      have e45:((s[0].toNat:Int) == 45)=false:=by simp;omega
      clear c1 c2;go_wp2;go_ret;exact⟨zay e4.out.symm,rfl⟩
     ·have p97:(decide ((97:Int)≤(s[0].toNat:Int)))=false:=by simp;omega
      have p122:(decide ((s[0].toNat:Int)≤122))=true:=by simp;omega
      have p65:(decide ((65:Int)≤(s[0].toNat:Int)))=false:=by simp;omega
      have p90:(decide ((s[0].toNat:Int)≤90))=true:=by simp;omega
      have p48:(decide ((48:Int)≤(s[0].toNat:Int)))=false:=by simp;omega
      have p57:(decide ((s[0].toNat:Int)≤57))=true:=by simp;omega
      have e95:((s[0].toNat:Int) == 95)=false:=by simp;omega
      have e45:((s[0].toNat:Int) == 45)=true:=by simp;omega
      clear c1 c2;go_wp2;go_ret;exact⟨zay e4.out.symm,rfl⟩
     ·have p97:(decide ((97:Int)≤(s[0].toNat:Int)))=false:=by simp;omega
      have p122:(decide ((s[0].toNat:Int)≤122))=true:=by simp;omega
      have p65:(decide ((65:Int)≤(s[0].toNat:Int)))=false:=by simp;omega
      have p90:(decide ((s[0].toNat:Int)≤90))=true:=by simp;omega
      have p48:(decide ((48:Int)≤(s[0].toNat:Int)))=false:=by simp;omega
      have p57:(decide ((s[0].toNat:Int)≤57))=true:=by simp;omega
      have e95:((s[0].toNat:Int) == 95)=false:=by simp;omega
      have e45:((s[0].toNat:Int) == 45)=false:=by simp;omega
      clear c1 c2;go_wp2;go_ret;exact⟨zay e4.out.symm,rfl⟩
     ·have p97:(decide ((97:Int)≤(s[0].toNat:Int)))=false:=by simp;omega
      have p122:(decide ((s[0].toNat:Int)≤122))=true:=by simp;omega
      have p65:(decide ((65:Int)≤(s[0].toNat:Int)))=false:=by simp;omega
      have p90:(decide ((s[0].toNat:Int)≤90))=true:=by simp;omega
      have p48:(decide ((48:Int)≤(s[0].toNat:Int)))=true:=by simp;omega
      have p57:(decide ((s[0].toNat:Int)≤57))=true:=by simp;omega
      have e95:((s[0].toNat:Int) == 95)=false:=by simp;omega
      have e45:((s[0].toNat:Int) == 45)=false:=by simp;omega
      clear c1 c2;go_wp2;go_ret;exact⟨zay e4.out.symm,rfl⟩
     ·have p97:(decide ((97:Int)≤(s[0].toNat:Int)))=false:=by simp;omega
      have p122:(decide ((s[0].toNat:Int)≤122))=true:=by simp;omega
      have p65:(decide ((65:Int)≤(s[0].toNat:Int)))=false:=by simp;omega
      have p90:(decide ((s[0].toNat:Int)≤90))=true:=by simp;omega
      have p48:(decide ((48:Int)≤(s[0].toNat:Int)))=true:=by simp;omega
      have p57:(decide ((s[0].toNat:Int)≤57))=false:=by simp;omega
      have e95:((s[0].toNat:Int) == 95)=false:=by simp;omega
      have e45:((s[0].toNat:Int) == 45)=false:=by simp;omega
      clear c1 c2;go_wp2;go_ret;exact⟨zay e4.out.symm,rfl⟩
     ·have p97:(decide ((97:Int)≤(s[0].toNat:Int)))=false:=by simp;omega
      have p122:(decide ((s[0].toNat:Int)≤122))=true:=by simp;omega
      have p65:(decide ((65:Int)≤(s[0].toNat:Int)))=true:=by simp;omega
      have p90:(decide ((s[0].toNat:Int)≤90))=false:=by simp;omega
      have p48:(decide ((48:Int)≤(s[0].toNat:Int)))=true:=by simp;omega
      have p57:(decide ((s[0].toNat:Int)≤57))=false:=by simp;omega
      have e95:((s[0].toNat:Int) == 95)=false:=by simp;omega
      have e45:((s[0].toNat:Int) == 45)=false:=by simp;omega
      clear c1 c2;go_wp2;go_ret;exact⟨zay e4.out.symm,rfl⟩
     ·have p97:(decide ((97:Int)≤(s[0].toNat:Int)))=false:=by simp;omega
      have p122:(decide ((s[0].toNat:Int)≤122))=true:=by simp;omega
      have p65:(decide ((65:Int)≤(s[0].toNat:Int)))=true:=by simp;omega
      have p90:(decide ((s[0].toNat:Int)≤90))=false:=by simp;omega
      have p48:(decide ((48:Int)≤(s[0].toNat:Int)))=true:=by simp;omega
      have p57:(decide ((s[0].toNat:Int)≤57))=false:=by simp;omega
      have e95:((s[0].toNat:Int) == 95)=true:=by simp;omega
      have e45:((s[0].toNat:Int) == 45)=false:=by simp;omega
      clear c1 c2;go_wp2;go_ret;exact⟨zay e4.out.symm,rfl⟩
     ·have p97:(decide ((97:Int)≤(s[0].toNat:Int)))=false:=by simp;omega
      have p122:(decide ((s[0].toNat:Int)≤122))=true:=by simp;omega
      have p65:(decide ((65:Int)≤(s[0].toNat:Int)))=true:=by simp;omega
      have p90:(decide ((s[0].toNat:Int)≤90))=false:=by simp;omega
      have p48:(decide ((48:Int)≤(s[0].toNat:Int)))=true:=by simp;omega
      have p57:(decide ((s[0].toNat:Int)≤57))=false:=by simp;omega
      have e95:((s[0].toNat:Int) == 95)=false:=by simp;omega
      have e45:((s[0].toNat:Int) == 45)=false:=by simp;omega
      clear c1 c2;go_wp2;go_ret;exact⟨zay e4.out.symm,rfl⟩
     ·have p97:(decide ((97:Int)≤(s[0].toNat:Int)))=true:=by simp;omega
      have p122:(decide ((s[0].toNat:Int)≤122))=false:=by simp;omega
      have p65:(decide ((65:Int)≤(s[0].toNat:Int)))=true:=by simp;omega
      have p90:(decide ((s[0].toNat:Int)≤90))=false:=by simp;omega
      have p48:(decide ((48:Int)≤(s[0].toNat:Int)))=true:=by simp;omega
      have p57:(decide ((s[0].toNat:Int)≤57))=false:=by simp;omega
      have e95:((s[0].toNat:Int) == 95)=false:=by simp;omega
      have e45:((s[0].toNat:Int) == 45)=false:=by simp;omega
      clear c1 c2;go_wp2;go_ret;exact⟨zay e4.out.symm,rfl⟩
    ·have H0:=Z9 (h1'.out (by omega))
     have ek:((k:Int) == 0)=false:=by simp;omega
     cases ho:othB s[k]with
     |true =>
      have HN:=Z9 (zid s k Z7 HD.out (by rw[ho];simp));have hc:(48≤s[k].toNat∧s[k].toNat≤57)∨(95≤s[k].toNat∧s[k].toNat≤95)∨(45≤s[k].toNat∧s[k].toNat≤45):=by unfold othB at ho;simp at ho;omega
      clear hb hl hl' hu ho HA HD HH h1'
      rcases hc with⟨c1,c2⟩ |⟨c1,c2⟩ |⟨c1,c2⟩
      ·have p97:(decide ((97:Int)≤(s[k].toNat:Int)))=false:=by simp;omega
       have p122:(decide ((s[k].toNat:Int)≤122))=true:=by simp;omega
       have p65:(decide ((65:Int)≤(s[k].toNat:Int)))=false:=by simp;omega
       have p90:(decide ((s[k].toNat:Int)≤90))=true:=by simp;omega
       have p48:(decide ((48:Int)≤(s[k].toNat:Int)))=true:=by simp;omega
       have p57:(decide ((s[k].toNat:Int)≤57))=true:=by simp;omega
       have e95:((s[k].toNat:Int) == 95)=false:=by simp;omega
       have e45:((s[k].toNat:Int) == 45)=false:=by simp;omega
       clear c1 c2;go_wp2;go_round
       case rel=>exact⟨⟨k+1,by omega,by go_num,HN.out⟩,fun _=>H0.out⟩
       case measure=>simp[intOf];omega
      ·have p97:(decide ((97:Int)≤(s[k].toNat:Int)))=false:=by simp;omega
       have p122:(decide ((s[k].toNat:Int)≤122))=true:=by simp;omega
       have p65:(decide ((65:Int)≤(s[k].toNat:Int)))=true:=by simp;omega
       have p90:(decide ((s[k].toNat:Int)≤90))=false:=by simp;omega
       have p48:(decide ((48:Int)≤(s[k].toNat:Int)))=true:=by simp;omega
       have p57:(decide ((s[k].toNat:Int)≤57))=false:=by simp;omega
       have e95:((s[k].toNat:Int) == 95)=true:=by simp;omega
       have e45:((s[k].toNat:Int) == 45)=false:=by simp;omega
       clear c1 c2;go_wp2;go_round
       case rel=>exact⟨⟨k+1,by omega,by go_num,HN.out⟩,fun _=>H0.out⟩
       case measure=>simp[intOf];omega
      ·have p97:(decide ((97:Int)≤(s[k].toNat:Int)))=false:=by simp;omega
       have p122:(decide ((s[k].toNat:Int)≤122))=true:=by simp;omega
       have p65:(decide ((65:Int)≤(s[k].toNat:Int)))=false:=by simp;omega
       have p90:(decide ((s[k].toNat:Int)≤90))=true:=by simp;omega
       have p48:(decide ((48:Int)≤(s[k].toNat:Int)))=false:=by simp;omega
       have p57:(decide ((s[k].toNat:Int)≤57))=true:=by simp;omega
       have e95:((s[k].toNat:Int) == 95)=false:=by simp;omega
       have e45:((s[k].toNat:Int) == 45)=true:=by simp;omega
       clear c1 c2;go_wp2;go_round
       case rel=>exact⟨⟨k+1,by omega,by go_num,HN.out⟩,fun _=>H0.out⟩
       case measure=>simp[intOf];omega
     |false =>
      have e4:=Z9 (zv5 (zc9 s k Z7) hl ho)
      have hc:(0≤s[k].toNat∧s[k].toNat≤44)∨(46≤s[k].toNat∧s[k].toNat≤47)∨(58≤s[k].toNat∧s[k].toNat≤64)∨(91≤s[k].toNat∧s[k].toNat≤94)∨(96≤s[k].toNat∧s[k].toNat≤96)∨(123≤s[k].toNat∧s[k].toNat≤255):=by
       unfold othB at ho;simp at ho;omega
      clear hb hl hl' hu ho HA HD HH h1'
      rcases hc with⟨c1,c2⟩ |⟨c1,c2⟩ |⟨c1,c2⟩ |⟨c1,c2⟩ |⟨c1,c2⟩ |⟨c1,c2⟩
      ·have p97:(decide ((97:Int)≤(s[k].toNat:Int)))=false:=by simp;omega
       have p122:(decide ((s[k].toNat:Int)≤122))=true:=by simp;omega
       have p65:(decide ((65:Int)≤(s[k].toNat:Int)))=false:=by simp;omega
       have p90:(decide ((s[k].toNat:Int)≤90))=true:=by simp;omega
       have p48:(decide ((48:Int)≤(s[k].toNat:Int)))=false:=by simp;omega
       have p57:(decide ((s[k].toNat:Int)≤57))=true:=by simp;omega
       have e95:((s[k].toNat:Int) == 95)=false:=by simp;omega
       have e45:((s[k].toNat:Int) == 45)=false:=by simp;omega
       clear c1 c2;go_wp2;go_ret;exact⟨zay e4.out.symm,rfl⟩
      ·have p97:(decide ((97:Int)≤(s[k].toNat:Int)))=false:=by simp;omega
       have p122:(decide ((s[k].toNat:Int)≤122))=true:=by simp;omega
       have p65:(decide ((65:Int)≤(s[k].toNat:Int)))=false:=by simp;omega
       have p90:(decide ((s[k].toNat:Int)≤90))=true:=by simp;omega
       have p48:(decide ((48:Int)≤(s[k].toNat:Int)))=false:=by simp;omega
       have p57:(decide ((s[k].toNat:Int)≤57))=true:=by simp;omega
       have e95:((s[k].toNat:Int) == 95)=false:=by simp;omega
       have e45:((s[k].toNat:Int) == 45)=false:=by simp;omega
       clear c1 c2;go_wp2;go_ret;exact⟨zay e4.out.symm,rfl⟩
      ·have p97:(decide ((97:Int)≤(s[k].toNat:Int)))=false:=by simp;omega
       have p122:(decide ((s[k].toNat:Int)≤122))=true:=by simp;omega
       have p65:(decide ((65:Int)≤(s[k].toNat:Int)))=false:=by simp;omega
       have p90:(decide ((s[k].toNat:Int)≤90))=true:=by simp;omega
       have p48:(decide ((48:Int)≤(s[k].toNat:Int)))=true:=by simp;omega
       have p57:(decide ((s[k].toNat:Int)≤57))=false:=by simp;omega
       have e95:((s[k].toNat:Int) == 95)=false:=by simp;omega
       have e45:((s[k].toNat:Int) == 45)=false:=by simp;omega
       clear c1 c2;go_wp2;go_ret;exact⟨zay e4.out.symm,rfl⟩
      ·have p97:(decide ((97:Int)≤(s[k].toNat:Int)))=false:=by simp;omega
       have p122:(decide ((s[k].toNat:Int)≤122))=true:=by simp;omega
       have p65:(decide ((65:Int)≤(s[k].toNat:Int)))=true:=by simp;omega
       have p90:(decide ((s[k].toNat:Int)≤90))=false:=by simp;omega
       have p48:(decide ((48:Int)≤(s[k].toNat:Int)))=true:=by simp;omega
       have p57:(decide ((s[k].toNat:Int)≤57))=false:=by simp;omega
       have e95:((s[k].toNat:Int) == 95)=false:=by simp;omega
       have e45:((s[k].toNat:Int) == 45)=false:=by simp;omega
       clear c1 c2;go_wp2;go_ret;exact⟨zay e4.out.symm,rfl⟩
      ·have p97:(decide ((97:Int)≤(s[k].toNat:Int)))=false:=by simp;omega
       have p122:(decide ((s[k].toNat:Int)≤122))=true:=by simp;omega
       have p65:(decide ((65:Int)≤(s[k].toNat:Int)))=true:=by simp;omega
       have p90:(decide ((s[k].toNat:Int)≤90))=false:=by simp;omega
       have p48:(decide ((48:Int)≤(s[k].toNat:Int)))=true:=by simp;omega
       have p57:(decide ((s[k].toNat:Int)≤57))=false:=by simp;omega
       have e95:((s[k].toNat:Int) == 95)=false:=by simp;omega
       have e45:((s[k].toNat:Int) == 45)=false:=by simp;omega
       clear c1 c2;go_wp2;go_ret;exact⟨zay e4.out.symm,rfl⟩
      ·have p97:(decide ((97:Int)≤(s[k].toNat:Int)))=true:=by simp;omega
       have p122:(decide ((s[k].toNat:Int)≤122))=false:=by simp;omega
       have p65:(decide ((65:Int)≤(s[k].toNat:Int)))=true:=by simp;omega
       have p90:(decide ((s[k].toNat:Int)≤90))=false:=by simp;omega
       have p48:(decide ((48:Int)≤(s[k].toNat:Int)))=true:=by simp;omega
       have p57:(decide ((s[k].toNat:Int)≤57))=false:=by simp;omega
       have e95:((s[k].toNat:Int) == 95)=false:=by simp;omega
       have e45:((s[k].toNat:Int) == 45)=false:=by simp;omega
       clear c1 c2;go_wp2;go_ret;exact⟨zay e4.out.symm,rfl⟩
  ·have e4:=Z9 (HA.out (h1'.out (by omega)) (by
    have:=HD.out
    rwa [List.take_of_length_le (by rw[zab];omega)]at this))
   clear HA HD HH h1';go_wp2;go_ret;exact⟨zay e4.out.symm,rfl⟩
theorem zi4(s:ByteArray)(w:World) :
 Calls Tryz.prog 53 #[.string s] w fun e w'=>e=.returned (.bool (nmB s.data.toList))∧w=w':=by
 by_cases h0:s.size<1
 ·rw[zlk (.inl (by rw[zab];exact h0))]
  have hz:s.size=0:=by omega
  have t0:((s.size:Int) == 0)=true:=by rw[hz];rfl
  clear hz h0;go_enter Tryz.func53,Tryz.ntmps53;go_wp2;go_ret;exact⟨rfl,rfl⟩
 by_cases h4:40<s.size
 ·rw[zlk (.inr (by rw[zab];exact h4))]
  have h0':0<s.size:=by omega
  have t0:((s.size:Int) == 0)=false:=by simp;intro h;rw[h]at h0';exact absurd h0' (by decide)
  have t4:decide ((40:Int)<(s.size:Int))=true:=by simp;omega
  clear h0;go_enter Tryz.func53,Tryz.ntmps53;go_wp2;go_ret;exact⟨rfl,rfl⟩
 exact zse s w (by omega) (by omega)
def shpL(k:Int):Option (List Int × Int) :=
 if k=4∨k=5∨k=6∨k=7∨k=8 then some ([1,1],1)else if k=9 then some ([2,1,1],1)else if k=11∨k=12 then some ([1,1],2)else if k=13∨k=14 then some ([2,2],2)else if k=15 then some ([2],2)else none
def zco(r n:ByteArray)(d:Int):Bool:=r.data.toList.isEmpty && n.data.toList.isEmpty && d == 0
def zci(k:Int)(r n:ByteArray)(d:Int):Int :=
 if k=1 then(if n.data.toList.isEmpty=true∧d=0∧chkR r.data.toList=0 then 1 else 0)
 else if k=2 then(if r.data.toList.isEmpty=true∧nmB n.data.toList=true∧0≤d∧d≤99999 then 1 else 0)
 else if k=3 then(if r.data.toList.isEmpty=true∧nmB n.data.toList=true∧d=0 then 1 else 0)
 else 0
def srtP(k:Int)(r n:ByteArray)(d:Int)(l:List Int):Int :=
 match shpL k with
 |some (ps,own)=>if zco r n d=true∧l=ps then own else 0
 |none=>if l=[]then zci k r n d else 0
def Ex.srt:Ex→Int
 | .mk k r n d l=>srtP k r n d (l.attach.map fun x=>x.1.srt)
termination_by x=>SizeOf.sizeOf x
decreasing_by
 have:=List.sizeOf_lt_of_mem x.2;simp only[Ex.mk.sizeOf_spec];omega
theorem Ex.srt_is(x:Ex):x.srt=srtP x.kind x.rat x.name x.date (x.sub.map Ex.srt):=by
 cases x with
 |mk k r n d l =>
  rw[Ex.srt]
  show _=srtP k r n d (l.map Ex.srt)
  rw[show(l.attach.map fun x=>x.1.srt)=l.map Ex.srt from List.attach_map_val (l:=l) (f:=Ex.srt)]
theorem zyg{k:Int}{ps:List Int}{own:Int}(h:shpL k=some (ps,own)):(∀p ∈ ps,p≠0)∧ps.length≤3:=by
 unfold shpL at h
 (repeat' split at h)<;>simp at h<;>obtain⟨rfl,_⟩:=h<;>simp
def ExOn(S:Nat→Prop):Nat→World→List Value→Ex→Prop
 |0,_,_,_=>False
 |n+1,w,cs,x=>∃a len cap,cs=[.int .u8 x.kind,.string x.rat,.string x.name,.int .i64 x.date,.slice a len cap]∧x.sub.length=len ∧
  (len=0∨∃g,a=some ⟨g,0,none⟩∧S g∧∀i (hi:i<x.sub.length),∃cs',(∀j,j<5→w.cell? ⟨g,i*5+j,none⟩=cs'[j]?)∧ExOn S n w cs' x.sub[i])
theorem ExOn.mono{S S':Nat→Prop}(hS:∀g,S g→S' g):∀{n:Nat}{w:World}{cs:List Value}{x:Ex},ExOn S n w cs x→ExOn S' n w cs x
 |0,_,_,_,h=>h
 |n+1,w,cs,x,⟨a,len,cap,h1,h2,h3⟩=>⟨a,len,cap,h1,h2,h3.imp id fun⟨g,ha,hg,hi⟩=>⟨g,ha,hS g hg,fun i h=>by
  obtain⟨cs',hc,hx⟩:=hi i h
  exact⟨cs',hc,ExOn.mono hS hx⟩⟩⟩
theorem ExOn.keep{S:Nat→Prop}{w w':World}(hw:∀g,S g→w'.heap[g]?=w.heap[g]?):∀{n:Nat}{cs:List Value}{x:Ex},ExOn S n w cs x→ExOn S n w' cs x
 |0,_,_,h=>h
 |n+1,cs,x,⟨a,len,cap,h1,h2,h3⟩=>⟨a,len,cap,h1,h2,h3.imp id fun⟨g,ha,hg,hi⟩=>⟨g,ha,hg,fun i h=>by
  obtain⟨cs',hc,hx⟩:=hi i h
  exact⟨cs',fun j hj=>(World.cell?_of_block (w:=w) (w':=w') (a:=⟨g,i*5+j,none⟩) (hw g hg)).trans (hc j hj),ExOn.keep hw hx⟩⟩⟩
theorem ExOn.at {S:Nat→Prop}{w:World}(hS:∀g,S g→g<w.heap.size):∀{n:Nat}{cs:List Value}{x:Ex},ExOn S n w cs x→ExAt n w cs x
 |0,_,_,h=>h
 |n+1,cs,x,⟨a,len,cap,h1,h2,h3⟩=>⟨a,len,cap,h1,h2,h3.imp id fun⟨g,ha,hg,hi⟩=>⟨g,0,ha,hS g hg,fun i h=>by
  obtain⟨cs',hc,hx⟩:=hi i h
  exact⟨cs',fun j hj=>by rw[Nat.zero_add];exact hc j hj,ExOn.at hS hx⟩⟩⟩
theorem ExOn.shape{S:Nat→Prop}:∀{n:Nat}{w:World}{cs:List Value}{x:Ex},ExOn S n w cs x→∃a len cap,cs=[.int .u8 x.kind,.string x.rat,.string x.name,.int .i64 x.date,.slice a len cap]
 |0,_,_,_,h=>h.elim
 |_+1,_,_,_,⟨a,len,cap,h1,_,_⟩=>⟨a,len,cap,h1⟩
def zio:Value:=.agg #[.int .u8 0,.string ⟨#[]⟩,.string ⟨#[]⟩,.int .i64 0,.slice none 0 0]
theorem z1x:(Tryz.prog.info? 25).map (fun i=>(i.zero,i.size,i.bytes))=some (some zio,5,72):=by kernel_rfl
def TwR(n B:Nat)(l:List Ex)(k:Nat)(v:Value)(xs:List Value)(wr:World):Prop :=
 ∃css:List (List Value),css.flatten=xs∧css.length=k∧(∀c ∈ css,c.length=5)∧wr.ownsRow B 25 5 v k xs ∧
  ∀i (h:i<css.length) (h2:i<l.length),ExOn (fun g=>B≤g∧g<wr.heap.size∧v.ownBlock≠some g) n wr css[i] l[i]
theorem TwR.nil(n B:Nat)(l:List Ex)(wr:World):TwR n B l 0 (.slice none 0 0) [] wr :=
 ⟨[],rfl,rfl,by simp,⟨by simp,.inl ⟨rfl,rfl⟩⟩,fun i h=>absurd h (Nat.not_lt_zero _)⟩
theorem TwR.set{n B:Nat}{l:List Ex}{k:Nat}{v:Value}{xs:List Value}{w1:World}(h:TwR n B l k v xs w1){p:Addr}(hp:p.block<B)(u:Value):TwR n B l k v xs (w1.setCell p u):=by
 obtain⟨css,h0,h1,h2,h3,h4⟩:=h;refine⟨css,h0,h1,h2,ownsRow_setCell_below h3 hp u,fun i hi Xy=>((h4 i hi Xy).keep (w':=w1.setCell p u) fun g ⟨g1,_,_⟩=>Below.heap_setCell _ _ _ _ (by omega)).mono fun g ⟨g1,g2,g3⟩=>⟨g1,by simpa[World.setCell]using g2,g3⟩⟩
theorem TwR.snoc{n B:Nat}{l:List Ex}{k:Nat}{v v':Value}{xs:List Value}{w1 w2 w3:World}{y:Ex}{cs:List Value}(h:TwR n B l k v xs w1)(hk:k<l.length)(hy:y=l[k])(hB:B≤w1.heap.size)
 (hb:Below w1.heap.size w1 w2) (hx:ExOn (fun g=>w1.heap.size≤g∧g<w2.heap.size) n w2 cs y) (hg:w2.grownBy w3 v.ownBlock) (hv:v'.ownBlock=v.ownBlock∨v'.ownBlock=some w2.heap.size)
 (ZG:w3.ownsRow B 25 5 v' (k+1) (xs ++ cs)):TwR n B l (k+1) v' (xs ++ cs) w3:=by
 obtain⟨css,h0,h1,h2,h3,h4⟩:=h
 have hvl:∀g,v.ownBlock=some g→g<w1.heap.size:=fun g e=>(h3.lt g e).2
 have hn:∀g,(v'.ownBlock=some g)→g<w2.heap.size→v.ownBlock=some g:=fun g e hl=>by
  rcases hv with hv |hv
  ·rw[←hv];exact e
  ·rw[hv]at e;injection e with e;omega
 obtain⟨a,len,cap,X5⟩:=hx.shape;refine⟨css ++ [cs],by rw[List.flatten_append,List.flatten_singleton,h0],by simp[h1],fun c hc => ?_,ZG,fun i hi Xy => ?_⟩
 ·rcases List.mem_append.1 hc with hc |hc
  ·exact h2 c hc
  ·rw[List.mem_singleton.1 hc,X5];rfl
 ·by_cases V0:i<css.length
  ·have e1:(css ++ [cs])[i]=css[i]:=List.getElem_append_left V0
   rw[e1]
   refine((h4 i V0 Xy).keep (w':=w3) fun g ⟨_,g2,g3⟩ => ?_).mono fun g ⟨g1,g2,g3⟩=>⟨g1,Nat.lt_of_lt_of_le g2 (Nat.le_trans hb.size hg.size),fun e=>g3 (hn g e (Nat.lt_of_lt_of_le g2 hb.size))⟩
   rw[hg.block g (Nat.lt_of_lt_of_le g2 hb.size) (fun e=>g3 e.symm),hb.block g g2]
  ·have hie:i=k:=by simp at hi;omega
   subst hie;have e1:(css ++ [cs])[i]'hi=cs:=by rw[List.getElem_append_right (by omega)];simp
   rw[e1,←hy]
   refine(hx.keep (w':=w3) fun g ⟨g1,g2⟩ => ?_).mono fun g ⟨g1,g2⟩=>⟨by omega,Nat.lt_of_lt_of_le g2 hg.size,fun e=>by have:=hvl g (hn g e g2);omega⟩
   exact hg.block g g2 (fun e=>by have:=hvl g e.symm;omega)
theorem TwR.owns{n B:Nat}{l:List Ex}{k:Nat}{v:Value}{xs:List Value}{w1:World}(h:TwR n B l k v xs w1):w1.ownsRow B 25 5 v k xs:=by
 obtain⟨_,_,_,_,h3,_⟩:=h;exact h3
theorem TwR.done{n B:Nat}{x:Ex}{k:Nat}{v:Value}{xs:List Value}{wr:World}(h:TwR n B x.sub k v xs wr)(hk:x.sub.length=k) :
 ∃a len cap,v=.slice a len cap∧ExOn (fun g=>B≤g∧g<wr.heap.size) (n+1) wr [.int .u8 x.kind,.string x.rat,.string x.name,.int .i64 x.date,.slice a len cap] x:=by
 obtain⟨css,h0,h1,h2,h3,h4⟩:=h
 rcases h3.2 with⟨rfl,h0⟩ |⟨g,cap,cur,rfl,hg,hc,YW,hm,X5,ht⟩
 ·exact⟨none,0,0,rfl,none,0,0,rfl,by omega,.inl rfl⟩
 ·have XL:g<wr.heap.size:=(Z8 hc)
  refine⟨_,_,_,rfl,some ⟨g,0,none⟩,k,cap,rfl,hk,.inr ⟨g,rfl,⟨by omega,XL⟩,fun i hi=>⟨css[i],fun j hj => ?_,(h4 i (by omega) hi).mono fun g ⟨g1,g2,_⟩=>⟨g1,g2⟩⟩⟩⟩
  have hfl:∀(L:List (List Value)),(∀c ∈ L,c.length=5)→∀i (hi:i<L.length) j,j<5→L.flatten[i*5+j]?=L[i][j]?:=by
   intro L
   induction L with
   |nil=>intro _ i hi;exact absurd hi (Nat.not_lt_zero _)
   |cons c L ih =>
    intro hL i hi j hj;have Sw:c.length=5:=hL c (List.mem_cons_self ..);rw[List.flatten_cons]
    match i,hi with
    |0,_=>rw[Nat.zero_mul,Nat.zero_add,List.getElem?_append_left (by omega)];rfl
    |i+1,hi =>
     rw[List.getElem?_append_right (by omega),show(i+1)*5+j-c.length=i*5+j by omega,ih (fun c hc=>hL c (List.mem_cons_of_mem _ hc)) i (by simpa using hi) j hj];rfl
  rw[←hfl css h2 i (by omega) j hj,h0,←ht,List.getElem?_take_of_lt (by
   have:i*5+j<k*5:=by omega
   exact this)]
  simp[World.cell?,hc]
theorem zrz{w1:World}{base:Nat}{v:Value}{k q:Nat}{xs:List Value}(h:w1.ownsRow base 25 5 v k xs)(hq:q<base):some q≠v.ownBlock:=fun e=>by
 have:=(h.lt q e.symm).1;omega
theorem zf3(k d:Int)(r n:ByteArray)(a:Option Addr)(l c:Nat):∀u ∈ [Value.int .u8 k,.string r,.string n,.int .i64 d,.slice a l c],u.oneCell'=true:=by
 intro u hu;simp only[List.mem_cons,List.not_mem_nil,or_false]at hu
 rcases hu with rfl |rfl |rfl |rfl |rfl<;>rfl
theorem zb7:(Tryz.prog.info? 3).map (fun i=>(i.zero,i.size,i.bytes))=some (some (.int .i64 0),1,8):=by kernel_rfl
theorem zcj{u:Value}(h:u.oneCell'=true):∀x ∈ [u],x.oneCell'=true:=fun x hx=>by rw[List.mem_singleton.1 hx];exact h
theorem zch{k:Int}{r nm:ByteArray}{d:Int}{l:List Ex}(h:∃dd,SmX dd (Ex.mk k r nm d l)):(r.size≤2500∧nm.size≤200)∧∀y ∈ l,∃dd,SmX dd y:=by
 obtain⟨dd,h⟩:=h
 match dd,h with
 |_+1,⟨h1,h2,h3⟩=>exact⟨⟨h2,h1⟩,fun y hy=>⟨_,h3 y hy⟩⟩
def RsC(n:Nat):Prop:=∀(x:Ex)(cs:List Value)(w:World),ExAt n w cs x→x.size≤1000→(∃dd,SmX dd x)→Calls Tryz.prog 81 #[.agg cs.toArray] w (IntP w (srtP x.kind x.rat x.name x.date (x.sub.map Ex.srt)))
def RsR(W0:World)(L:List Int)(len:Nat)(lv iv:Value)(wr:World):Prop :=
 ∃k:Nat,k≤len∧iv=.int .i64 (k:Int)∧Hid (wr.ownsRow W0.heap.size 3 1 lv k (ints (L.take k)))∧Below W0.heap.size W0 wr
theorem zyd{w:World}{B:Nat}{v:Value}{n:Nat}{L:List Int}(h:w.ownsRow B 3 1 v n (ints L)):(v=.slice none 0 0∧n=0)∨∃g cap,v=.slice (some ⟨g,0,none⟩) n cap∧g<w.heap.size∧∀i,i<L.length→w.cell? ⟨g,i,none⟩=some (.int .i64 (L[i]?.getD 0)):=by
 rcases zbd h with⟨rfl,rfl,_⟩ |⟨g,cap,rfl,_,_,_,_,hr⟩
 ·exact .inl ⟨rfl,rfl⟩
 ·refine .inr ⟨g,cap,rfl,hr.lt,fun i hi => ?_⟩
  rw[hr.cell (by rw[zpn];exact hi),zzx L i hi]
theorem zc7{k:Int}{r n:ByteArray}{d:Int}{l ps:List Int}{own:Int}(hs:shpL k=some (ps,own))(h:zco r n d=false):srtP k r n d l=0:=by
 unfold srtP;rw[hs];simp[h]
theorem zcc{k:Int}{r n:ByteArray}{d:Int}{l ps:List Int}{own:Int}(hs:shpL k=some (ps,own))(h:l≠ps):srtP k r n d l=0:=by
 unfold srtP;rw[hs];simp[h]
theorem zfj{k:Int}{r n:ByteArray}{d:Int}{l ps:List Int}{own:Int}(hs:shpL k=some (ps,own))(hb:zco r n d=true)(h:l=ps):srtP k r n d l=own:=by
 unfold srtP;rw[hs];simp[h,hb]
theorem zf1{k:Int}{r n:ByteArray}{d:Int}{l:List Int}(hs:shpL k=none)(h:l=[]):srtP k r n d l=zci k r n d:=by
 unfold srtP;rw[hs];simp[h]
theorem zc1{k:Int}{r n:ByteArray}{d:Int}{l:List Int}(hs:shpL k=none)(h:l≠[]):srtP k r n d l=0:=by
 unfold srtP;rw[hs];simp[h]
theorem z61{k:Int}(h4:4≤k)(h8:k≤8):shpL k=some ([1,1],1):=by
 unfold shpL;rw[if_pos (by omega)]
theorem zi0{k:Int}(h:k<4∨k=10∨15<k):shpL k=none:=by
 unfold shpL;rw[if_neg (by omega),if_neg (by omega),if_neg (by omega),if_neg (by omega),if_neg (by omega)]
theorem zpm{k:Int}(r n:ByteArray)(d:Int)(h1:k≠1)(h2:k≠2)(h3:k≠3):zci k r n d=0:=by
 unfold zci;rw[if_neg h1,if_neg h2,if_neg h3]
theorem z59{l:List Int}{a:Int}(h:l.length=1)(h0:l[0]?.getD 0=a):l=[a]:=by
 match l,h with
 | [x],_=>simp at h0;rw[h0]
theorem znd{l:List Int}{a b:Int}(h:l.length=2)(h0:l[0]?.getD 0=a)(h1:l[1]?.getD 0=b):l=[a,b]:=by
 match l,h with
 | [x,y],_=>simp at h0 h1;rw[h0,h1]
theorem z58{l:List Int}{a b c:Int}(h:l.length=3)(h0:l[0]?.getD 0=a)(h1:l[1]?.getD 0=b)(h2:l[2]?.getD 0=c):l=[a,b,c]:=by
 match l,h with
 | [x,y,z],_=>simp at h0 h1 h2;rw[h0,h1,h2]
theorem zbe{l ps:List Int}{i:Nat}(h:l[i]?.getD 0≠ps[i]?.getD 0):l≠ps:=fun e=>h (by rw[e])
theorem zcd{l ps:List Int}(h:l.length≠ps.length):l≠ps:=fun e=>h (by rw[e])
theorem zb3{w:World}{B:Nat}{v:Value}{n:Nat}{L:List Int}(h:w.ownsRow B 3 1 v n (ints L)):∃av cv,v=.slice av n cv∧(n=0∨∃g,av=some ⟨g,0,none⟩∧g<w.heap.size∧∀i,i<L.length→w.cell? ⟨g,i,none⟩=some (.int .i64 (L[i]?.getD 0))):=by
 rcases zyd h with⟨rfl,rfl⟩ |⟨g,cap,rfl,h1,h2⟩
 ·exact⟨none,0,rfl,.inl rfl⟩
 ·exact⟨_,_,rfl,.inr ⟨g,rfl,h1,h2⟩⟩
theorem z7f{k:Int}(h4:k<4):(k≠9∧k≠11∧k≠12∧k≠13∧k≠14∧k≠15)∧decide ((4:Int)≤k)=false∧(k<4∨k=10∨15<k):=by
 refine⟨by omega,by simp;omega,by omega⟩
theorem z7g{k:Int}(h4:k=10∨15<k):(k≠1∧k≠2∧k≠3)∧(k≠9∧k≠11∧k≠12∧k≠13∧k≠14∧k≠15)∧(decide ((4:Int)≤k)=true∧decide (k≤8)=false)∧(k<4∨k=10∨15<k):=by
 refine⟨by omega,by omega,⟨by simp;omega,by simp;omega⟩,by omega⟩
theorem zam{a b:Int}(h:a≠b):(a == b)=false:=by simpa using h
theorem zaz{a b:Int}(h:a=b):(a == b)=true:=by simpa using h
theorem zsj(n:Int)(w:World):Calls Tryz.prog 129 #[.int .i64 n] w (fun e w'=>e=.returned (.bool (decide (0≤n) && decide (n≤99999)))∧w=w'):=by
 by_cases h0:0≤n
 ·by_cases h1:n≤99999
  ·have e:(decide (0≤n) && decide (n≤99999))=true:=by simp[h0,h1]
   rw[e];clear e;go_enter Tryz.func129,Tryz.ntmps129;go_wp2;go_ret;exact⟨rfl,rfl⟩
  ·have e:(decide (0≤n) && decide (n≤99999))=false:=by simp[h1]
   rw[e];clear e;go_enter Tryz.func129,Tryz.ntmps129;go_wp2;go_ret;exact⟨rfl,rfl⟩
 ·have e:(decide (0≤n) && decide (n≤99999))=false:=by simp[h0]
  have d0:decide (0≤n)=false:=by simpa using h0
  rw[e];clear e;go_enter Tryz.func129,Tryz.ntmps129;go_wp2;go_ret;exact⟨rfl,rfl⟩
end Go.Proofs.YtkobkpepgdddeaaGreatDoor
