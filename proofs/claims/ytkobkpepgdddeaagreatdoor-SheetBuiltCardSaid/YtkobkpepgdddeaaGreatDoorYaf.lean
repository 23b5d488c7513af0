/-
  The program's Check of rationals. No condition.
-/
import Derived.Test.YtkobkpepgdddeaaGreatDoorYad
import Derived.Test.YtkobkpepgdddeaaGreatDoorYae
import Derived.RegionTactic
import Derived.Test.YtkobkpepgdddeaaGreatDoorYaa
import Derived.Test.YtkobkpepgdddeaaGreatDoorYac
import Derived.Deep.RegionLaw
import Derived.Deep.AppendLies
import Derived.Maps.Keyed
import Derived.JoinedTies
import Derived.LaidMore
import Derived.MakeChecks
namespace Go.Proofs.YtkobkpepgdddeaaGreatDoor
open Go.RowKit Go.Shelf
set_option maxHeartbeats 16000000
set_option maxRecDepth 100000
theorem zzl(l:List UInt8):(Lib.indexByte l 47 = -1∧slN l=l.length)∨(Lib.indexByte l 47=(slN l:Int)∧slN l<l.length):=by
 have h0:=Lib.indexByte_ge l 47
 by_cases h:Lib.indexByte l 47 = -1
 ·exact .inl ⟨h,zsx fun j _=>Lib.indexByte_none h j⟩
 ·right
  obtain⟨o,ho⟩:∃o:Nat,Lib.indexByte l 47=o:=⟨(Lib.indexByte l 47).toNat,by omega⟩
  obtain⟨h1,h2⟩:=Lib.indexByte_some ho
  have hl:o<l.length:=by
   rcases Nat.lt_or_ge o l.length with h |h
   ·exact h
   ·rw[List.getElem?_eq_none h]at h1;cases h1
  have:=z62 hl h2 h1;rw[this];exact⟨ho,hl⟩
def zce(w:World)(n d:ByteArray)(b:Bool)(e:Ending)(w':World):Prop:=e=.returned (.tuple #[.string n,.string d,.bool b])∧Below w.heap.size w w'
theorem zxj(s:ByteArray)(w:World)(h:slN s.data.toList=s.data.toList.length) :
 Calls Tryz.prog 244 #[.string s,.string ⟨#[47]⟩] w (zce w s ByteArray.empty false):=by
 have hi:=Tryz.stringslite_Index_one s 47 w
 rcases zzl s.data.toList with⟨e,_⟩ |⟨_,e⟩
 ·rw[e]at hi
  have HI:=Z9 hi;clear hi e h;go_enter Tryz.func244,Tryz.ntmps244;go_wp2_with fail;refine HI.out.mono ?_;rintro e w' ⟨rfl,rfl⟩;go_wp2_with fail;go_ret3;exact⟨rfl,Below.refl _ _⟩
 ·omega
theorem z8q(s:ByteArray)(k:Nat)(w:World)(hs:s.size≤1000000)(h:slN s.data.toList=k)(hk:k<s.size) :
 Calls Tryz.prog 244 #[.string s,.string ⟨#[47]⟩] w (zce w (s.extract 0 k) (s.extract (k+1) s.size) true):=by
 have hi:=Tryz.stringslite_Index_one s 47 w
 rcases zzl s.data.toList with⟨_,e⟩ |⟨e,_⟩
 ·rw[zab]at e;omega
 ·rw[e,h]at hi
  have HI:=Z9 hi;clear hi e h;go_enter Tryz.func244,Tryz.ntmps244;go_wp2_with fail;refine HI.out.mono ?_;rintro e w' ⟨rfl,rfl⟩;go_wp2_with fail;go_region
  all_goals
   go_wp2_with fail;go_ret3;exact⟨rfl,(Below.refl _ _).drew⟩
theorem z7h(s n d:ByteArray)(b:Bool)(w:World)(h:Calls Tryz.prog 244 #[.string s,.string ⟨#[47]⟩] w (zce w n d b)) :
 Calls Tryz.prog 225 #[.string s,.string ⟨#[47]⟩] w (zce w n d b):=by
 have HC:=Z9 h;clear h;go_enter Tryz.func225,Tryz.ntmps225;go_wp2_with fail;refine HC.out.mono ?_;rintro e w' ⟨rfl,b1⟩;have B1:=Z9 b1;clear b1;go_wp2_with fail;go_ret3;exact⟨rfl,B1.out⟩
theorem zsw(s n d:ByteArray)(b:Bool)(w:World)(h:Calls Tryz.prog 225 #[.string s,.string ⟨#[47]⟩] w (zce w n d b)) :
 Calls Tryz.prog 202 #[.string s] w (zce w n d b):=by
 have HC:=Z9 h;clear h;go_enter Tryz.func202,Tryz.ntmps202;go_wp2_with fail;refine HC.out.mono ?_;rintro e w' ⟨rfl,b1⟩;have B1:=Z9 b1;clear b1;go_wp2_with fail;go_ret3;exact⟨rfl,B1.out⟩
def frmZ(l:List UInt8):Int:=if chkZ l=12 then 12 else 0
theorem zmt(l:List UInt8):chkZ l=0∨chkZ l=12∨chkZ l=14:=by
 rcases zec l with⟨h,_⟩ |⟨z,_,_,h⟩
 ·exact .inr (.inl h)
 ·rw[h];split
  ·exact .inr (.inr rfl)
  ·exact .inl rfl
theorem z4m(s:ByteArray)(w:World)(hs:s.size≤1000000) :
 Calls Tryz.prog 203 #[.string s] w fun e w'=>e=.returned (.int .i64 (frmZ s.data.toList))∧w=w':=by
 have hc:=zhe s w hs;unfold frmZ
 rcases zmt s.data.toList with h |h |h<;>rw[h]at hc ⊢ <;> have HC:=Z9 hc<;>clear hc h
 all_goals
  go_enter Tryz.func203,Tryz.ntmps203;go_wp2_with fail;refine HC.out.mono ?_;rintro e w' ⟨rfl,rfl⟩;go_wp2_with fail;go_ret;exact⟨rfl,rfl⟩
theorem qc_n(s n d:ByteArray)(b:Bool)(FN:Hid (∀W,Calls Tryz.prog 203 #[.string n] W fun e w'=>e=.returned (.int .i64 12)∧W=w'))(w:World)
 (HW:Hid (Calls Tryz.prog 202 #[.string s] w (zce w n d b))) :
 Calls Tryz.prog 178 #[.string s] w (zcm w 12):=by
 go_enter Tryz.func178,Tryz.ntmps178;go_wp2_with fail;refine HW.out.mono ?_;rintro e w1 ⟨rfl,b1⟩;have B:=Z9 b1;clear b1;go_wp2_with fail;refine(FN.out _).mono ?_;rintro e w' ⟨rfl,rfl⟩;go_wp2_with fail;go_ret;exact⟨rfl,B.out⟩
theorem ybz(s n d:ByteArray)(FN:Hid (∀W,Calls Tryz.prog 203 #[.string n] W fun e w'=>e=.returned (.int .i64 0)∧W=w'))(CN:Hid (∀W,Calls Tryz.prog 204 #[.string n] W fun e w'=>e=.returned (.int .i64 14)∧W=w'))(w:World)
 (HW:Hid (Calls Tryz.prog 202 #[.string s] w (zce w n d false))) :
 Calls Tryz.prog 178 #[.string s] w (zcm w 14):=by
 go_enter Tryz.func178,Tryz.ntmps178;go_wp2_with fail;refine HW.out.mono ?_;rintro e w1 ⟨rfl,b1⟩;have B:=Z9 b1;clear b1;go_wp2_with fail;refine(FN.out _).mono ?_;rintro e w' ⟨rfl,rfl⟩;go_wp2_with fail;refine(CN.out _).mono ?_;rintro e w' ⟨rfl,rfl⟩;go_wp2_with fail;go_ret;exact⟨rfl,B.out⟩
theorem ydk(s n d:ByteArray)(FN:Hid (∀W,Calls Tryz.prog 203 #[.string n] W fun e w'=>e=.returned (.int .i64 0)∧W=w'))(CN:Hid (∀W,Calls Tryz.prog 204 #[.string n] W fun e w'=>e=.returned (.int .i64 0)∧W=w'))(w:World)
 (HW:Hid (Calls Tryz.prog 202 #[.string s] w (zce w n d false))) :
 Calls Tryz.prog 178 #[.string s] w (zcm w 0):=by
 go_enter Tryz.func178,Tryz.ntmps178;go_wp2_with fail;refine HW.out.mono ?_;rintro e w1 ⟨rfl,b1⟩;have B:=Z9 b1;clear b1;go_wp2_with fail;refine(FN.out _).mono ?_;rintro e w' ⟨rfl,rfl⟩;go_wp2_with fail;refine(CN.out _).mono ?_;rintro e w' ⟨rfl,rfl⟩;go_wp2_with fail;go_ret;exact⟨rfl,B.out⟩
theorem qc_d(s n d:ByteArray)(FN:Hid (∀W,Calls Tryz.prog 203 #[.string n] W fun e w'=>e=.returned (.int .i64 0)∧W=w'))(FD:Hid (∀W,Calls Tryz.prog 203 #[.string d] W fun e w'=>e=.returned (.int .i64 12)∧W=w'))(w:World)
 (HW:Hid (Calls Tryz.prog 202 #[.string s] w (zce w n d true))) :
 Calls Tryz.prog 178 #[.string s] w (zcm w 12):=by
 go_enter Tryz.func178,Tryz.ntmps178;go_wp2_with fail;refine HW.out.mono ?_;rintro e w1 ⟨rfl,b1⟩;have B:=Z9 b1;clear b1;go_wp2_with fail;refine(FN.out _).mono ?_;rintro e w' ⟨rfl,rfl⟩;go_wp2_with fail;refine(FD.out _).mono ?_;rintro e w' ⟨rfl,rfl⟩;go_wp2_with fail;go_ret;exact⟨rfl,B.out⟩
theorem qc_m(s n d:ByteArray)(FN:Hid (∀W,Calls Tryz.prog 203 #[.string n] W fun e w'=>e=.returned (.int .i64 0)∧W=w'))(FD:Hid (∀W,Calls Tryz.prog 203 #[.string d] W fun e w'=>e=.returned (.int .i64 0)∧W=w'))(h0:0<d.size)(hm:((d[0].toNat:Int) == 45)=true)(w:World)
 (HW:Hid (Calls Tryz.prog 202 #[.string s] w (zce w n d true))) :
 Calls Tryz.prog 178 #[.string s] w (zcm w 12):=by
 go_enter Tryz.func178,Tryz.ntmps178;go_wp2_with fail;refine HW.out.mono ?_;rintro e w1 ⟨rfl,b1⟩;have B:=Z9 b1;clear b1;go_wp2_with fail;refine(FN.out _).mono ?_;rintro e w' ⟨rfl,rfl⟩;go_wp2_with fail;refine(FD.out _).mono ?_;rintro e w' ⟨rfl,rfl⟩;go_wp2_with fail;go_ret;exact⟨rfl,B.out⟩
theorem qc_0(s n d:ByteArray)(FN:Hid (∀W,Calls Tryz.prog 203 #[.string n] W fun e w'=>e=.returned (.int .i64 0)∧W=w'))(FD:Hid (∀W,Calls Tryz.prog 203 #[.string d] W fun e w'=>e=.returned (.int .i64 0)∧W=w'))(h0:0<d.size)(hm:((d[0].toNat:Int) == 45)=false)(d0:(d.toList == [48])=true)(w:World)
 (HW:Hid (Calls Tryz.prog 202 #[.string s] w (zce w n d true))) :
 Calls Tryz.prog 178 #[.string s] w (zcm w 12):=by
 go_enter Tryz.func178,Tryz.ntmps178;go_wp2_with fail;refine HW.out.mono ?_;rintro e w1 ⟨rfl,b1⟩;have B:=Z9 b1;clear b1;go_wp2_with fail;refine(FN.out _).mono ?_;rintro e w' ⟨rfl,rfl⟩;go_wp2_with fail;refine(FD.out _).mono ?_;rintro e w' ⟨rfl,rfl⟩;go_wp2_with fail;go_ret;exact⟨rfl,B.out⟩
theorem qc_1(s n d:ByteArray)(FN:Hid (∀W,Calls Tryz.prog 203 #[.string n] W fun e w'=>e=.returned (.int .i64 0)∧W=w'))(FD:Hid (∀W,Calls Tryz.prog 203 #[.string d] W fun e w'=>e=.returned (.int .i64 0)∧W=w'))(h0:0<d.size)(hm:((d[0].toNat:Int) == 45)=false)(d0:(d.toList == [48])=false)(d1:(d.toList == [49])=true)(w:World)
 (HW:Hid (Calls Tryz.prog 202 #[.string s] w (zce w n d true))) :
 Calls Tryz.prog 178 #[.string s] w (zcm w 12):=by
 go_enter Tryz.func178,Tryz.ntmps178;go_wp2_with fail;refine HW.out.mono ?_;rintro e w1 ⟨rfl,b1⟩;have B:=Z9 b1;clear b1;go_wp2_with fail;refine(FN.out _).mono ?_;rintro e w' ⟨rfl,rfl⟩;go_wp2_with fail;refine(FD.out _).mono ?_;rintro e w' ⟨rfl,rfl⟩;go_wp2_with fail;go_ret;exact⟨rfl,B.out⟩
theorem ydm(s n d:ByteArray)(FN:Hid (∀W,Calls Tryz.prog 203 #[.string n] W fun e w'=>e=.returned (.int .i64 0)∧W=w'))(FD:Hid (∀W,Calls Tryz.prog 203 #[.string d] W fun e w'=>e=.returned (.int .i64 0)∧W=w'))(h0:0<d.size)(hm:((d[0].toNat:Int) == 45)=false)(d0:(d.toList == [48])=false)(d1:(d.toList == [49])=false)(CN:Hid (∀W,Calls Tryz.prog 204 #[.string n] W fun e w'=>e=.returned (.int .i64 14)∧W=w'))(w:World)
 (HW:Hid (Calls Tryz.prog 202 #[.string s] w (zce w n d true))) :
 Calls Tryz.prog 178 #[.string s] w (zcm w 14):=by
 go_enter Tryz.func178,Tryz.ntmps178;go_wp2_with fail;refine HW.out.mono ?_;rintro e w1 ⟨rfl,b1⟩;have B:=Z9 b1;clear b1;go_wp2_with fail;refine(FN.out _).mono ?_;rintro e w' ⟨rfl,rfl⟩;go_wp2_with fail;refine(FD.out _).mono ?_;rintro e w' ⟨rfl,rfl⟩;go_wp2_with fail;refine(CN.out _).mono ?_;rintro e w' ⟨rfl,rfl⟩;go_wp2_with fail;go_ret;exact⟨rfl,B.out⟩
theorem ydl(s n d:ByteArray)(FN:Hid (∀W,Calls Tryz.prog 203 #[.string n] W fun e w'=>e=.returned (.int .i64 0)∧W=w'))(FD:Hid (∀W,Calls Tryz.prog 203 #[.string d] W fun e w'=>e=.returned (.int .i64 0)∧W=w'))(h0:0<d.size)(hm:((d[0].toNat:Int) == 45)=false)(d0:(d.toList == [48])=false)(d1:(d.toList == [49])=false)(CN:Hid (∀W,Calls Tryz.prog 204 #[.string n] W fun e w'=>e=.returned (.int .i64 0)∧W=w'))(CD:Hid (∀W,Calls Tryz.prog 204 #[.string d] W fun e w'=>e=.returned (.int .i64 14)∧W=w'))(w:World)
 (HW:Hid (Calls Tryz.prog 202 #[.string s] w (zce w n d true))) :
 Calls Tryz.prog 178 #[.string s] w (zcm w 14):=by
 go_enter Tryz.func178,Tryz.ntmps178;go_wp2_with fail;refine HW.out.mono ?_;rintro e w1 ⟨rfl,b1⟩;have B:=Z9 b1;clear b1;go_wp2_with fail;refine(FN.out _).mono ?_;rintro e w' ⟨rfl,rfl⟩;go_wp2_with fail;refine(FD.out _).mono ?_;rintro e w' ⟨rfl,rfl⟩;go_wp2_with fail;refine(CN.out _).mono ?_;rintro e w' ⟨rfl,rfl⟩;go_wp2_with fail;refine(CD.out _).mono ?_;rintro e w' ⟨rfl,rfl⟩;go_wp2_with fail;go_ret;exact⟨rfl,B.out⟩
theorem yb0(s n d:ByteArray)(FN:Hid (∀W,Calls Tryz.prog 203 #[.string n] W fun e w'=>e=.returned (.int .i64 0)∧W=w'))(FD:Hid (∀W,Calls Tryz.prog 203 #[.string d] W fun e w'=>e=.returned (.int .i64 0)∧W=w'))(h0:0<d.size)(hm:((d[0].toNat:Int) == 45)=false)(d0:(d.toList == [48])=false)(d1:(d.toList == [49])=false)(CN:Hid (∀W,Calls Tryz.prog 204 #[.string n] W fun e w'=>e=.returned (.int .i64 0)∧W=w'))(CD:Hid (∀W,Calls Tryz.prog 204 #[.string d] W fun e w'=>e=.returned (.int .i64 0)∧W=w'))(g:ByteArray)(HG:Hid (∀W,Calls Tryz.prog 205 #[.string n,.string d] W (zv5 W g)))(hg:(g.toList == [49])=false)(w:World)
 (HW:Hid (Calls Tryz.prog 202 #[.string s] w (zce w n d true))) :
 Calls Tryz.prog 178 #[.string s] w (zcm w 12):=by
 go_enter Tryz.func178,Tryz.ntmps178;go_wp2_with fail;refine HW.out.mono ?_;rintro e w1 ⟨rfl,b1⟩;have B:=Z9 b1;clear b1;go_wp2_with fail;refine(FN.out _).mono ?_;rintro e w' ⟨rfl,rfl⟩;go_wp2_with fail;refine(FD.out _).mono ?_;rintro e w' ⟨rfl,rfl⟩;go_wp2_with fail;refine(CN.out _).mono ?_;rintro e w' ⟨rfl,rfl⟩;go_wp2_with fail;refine(CD.out _).mono ?_;rintro e w' ⟨rfl,rfl⟩;go_wp2_with fail;refine(HG.out _).mono ?_;rintro e w4 ⟨rfl,b4⟩;have B4:=Z9 (B.out.trans (b4.mono B.out.size));clear b4;go_wp2_with fail;go_ret;exact⟨rfl,B4.out⟩
theorem z8w(s n d:ByteArray)(FN:Hid (∀W,Calls Tryz.prog 203 #[.string n] W fun e w'=>e=.returned (.int .i64 0)∧W=w'))(FD:Hid (∀W,Calls Tryz.prog 203 #[.string d] W fun e w'=>e=.returned (.int .i64 0)∧W=w'))(h0:0<d.size)(hm:((d[0].toNat:Int) == 45)=false)(d0:(d.toList == [48])=false)(d1:(d.toList == [49])=false)(CN:Hid (∀W,Calls Tryz.prog 204 #[.string n] W fun e w'=>e=.returned (.int .i64 0)∧W=w'))(CD:Hid (∀W,Calls Tryz.prog 204 #[.string d] W fun e w'=>e=.returned (.int .i64 0)∧W=w'))(g:ByteArray)(HG:Hid (∀W,Calls Tryz.prog 205 #[.string n,.string d] W (zv5 W g)))(hg:(g.toList == [49])=true)(w:World)
 (HW:Hid (Calls Tryz.prog 202 #[.string s] w (zce w n d true))) :
 Calls Tryz.prog 178 #[.string s] w (zcm w 0):=by
 go_enter Tryz.func178,Tryz.ntmps178;go_wp2_with fail;refine HW.out.mono ?_;rintro e w1 ⟨rfl,b1⟩;have B:=Z9 b1;clear b1;go_wp2_with fail;refine(FN.out _).mono ?_;rintro e w' ⟨rfl,rfl⟩;go_wp2_with fail;refine(FD.out _).mono ?_;rintro e w' ⟨rfl,rfl⟩;go_wp2_with fail;refine(CN.out _).mono ?_;rintro e w' ⟨rfl,rfl⟩;go_wp2_with fail;refine(CD.out _).mono ?_;rintro e w' ⟨rfl,rfl⟩;go_wp2_with fail;refine(HG.out _).mono ?_;rintro e w4 ⟨rfl,b4⟩;have B4:=Z9 (B.out.trans (b4.mono B.out.size));clear b4;go_wp2_with fail;go_ret;exact⟨rfl,B4.out⟩
theorem zhu(s:ByteArray)(n:Int)(h:frmZ s.data.toList=n)(hs:s.size≤1000000) :
 ∀W,Calls Tryz.prog 203 #[.string s] W fun e w'=>e=.returned (.int .i64 n)∧W=w':=fun W=>by
 have:=z4m s W hs
 rwa [h]at this
theorem zhf(s:ByteArray)(n:Int)(h:chkZ s.data.toList=n)(hs:s.size≤1000000) :
 ∀W,Calls Tryz.prog 204 #[.string s] W fun e w'=>e=.returned (.int .i64 n)∧W=w':=fun W=>by
 have:=zhe s W hs
 rwa [h]at this
theorem zrs{l:List UInt8}(h:chkZ l=12):frmZ l=12:=by unfold frmZ;rw[if_pos h]
theorem ztn{l:List UInt8}(h:chkZ l≠12):frmZ l=0:=by unfold frmZ;rw[if_neg h]
theorem z28(s:ByteArray)(w:World)(hs:s.size≤100000)(h:slN s.data.toList=s.data.toList.length) :
 Calls Tryz.prog 178 #[.string s] w (zcm w (chkR s.data.toList)):=by
 have HW:Hid (Calls Tryz.prog 202 #[.string s] w (zce w s ByteArray.empty false)):=zsw _ _ _ _ w (z7h _ _ _ _ w (zxj s w h));rw[zj4 h]
 rcases zmt s.data.toList with e |e |e<;>rw[e]
 ·exact ydk s s _ (zhu s 0 (ztn (by omega)) (by omega)) (zhf s 0 e (by omega)) w HW
 ·exact qc_n s s _ _ (zhu s 12 (zrs e) (by omega)) w HW
 ·exact ybz s s _ (zhu s 0 (ztn (by omega)) (by omega)) (zhf s 14 e (by omega)) w HW
theorem zx1(s:ByteArray)(k:Nat)(w:World)(hs:s.size≤100000)(h:slN s.data.toList=k)(hk:k<s.size) :
 Calls Tryz.prog 178 #[.string s] w (zcm w (chkR s.data.toList)):=by
 rw[zli h (by rw[zab];exact hk)];have HW0:Calls Tryz.prog 202 #[.string s] w (zce w (s.extract 0 k) (s.extract (k+1) s.size) true):=zsw _ _ _ _ w (z7h _ _ _ _ w (z8q s k w (by omega) h hk));obtain⟨n,hn⟩:∃n,n=s.extract 0 k:=⟨_,rfl⟩
 obtain⟨d,hd⟩:∃d,d=s.extract (k+1) s.size:=⟨_,rfl⟩
 rw[←hn,←hd]at HW0;have en:s.data.toList.take k=n.data.toList:=by rw[hn,Lib.extract_data];simp
 have ed:s.data.toList.drop (k+1)=d.data.toList:=by rw[hd,Lib.extract_to_end]
 rw[en,ed];have sn:n.size≤100000:=by rw[hn];simp;omega
 have sd:d.size≤100000:=by rw[hd];simp;omega
 have HW:=Z9 HW0;clear HW0 hn hd en ed h hk
 by_cases n12:chkZ n.data.toList=12
 ·rw[zi9 (.inl n12)]
  exact qc_n s n d _ (zhu n 12 (zrs n12) (by omega)) w HW
 have FN:=Z9 (zhu n 0 (ztn n12) (by omega))
 by_cases d12:chkZ d.data.toList=12
 ·rw[zi9 (.inr (.inl d12))]
  exact qc_d s n d FN (zhu d 12 (zrs d12) (by omega)) w HW
 have FD:=Z9 (zhu d 0 (ztn d12) (by omega))
 have h0:0<d.size:=by
  rcases Nat.eq_zero_or_pos d.size with e |e
  ·refine absurd ?_ d12
   have:d.data.toList=[]:=List.eq_nil_of_length_eq_zero (by rw[zab];exact e);rw[this]
   rcases zec []with h |⟨z,_,h,_⟩
   ·exact h.1
   ·unfold txtZ at h
    split at h
    ·cases h
    ·exact absurd h.symm (zgb _)
  ·exact e
 cases hm:((d[0].toNat:Int) == 45)with
 |true =>
  rw[zi9 (.inr (.inr (.inl (znw h0 (n:=45) (by omega) hm))))];exact qc_m s n d FN FD h0 hm w HW
 |false =>
  have hm':=zj1 h0 (n:=45) (by omega) hm
  cases d0:(d.toList == [48])with
  |true =>
   rw[zi9 (.inr (.inr (.inr (.inl (by rw[zag]at d0;simpa using d0)))))];exact qc_0 s n d FN FD h0 hm d0 w HW
  |false =>
   cases d1:(d.toList == [49])with
   |true =>
    rw[zi9 (.inr (.inr (.inr (.inr (by rw[zag]at d1;simpa using d1)))))];exact qc_1 s n d FN FD h0 hm d0 d1 w HW
   |false =>
    have d0':d.data.toList≠[48]:=by rw[zag]at d0;simpa using d0
    have d1':d.data.toList≠[49]:=by rw[zag]at d1;simpa using d1
    rcases zec n.data.toList with⟨e,_⟩ |⟨x,_,n2,n3⟩
    ·exact absurd e n12
    rcases zec d.data.toList with⟨e,_⟩ |⟨y,_,d2,d3⟩
    ·exact absurd e d12
    have ef:chkF n.data.toList d.data.toList=if bigZ x=true∨bigZ y=true then 14 else if Nat.gcd x.natAbs y.natAbs=1 then 0 else 12:=by
     rw[n2,d2];exact zlj x y (by rw[d2]at hm';have:=mt (zh3 y).2 hm';omega) (by rw[←d2];exact d0') (by rw[←d2];exact d1')
    rw[ef]
    cases bx:bigZ x with
    |true =>
     rw[bx,if_pos rfl]at n3;rw[if_pos (.inl rfl)];exact ydm s n d FN FD h0 hm d0 d1 (zhf n 14 n3 (by omega)) w HW
    |false =>
     rw[bx,if_neg (by simp)]at n3;have CN:=Z9 (zhf n 0 n3 (by omega))
     cases bb:bigZ y with
     |true =>
      rw[bb,if_pos rfl]at d3;rw[if_pos (.inr rfl)];exact ydl s n d FN FD h0 hm d0 d1 CN (zhf d 14 d3 (by omega)) w HW
     |false =>
      rw[bb,if_neg (by simp)]at d3;have CD:=Z9 (zhf d 0 d3 (by omega));rw[if_neg (by simp)]
      have HG:Hid (∀W,Calls Tryz.prog 205 #[.string n,.string d] W (zv5 W ⟨(txtZ (Nat.gcd x.natAbs y.natAbs:Int)).toArray⟩)):=fun W=>ztm n d x y W sn sd n2 d2 bx bb
      by_cases hg:Nat.gcd x.natAbs y.natAbs=1
      ·rw[if_pos hg]
       exact z8w s n d FN FD h0 hm d0 d1 CN CD _ HG (by rw[zag,hg];show((txtZ ((1:Nat):Int)) == [49])=true;rw[(zsh 1).2 rfl];rfl) w HW
      ·rw[if_neg hg]
       exact yb0 s n d FN FD h0 hm d0 d1 CN CD _ HG (by rw[zag];exact list_beq.2 (fun h=>hg ((zsh _).1 h))) w HW
theorem zs4(s:ByteArray)(w:World)(hs:s.size≤100000) :
 Calls Tryz.prog 178 #[.string s] w (zcm w (chkR s.data.toList)):=by
 by_cases h:slN s.data.toList<s.size
 ·exact zx1 s _ w hs rfl h
 ·exact z28 s w hs (by have:=z61 s.data.toList;rw[zab]at this ⊢;omega)
def zjl(y:Nat):Bool:=decide (y % 4=0∧(y % 100≠0∨y % 400=0))
def zb8(y m:Nat):Nat:=if m=4∨m=6∨m=9∨m=11 then 30 else if m=2 then(if zjl y=true then 29 else 28)else 31
theorem zg5(y m:Nat):zb8 y m≤31:=by unfold zb8;split<;>(try split)<;>(try split)<;>omega
def zf7(y:Nat):Nat:=y / 4-y / 100+y / 400
def yd(y:Nat):Nat:=365*(y-1900)+(zf7 (y-1)-460)
theorem zml(y:Nat):zf7 (y+1)=zf7 y+if zjl (y+1)=true then 1 else 0:=by
 unfold zf7 zjl;simp only[decide_eq_true_eq]
 split<;>omega
theorem ztk{y:Nat}(_h:1899≤y):460≤zf7 y:=by
 induction y with
 |zero=>omega
 |succ y ih =>
  rcases Nat.lt_or_ge y 1899 with h' |h'
  ·have:y=1898:=by omega
   subst this;decide
  ·have:=ih h';have:=zml y;omega
theorem zqi{y:Nat}(h:1900≤y):yd (y+1)=yd y+365+if zjl y=true then 1 else 0:=by
 obtain⟨k,rfl⟩:∃k,y=k+1:=⟨y-1,by omega⟩
 have:=ztk (y:=k) (by omega);unfold yd;simp only[Nat.add_sub_cancel];rw[zml k]
 split<;>omega
theorem ya9{y:Nat}(_h:1900≤y):365*(y-1900)≤yd y:=by unfold yd;omega
theorem zm1{a b:Nat}(h:1900≤a)(SR:a≤b):yd a≤yd b:=by
 induction b with
 |zero=>omega
 |succ b ih =>
  rcases Nat.lt_or_ge b a with h' |h'
  ·have:a=b+1:=by omega
   subst this;exact Nat.le_refl _
  ·have:=ih h';have:=zqi (y:=b) (by omega);omega
def mdR(y:Nat):Nat→Nat
 |0=>0
 |m+1=>mdR y m+zb8 y (m+1)
theorem zif(y:Nat){a b:Nat}(h:a≤b):mdR y a≤mdR y b:=by
 induction b with
 |zero =>
  have:a=0:=by omega
  subst this;exact Nat.le_refl _
 |succ b ih =>
  rcases Nat.lt_or_ge b a with h' |h'
  ·have:a=b+1:=by omega
   subst this;exact Nat.le_refl _
  ·have:=ih h';show _≤mdR y b+_;omega
theorem zy2(y:Nat):mdR y 12=365+if zjl y=true then 1 else 0:=by
 have e:∀m,zb8 y m=if m=4∨m=6∨m=9∨m=11 then 30 else if m=2 then(if zjl y=true then 29 else 28)else 31:=fun m=>rfl
 simp only[mdR];simp only[e]
 cases zjl y<;>simp
theorem zqh{y:Nat}(h:1900≤y):yd (y+1)=yd y+mdR y 12:=by rw[zqi h,zy2];omega
def DateIs(day y m d:Nat):Prop:=1900≤y∧1≤m∧m≤12∧1≤d∧d≤zb8 y m∧yd y+mdR y (m-1)+d=day+1
theorem DateIs.lt{day y m d:Nat}(h:DateIs day y m d):yd y≤day∧day<yd (y+1):=by
 obtain⟨h1,h2,h3,h4,h5,h6⟩:=h;obtain⟨k,rfl⟩:∃k,m=k+1:=⟨m-1,by omega⟩
 have a:=zif y (a:=k+1) (b:=12) h3;rw[zqh h1];simp only[Nat.add_sub_cancel]at h6;change mdR y k+zb8 y (k+1)≤_ at a;omega
theorem DateIs.small{day y m d:Nat}(h:DateIs day y m d)(hd:day≤99999):y≤2174∧d≤31:=by
 have a:=ya9 h.1;have b:=h.lt;have c:=zg5 y m;have e:=h.2.2.2.2.1;omega
def figB(n:Nat):Nat→List UInt8
 |0=>[]
 |k+1=>figB (n / 10) k ++ [UInt8.ofNat (48+n % 10)]
theorem zim(n k:Nat):(figB n k).length=k:=by
 induction k generalizing n with
 |zero=>rfl
 |succ k ih=>simp[figB,ih]
def zb4(y m d:Nat):List UInt8:=figB y 4 ++ [45] ++ figB m 2 ++ [45] ++ figB d 2
theorem zio(y m d:Nat):(zb4 y m d).length=10:=by simp[zb4,zim]
def letB(c:UInt8):Bool:=decide ((97≤c.toNat∧c.toNat≤122)∨(65≤c.toNat∧c.toNat≤90))
def othB(c:UInt8):Bool:=decide ((48≤c.toNat∧c.toNat≤57)∨c.toNat=95∨c.toNat=45)
def nmB(l:List UInt8):Bool:=decide (1≤l.length∧l.length≤40) && (match l.head? with |some c=>letB c |none=>false) && l.all fun c=>letB c ||othB c
theorem zyw{l:List UInt8}(h:l.length<1∨40<l.length):nmB l=false:=by
 unfold nmB;rw[show decide (1≤l.length∧l.length≤40)=false by simp;omega];rfl
theorem z3y{l:List UInt8}{c:UInt8}(h:l.head?=some c)(hc:letB c=false):nmB l=false:=by
 unfold nmB;rw[h];simp[hc]
theorem z9j{l:List UInt8}{c:UInt8}(h:c ∈ l)(h1:letB c=false)(h2:othB c=false):nmB l=false:=by
 unfold nmB
 have:(l.all fun c=>letB c ||othB c)=false:=by
  rw[List.all_eq_false];exact⟨c,h,by simp[h1,h2]⟩
 rw[this];simp
theorem z67{l:List UInt8}{c:UInt8}(h1:1≤l.length)(h2:l.length≤40)(h:l.head?=some c)(hc:letB c=true)(ha:∀x ∈ l,(letB x ||othB x)=true):nmB l=true:=by
 unfold nmB;rw[h];simp only[hc,Bool.and_true,Bool.and_eq_true,decide_eq_true_eq,List.all_eq_true];exact⟨⟨h1,h2⟩,ha⟩
theorem z94{c:UInt8}(h:c.toNat<65):letB c=false:=by unfold letB;simp;omega
theorem z4a{c:UInt8}(h:65≤c.toNat)(h2:c.toNat≤90):letB c=true:=by unfold letB;simp;omega
theorem z39{c:UInt8}(h:90<c.toNat)(h2:c.toNat<97):letB c=false:=by unfold letB;simp;omega
theorem zu9{c:UInt8}(h:97≤c.toNat)(h2:c.toNat≤122):letB c=true:=by unfold letB;simp;omega
theorem z95{c:UInt8}(h:122<c.toNat):letB c=false:=by unfold letB;simp;omega
theorem zu8(c:UInt8)(w:World):Calls Tryz.prog 99 #[.int .u8 (c.toNat:Int)] w fun e w'=>e=.returned (.bool (letB c))∧w=w':=by
 have hc:c.toNat<65∨(65≤c.toNat∧c.toNat≤90)∨(90<c.toNat∧c.toNat<97)∨(97≤c.toNat∧c.toNat≤122)∨122<c.toNat:=by omega
 rcases hc with h |⟨h,h'⟩ |⟨h,h'⟩ |⟨h,h'⟩ |h
 ·rw[z94 h]
  go_enter Tryz.func99,Tryz.ntmps99;go_wp2;go_ret;exact⟨zdv (by first |rfl |(simp;omega)),rfl⟩
 ·rw[z4a h h']
  go_enter Tryz.func99,Tryz.ntmps99;go_wp2;go_ret;exact⟨zdv (by first |rfl |(simp;omega)),rfl⟩
 ·rw[z39 h h']
  go_enter Tryz.func99,Tryz.ntmps99;go_wp2;go_ret;exact⟨zdv (by first |rfl |(simp;omega)),rfl⟩
 ·rw[zu9 h h']
  go_enter Tryz.func99,Tryz.ntmps99;go_wp2;go_ret;exact⟨zdv (by first |rfl |(simp;omega)),rfl⟩
 ·rw[z95 h]
  go_enter Tryz.func99,Tryz.ntmps99;go_wp2;go_ret;exact⟨zdv (by first |rfl |(simp;omega)),rfl⟩
theorem zii{c:UInt8}{b:Bool}(h:letB c=b)(w:World):Calls Tryz.prog 99 #[.int .u8 (c.toNat:Int)] w fun e w'=>e=.returned (.bool b)∧w=w':=h ▸ zu8 c w
def NmR(s:ByteArray)(i:Value):Prop:=∃k:Nat,k≤s.size∧i=.int .i64 k∧∀c ∈ s.data.toList.take k,(letB c ||othB c)=true
theorem zyv(s:ByteArray):NmR s (.int .i64 0):=⟨0,Nat.zero_le _,rfl,by simp⟩
theorem zti(s:ByteArray)(k:Nat)(hk:k<s.size)(h:∀c ∈ s.data.toList.take k,(letB c ||othB c)=true)(h1:(letB s[k] ||othB s[k])=true) :
 ∀c ∈ s.data.toList.take (k+1),(letB c ||othB c)=true:=by
 rw[zep s k hk];intro c hc
 rcases List.mem_append.1 hc with hc |hc
 ·exact h c hc
 ·rw[List.mem_singleton.1 hc];exact h1
theorem zyy(s:ByteArray)(w:World)(h0:0<s.size)(h4:s.size≤40)(h1:letB s[0]=true) :
 Calls Tryz.prog 51 #[.string s] w fun e w'=>e=.returned (.bool (nmB s.data.toList))∧w=w':=by
 have HL:=Z9 (fun W=>zii h1 W)
 have HA:Hid ((∀x ∈ s.data.toList,(letB x ||othB x)=true)→nmB s.data.toList=true):=fun h=>z67 (by rw[zab];omega) (by rw[zab];omega) (zdi s h0) h1 h
 clear h1;go_enter Tryz.func51,Tryz.ntmps51;go_wp2_with fail;refine(HL.out _).mono ?_;rintro e w' ⟨rfl,rfl⟩;go_wp2_with fail;go_loop [21] (fun i=>NmR s i) (fun i=>s.size-(intOf i).toNat)
 case atStart=>exact zyv s
 case round =>
  obtain⟨k,hk,rfl,hd⟩:=hrel;have HD:=Z9 hd;clear hd HL
  by_cases Z4:k<s.size
  ·cases hb:letB s[k]with
   |true =>
    have HN:=Z9 (zti s k Z4 HD.out (by rw[hb];rfl));have HB:=Z9 (fun W=>zii hb W);clear hb HA HD;go_wp2_with fail;refine(HB.out _).mono ?_;rintro e w' ⟨rfl,rfl⟩;go_wp2_with fail;go_round
    case rel=>exact⟨k+1,by omega,by go_num,HN.out⟩
    case measure=>simp[intOf];omega
   |false =>
    have HB:=Z9 (fun W=>zii hb W)
    cases ho:othB s[k]with
    |true =>
     have HN:=Z9 (zti s k Z4 HD.out (by rw[ho];simp));have hc:(48≤s[k].toNat∧s[k].toNat≤57)∨(95≤s[k].toNat∧s[k].toNat≤95)∨(45≤s[k].toNat∧s[k].toNat≤45):=by unfold othB at ho;simp at ho;omega
     clear hb ho HA HD
     rcases hc with⟨c1,c2⟩ |⟨c1,c2⟩ |⟨c1,c2⟩
     ·have p48:(decide ((s[k].toNat:Int)<48))=false:=by simp;omega
      have p57:(decide ((57:Int)<(s[k].toNat:Int)))=false:=by simp;omega
      have e95:((s[k].toNat:Int) != 95)=true:=by simp;omega
      have e45:((s[k].toNat:Int) != 45)=true:=by simp;omega
      clear c1 c2;go_wp2_with fail;refine(HB.out _).mono ?_;rintro e w' ⟨rfl,rfl⟩;go_wp2;go_round
      case rel=>exact⟨k+1,by omega,by go_num,HN.out⟩
      case measure=>simp[intOf];omega
     ·have p48:(decide ((s[k].toNat:Int)<48))=false:=by simp;omega
      have p57:(decide ((57:Int)<(s[k].toNat:Int)))=true:=by simp;omega
      have e95:((s[k].toNat:Int) != 95)=false:=by simp;omega
      have e45:((s[k].toNat:Int) != 45)=true:=by simp;omega
      clear c1 c2;go_wp2_with fail;refine(HB.out _).mono ?_;rintro e w' ⟨rfl,rfl⟩;go_wp2;go_round
      case rel=>exact⟨k+1,by omega,by go_num,HN.out⟩
      case measure=>simp[intOf];omega
     ·have p48:(decide ((s[k].toNat:Int)<48))=true:=by simp;omega
      have p57:(decide ((57:Int)<(s[k].toNat:Int)))=false:=by simp;omega
      have e95:((s[k].toNat:Int) != 95)=true:=by simp;omega
      have e45:((s[k].toNat:Int) != 45)=false:=by simp;omega
      clear c1 c2;go_wp2_with fail;refine(HB.out _).mono ?_;rintro e w' ⟨rfl,rfl⟩;go_wp2;go_round
      case rel=>exact⟨k+1,by omega,by go_num,HN.out⟩
      case measure=>simp[intOf];omega
    |false =>
     have e4:=Z9 (z9j (zhd s k Z4) hb ho)
     have hc:(0≤s[k].toNat∧s[k].toNat≤44)∨(46≤s[k].toNat∧s[k].toNat≤47)∨(58≤s[k].toNat∧s[k].toNat≤94)∨(96≤s[k].toNat∧s[k].toNat≤255):=by
      have:=s[k].toNat_lt;unfold othB at ho;simp at ho;omega
     clear hb ho HA HD
     rcases hc with⟨c1,c2⟩ |⟨c1,c2⟩ |⟨c1,c2⟩ |⟨c1,c2⟩
     ·have p48:(decide ((s[k].toNat:Int)<48))=true:=by simp;omega
      have p57:(decide ((57:Int)<(s[k].toNat:Int)))=false:=by simp;omega
      have e95:((s[k].toNat:Int) != 95)=true:=by simp;omega
      have e45:((s[k].toNat:Int) != 45)=true:=by simp;omega
      clear c1 c2;go_wp2_with fail;refine(HB.out _).mono ?_;rintro e w' ⟨rfl,rfl⟩;go_wp2;go_ret;exact⟨zdv e4.out.symm,rfl⟩
     ·have p48:(decide ((s[k].toNat:Int)<48))=true:=by simp;omega
      have p57:(decide ((57:Int)<(s[k].toNat:Int)))=false:=by simp;omega
      have e95:((s[k].toNat:Int) != 95)=true:=by simp;omega
      have e45:((s[k].toNat:Int) != 45)=true:=by simp;omega
      clear c1 c2;go_wp2_with fail;refine(HB.out _).mono ?_;rintro e w' ⟨rfl,rfl⟩;go_wp2;go_ret;exact⟨zdv e4.out.symm,rfl⟩
     ·have p48:(decide ((s[k].toNat:Int)<48))=false:=by simp;omega
      have p57:(decide ((57:Int)<(s[k].toNat:Int)))=true:=by simp;omega
      have e95:((s[k].toNat:Int) != 95)=true:=by simp;omega
      have e45:((s[k].toNat:Int) != 45)=true:=by simp;omega
      clear c1 c2;go_wp2_with fail;refine(HB.out _).mono ?_;rintro e w' ⟨rfl,rfl⟩;go_wp2;go_ret;exact⟨zdv e4.out.symm,rfl⟩
     ·have p48:(decide ((s[k].toNat:Int)<48))=false:=by simp;omega
      have p57:(decide ((57:Int)<(s[k].toNat:Int)))=true:=by simp;omega
      have e95:((s[k].toNat:Int) != 95)=true:=by simp;omega
      have e45:((s[k].toNat:Int) != 45)=true:=by simp;omega
      clear c1 c2;go_wp2_with fail;refine(HB.out _).mono ?_;rintro e w' ⟨rfl,rfl⟩;go_wp2;go_ret;exact⟨zdv e4.out.symm,rfl⟩
  ·have e4:=Z9 (HA.out (by
    have:=HD.out
    rwa [List.take_of_length_le (by rw[zab];omega)]at this))
   clear HA HD;go_wp2;go_ret;exact⟨zdv e4.out.symm,rfl⟩
theorem zie(s:ByteArray)(w:World) :
 Calls Tryz.prog 51 #[.string s] w fun e w'=>e=.returned (.bool (nmB s.data.toList))∧w=w':=by
 by_cases h0:s.size<1
 ·rw[zyw (.inl (by rw[zab];exact h0))]
  go_enter Tryz.func51,Tryz.ntmps51;go_wp2;go_ret;exact⟨rfl,rfl⟩
 by_cases h4:40<s.size
 ·rw[zyw (.inr (by rw[zab];exact h4))]
  go_enter Tryz.func51,Tryz.ntmps51;go_wp2;go_ret;exact⟨rfl,rfl⟩
 have h0':0<s.size:=by omega
 have h4':s.size≤40:=by omega
 clear h0 h4
 cases h1:letB (s[0]'h0')with
 |true=>exact zyy s w h0' h4' h1
 |false =>
  rw[z3y (zdi s h0') h1];have HL:=Z9 (fun W=>zii h1 W);clear h1;go_enter Tryz.func51,Tryz.ntmps51;go_wp2_with fail;refine(HL.out _).mono ?_;rintro e w' ⟨rfl,rfl⟩;go_wp2_with fail;go_ret;exact⟨rfl,rfl⟩
def shpL(k:Int):Option (List Int × Int) :=
 if k=4∨k=5∨k=6∨k=7∨k=8 then some ([1,1],1)else if k=9 then some ([2,1,1],1)else if k=11∨k=12 then some ([1,1],2)else if k=13∨k=14 then some ([2,2],2)else if k=15 then some ([2],2)else none
def zsa(r n:ByteArray)(d:Int):Bool:=r.data.toList.isEmpty && n.data.toList.isEmpty && d == 0
def zel(k:Int)(r n:ByteArray)(d:Int):Int :=
 if k=1 then(if n.data.toList.isEmpty=true∧d=0∧chkR r.data.toList=0 then 1 else 0)
 else if k=2 then(if r.data.toList.isEmpty=true∧nmB n.data.toList=true∧0≤d∧d≤99999 then 1 else 0)
 else if k=3 then(if r.data.toList.isEmpty=true∧nmB n.data.toList=true∧d=0 then 1 else 0)
 else 0
def srtP(k:Int)(r n:ByteArray)(d:Int)(l:List Int):Int :=
 match shpL k with
 |some (ps,own)=>if zsa r n d=true∧l=ps then own else 0
 |none=>if l=[]then zel k r n d else 0
def Ex.srt:Ex→Int
 | .mk k r n d l=>srtP k r n d (l.attach.map fun x=>x.1.srt)
termination_by x=>SizeOf.sizeOf x
decreasing_by
 have:=List.sizeOf_lt_of_mem x.2;simp only[Ex.mk.sizeOf_spec];omega
theorem Ex.srt_is(x:Ex):x.srt=srtP x.kind x.rat x.name x.date (x.sub.map Ex.srt):=by
 cases x with
 |mk k r n d l =>
  rw[Ex.srt]
  show _=srtP k r n d (l.map Ex.srt)
  rw[show(l.attach.map fun x=>x.1.srt)=l.map Ex.srt from List.attach_map_val (l:=l) (f:=Ex.srt)]
theorem z2g{k:Int}{ps:List Int}{own:Int}(h:shpL k=some (ps,own)):(∀p ∈ ps,p≠0)∧ps.length≤3:=by
 unfold shpL at h
 (repeat' split at h)<;>simp at h<;>obtain⟨rfl,_⟩:=h<;>simp
def ExOn(S:Nat→Prop):Nat→World→List Value→Ex→Prop
 |0,_,_,_=>False
 |n+1,w,cs,x=>∃a len cap,cs=[.int .u8 x.kind,.string x.rat,.string x.name,.int .i64 x.date,.slice a len cap]∧x.sub.length=len ∧
  (len=0∨∃g,a=some ⟨g,0,none⟩∧S g∧∀i (hi:i<x.sub.length),∃cs',(∀j,j<5→w.cell? ⟨g,i*5+j,none⟩=cs'[j]?)∧ExOn S n w cs' x.sub[i])
theorem ExOn.mono{S S':Nat→Prop}(hS:∀g,S g→S' g):∀{n:Nat}{w:World}{cs:List Value}{x:Ex},ExOn S n w cs x→ExOn S' n w cs x
 |0,_,_,_,h=>h
 |n+1,w,cs,x,⟨a,len,cap,h1,h2,h3⟩=>⟨a,len,cap,h1,h2,h3.imp id fun⟨g,ha,hg,hi⟩=>⟨g,ha,hS g hg,fun i h=>by
  obtain⟨cs',hc,hx⟩:=hi i h
  exact⟨cs',hc,ExOn.mono hS hx⟩⟩⟩
theorem ExOn.keep{S:Nat→Prop}{w w':World}(hw:∀g,S g→w'.heap[g]?=w.heap[g]?):∀{n:Nat}{cs:List Value}{x:Ex},ExOn S n w cs x→ExOn S n w' cs x
 |0,_,_,h=>h
 |n+1,cs,x,⟨a,len,cap,h1,h2,h3⟩=>⟨a,len,cap,h1,h2,h3.imp id fun⟨g,ha,hg,hi⟩=>⟨g,ha,hg,fun i h=>by
  obtain⟨cs',hc,hx⟩:=hi i h
  exact⟨cs',fun j hj=>(World.cell?_of_block (w:=w) (w':=w') (a:=⟨g,i*5+j,none⟩) (hw g hg)).trans (hc j hj),ExOn.keep hw hx⟩⟩⟩
theorem ExOn.at{S:Nat→Prop}{w:World}(hS:∀g,S g→g<w.heap.size):∀{n:Nat}{cs:List Value}{x:Ex},ExOn S n w cs x→ExAt n w cs x
 |0,_,_,h=>h
 |n+1,cs,x,⟨a,len,cap,h1,h2,h3⟩=>⟨a,len,cap,h1,h2,h3.imp id fun⟨g,ha,hg,hi⟩=>⟨g,0,ha,hS g hg,fun i h=>by
  obtain⟨cs',hc,hx⟩:=hi i h
  exact⟨cs',fun j hj=>by rw[Nat.zero_add];exact hc j hj,ExOn.at hS hx⟩⟩⟩
theorem ExOn.shape{S:Nat→Prop}:∀{n:Nat}{w:World}{cs:List Value}{x:Ex},ExOn S n w cs x→∃a len cap,cs=[.int .u8 x.kind,.string x.rat,.string x.name,.int .i64 x.date,.slice a len cap]
 |0,_,_,_,h=>h.elim
 |_+1,_,_,_,⟨a,len,cap,h1,_,_⟩=>⟨a,len,cap,h1⟩
def zv7:Value:=.agg #[.int .u8 0,.string ⟨#[]⟩,.string ⟨#[]⟩,.int .i64 0,.slice none 0 0]
theorem ycn:(Tryz.prog.info? 25).map (fun i=>(i.zero,i.size,i.bytes))=some (some zv7,5,72):=by kernel_rfl
def TwR(n B:Nat)(l:List Ex)(k:Nat)(v:Value)(xs:List Value)(wr:World):Prop :=
 ∃css:List (List Value),css.flatten=xs∧css.length=k∧(∀c ∈ css,c.length=5)∧wr.ownsRow B 25 5 v k xs ∧
  ∀i (h:i<css.length) (h2:i<l.length),ExOn (fun g=>B≤g∧g<wr.heap.size∧v.ownBlock≠some g) n wr css[i] l[i]
theorem TwR.nil(n B:Nat)(l:List Ex)(wr:World):TwR n B l 0 (.slice none 0 0) [] wr :=
 ⟨[],rfl,rfl,by simp,⟨by simp,.inl ⟨rfl,rfl⟩⟩,fun i h=>absurd h (Nat.not_lt_zero _)⟩
theorem TwR.set{n B:Nat}{l:List Ex}{k:Nat}{v:Value}{xs:List Value}{w1:World}(h:TwR n B l k v xs w1){p:Addr}(hp:p.block<B)(u:Value):TwR n B l k v xs (w1.setCell p u):=by
 obtain⟨css,h0,h1,h2,h3,h4⟩:=h;refine⟨css,h0,h1,h2,ownsRow_setCell_below h3 hp u,fun i hi XJ=>((h4 i hi XJ).keep (w':=w1.setCell p u) fun g ⟨g1,_,_⟩=>Below.heap_setCell _ _ _ _ (by omega)).mono fun g ⟨g1,g2,g3⟩=>⟨g1,by simpa[World.setCell]using g2,g3⟩⟩
theorem TwR.snoc{n B:Nat}{l:List Ex}{k:Nat}{v v':Value}{xs:List Value}{w1 w2 w3:World}{y:Ex}{cs:List Value}(h:TwR n B l k v xs w1)(hk:k<l.length)(hy:y=l[k])(hB:B≤w1.heap.size)
 (hb:Below w1.heap.size w1 w2) (hx:ExOn (fun g=>w1.heap.size≤g∧g<w2.heap.size) n w2 cs y) (hg:w2.grownBy w3 v.ownBlock) (hv:v'.ownBlock=v.ownBlock∨v'.ownBlock=some w2.heap.size)
 (ZL:w3.ownsRow B 25 5 v' (k+1) (xs ++ cs)):TwR n B l (k+1) v' (xs ++ cs) w3:=by
 obtain⟨css,h0,h1,h2,h3,h4⟩:=h
 have hvl:∀g,v.ownBlock=some g→g<w1.heap.size:=fun g e=>(h3.lt g e).2
 have hn:∀g,(v'.ownBlock=some g)→g<w2.heap.size→v.ownBlock=some g:=fun g e hl=>by
  rcases hv with hv |hv
  ·rw[←hv];exact e
  ·rw[hv]at e;injection e with e;omega
 obtain⟨a,len,cap,YG⟩:=hx.shape;refine⟨css ++ [cs],by rw[List.flatten_append,List.flatten_singleton,h0],by simp[h1],fun c hc => ?_,ZL,fun i hi XJ => ?_⟩
 ·rcases List.mem_append.1 hc with hc |hc
  ·exact h2 c hc
  ·rw[List.mem_singleton.1 hc,YG];rfl
 ·by_cases VO:i<css.length
  ·have e1:(css ++ [cs])[i]=css[i]:=List.getElem_append_left VO
   rw[e1]
   refine((h4 i VO XJ).keep (w':=w3) fun g ⟨_,g2,g3⟩ => ?_).mono fun g ⟨g1,g2,g3⟩=>⟨g1,Nat.lt_of_lt_of_le g2 (Nat.le_trans hb.size hg.size),fun e=>g3 (hn g e (Nat.lt_of_lt_of_le g2 hb.size))⟩
   rw[hg.block g (Nat.lt_of_lt_of_le g2 hb.size) (fun e=>g3 e.symm),hb.block g g2]
  ·have hie:i=k:=by simp at hi;omega
   subst hie;have e1:(css ++ [cs])[i]'hi=cs:=by rw[List.getElem_append_right (by omega)];simp
   rw[e1,←hy]
   refine(hx.keep (w':=w3) fun g ⟨g1,g2⟩ => ?_).mono fun g ⟨g1,g2⟩=>⟨by omega,Nat.lt_of_lt_of_le g2 hg.size,fun e=>by have:=hvl g (hn g e g2);omega⟩
   exact hg.block g g2 (fun e=>by have:=hvl g e.symm;omega)
theorem TwR.owns{n B:Nat}{l:List Ex}{k:Nat}{v:Value}{xs:List Value}{w1:World}(h:TwR n B l k v xs w1):w1.ownsRow B 25 5 v k xs:=by
 obtain⟨_,_,_,_,h3,_⟩:=h;exact h3
theorem TwR.done{n B:Nat}{x:Ex}{k:Nat}{v:Value}{xs:List Value}{wr:World}(h:TwR n B x.sub k v xs wr)(hk:x.sub.length=k) :
 ∃a len cap,v=.slice a len cap∧ExOn (fun g=>B≤g∧g<wr.heap.size) (n+1) wr [.int .u8 x.kind,.string x.rat,.string x.name,.int .i64 x.date,.slice a len cap] x:=by
 obtain⟨css,h0,h1,h2,h3,h4⟩:=h
 rcases h3.2 with⟨rfl,h0⟩ |⟨g,cap,cur,rfl,hg,hc,Y6,hm,YG,ht⟩
 ·exact⟨none,0,0,rfl,none,0,0,rfl,by omega,.inl rfl⟩
 ·have V1:g<wr.heap.size:=(Z8 hc)
  refine⟨_,_,_,rfl,some ⟨g,0,none⟩,k,cap,rfl,hk,.inr ⟨g,rfl,⟨by omega,V1⟩,fun i hi=>⟨css[i],fun j hj => ?_,(h4 i (by omega) hi).mono fun g ⟨g1,g2,_⟩=>⟨g1,g2⟩⟩⟩⟩
  have hfl:∀(L:List (List Value)),(∀c ∈ L,c.length=5)→∀i (hi:i<L.length) j,j<5→L.flatten[i*5+j]?=L[i][j]?:=by
   intro L
   induction L with
   |nil=>intro _ i hi;exact absurd hi (Nat.not_lt_zero _)
   |cons c L ih =>
    intro hL i hi j hj;have hc5:c.length=5:=hL c (List.mem_cons_self ..);rw[List.flatten_cons]
    match i,hi with
    |0,_=>rw[Nat.zero_mul,Nat.zero_add,List.getElem?_append_left (by omega)];rfl
    |i+1,hi =>
     rw[List.getElem?_append_right (by omega),show(i+1)*5+j-c.length=i*5+j by omega,ih (fun c hc=>hL c (List.mem_cons_of_mem _ hc)) i (by simpa using hi) j hj];rfl
  rw[←hfl css h2 i (by omega) j hj,h0,←ht,List.getElem?_take_of_lt (by
   have:i*5+j<k*5:=by omega
   exact this)]
  simp[World.cell?,hc]
theorem ybc{w1:World}{base:Nat}{v:Value}{k q:Nat}{xs:List Value}(h:w1.ownsRow base 25 5 v k xs)(hq:q<base):some q≠v.ownBlock:=fun e=>by
 have:=(h.lt q e.symm).1;omega
theorem ztb(k d:Int)(r n:ByteArray)(a:Option Addr)(l c:Nat):∀u ∈ [Value.int .u8 k,.string r,.string n,.int .i64 d,.slice a l c],u.oneCell'=true:=by
 intro u hu;simp only[List.mem_cons,List.not_mem_nil,or_false]at hu
 rcases hu with rfl |rfl |rfl |rfl |rfl<;>rfl
theorem z2b{k:Int}{r nm:ByteArray}{d:Int}{l:List Ex}(h:∃dd,SmX dd (Ex.mk k r nm d l)):(r.size≤2500∧nm.size≤200)∧∀y ∈ l,∃dd,SmX dd y:=by
 obtain⟨dd,h⟩:=h
 match dd,h with
 |_+1,⟨h1,h2,h3⟩=>exact⟨⟨h2,h1⟩,fun y hy=>⟨_,h3 y hy⟩⟩
theorem zne{k:Int}{r n:ByteArray}{d:Int}{l ps:List Int}{own:Int}(hs:shpL k=some (ps,own))(h:zsa r n d=false):srtP k r n d l=0:=by
 unfold srtP;rw[hs];simp[h]
theorem z60{k:Int}{r n:ByteArray}{d:Int}{l ps:List Int}{own:Int}(hs:shpL k=some (ps,own))(h:l≠ps):srtP k r n d l=0:=by
 unfold srtP;rw[hs];simp[h]
theorem z8g{k:Int}{r n:ByteArray}{d:Int}{l ps:List Int}{own:Int}(hs:shpL k=some (ps,own))(hb:zsa r n d=true)(h:l=ps):srtP k r n d l=own:=by
 unfold srtP;rw[hs];simp[h,hb]
theorem z19{k:Int}{r n:ByteArray}{d:Int}{l:List Int}(hs:shpL k=none)(h:l=[]):srtP k r n d l=zel k r n d:=by
 unfold srtP;rw[hs];simp[h]
theorem zqw{k:Int}{r n:ByteArray}{d:Int}{l:List Int}(hs:shpL k=none)(h:l≠[]):srtP k r n d l=0:=by
 unfold srtP;rw[hs];simp[h]
theorem z96{k:Int}(r n:ByteArray)(d:Int)(h1:k≠1)(h2:k≠2)(h3:k≠3):zel k r n d=0:=by
 unfold zel;rw[if_neg h1,if_neg h2,if_neg h3]
theorem zu4{l ps:List Int}{i:Nat}(h:l[i]?.getD 0≠ps[i]?.getD 0):l≠ps:=fun e=>h (by rw[e])
theorem zrh{l ps:List Int}(h:l.length≠ps.length):l≠ps:=fun e=>h (by rw[e])
theorem zfi{a b:Int}(h:a≠b):(a == b)=false:=by simpa using h
theorem znv{a b:Int}(h:a=b):(a == b)=true:=by simpa using h
def U8P(w:World)(v:Int)(e:Ending)(w':World):Prop:=e=.returned (.int .u8 v)∧Below w.heap.size w w'
theorem zq5(n:Int)(w:World):Calls Tryz.prog 179 #[.int .i64 n] w (fun e w'=>e=.returned (.bool (decide (0≤n) && decide (n≤99999)))∧w=w'):=by
 by_cases h0:0≤n
 ·by_cases h1:n≤99999
  ·have e:(decide (0≤n) && decide (n≤99999))=true:=by simp[h0,h1]
   rw[e];clear e;go_enter Tryz.func179,Tryz.ntmps179;go_wp2;go_ret;exact⟨rfl,rfl⟩
  ·have e:(decide (0≤n) && decide (n≤99999))=false:=by simp[h1]
   rw[e];clear e;go_enter Tryz.func179,Tryz.ntmps179;go_wp2;go_ret;exact⟨rfl,rfl⟩
 ·have e:(decide (0≤n) && decide (n≤99999))=false:=by simp[h0]
  have d0:decide (0≤n)=false:=by simpa using h0
  rw[e];clear e;go_enter Tryz.func179,Tryz.ntmps179;go_wp2;go_ret;exact⟨rfl,rfl⟩
def lfV(k:Int)(r n:ByteArray)(d:Int)(len:Nat):Int:=if len=0 then zel k r n d else 0
theorem ycg(r nm:ByteArray)(d:Int)(a:Option Addr)(len cap:Nat)(w:World)(hr:r.size≤2500) :
 Calls Tryz.prog 138 #[.agg #[.int .u8 1,.string r,.string nm,.int .i64 d,.slice a len cap]] w (U8P w (lfV 1 r nm d len)):=by
 obtain⟨bl,ql⟩:∃b,((len:Int) == 0)=b:=⟨_,rfl⟩
 obtain⟨br,qr⟩:∃b,r.toList.isEmpty=b:=⟨_,rfl⟩
 obtain⟨bn,qn⟩:∃b,nm.toList.isEmpty=b:=⟨_,rfl⟩
 obtain⟨bd,qd⟩:∃b,((d:Int) == 0)=b:=⟨_,rfl⟩
 have HQL:Hid (bl=true↔len=0):=by show bl=true↔_;rw[←ql];simp
 have HQR:Hid (r.data.toList.isEmpty=br):=by show _=br;rw[←qr,zag]
 have HQN:Hid (nm.data.toList.isEmpty=bn):=by show _=bn;rw[←qn,zag]
 have HQD:Hid (bd=true↔d=0):=by show bd=true↔_;rw[←qd];simp
 obtain⟨R,hR⟩:∃R,R=lfV 1 r nm d len:=⟨_,rfl⟩
 rw[←hR];have HRR:=Z9 hR
 have HCK:Hid (∀W,Calls Tryz.prog 178 #[.string r] W (zcm W (chkR r.data.toList))):=fun W=>zs4 r W (by omega)
 obtain⟨z,Uh⟩:∃z,z=chkR r.data.toList:=⟨_,rfl⟩
 rw[←Uh]at HCK;have HZZ:=Z9 Uh;clear Uh;clear hR;go_enter Tryz.func138,Tryz.ntmps138
 go_upto_region 1 with(fail)
 obtain⟨W0,Z7⟩:∃W0,W0=w.alloc (.cells #[.int .u8 1,.string r,.string nm,.int .i64 d,.slice a len cap] 25):=⟨_,rfl⟩
 have Z2:W0.heap[w.heap.size]?=some (.cells #[.int .u8 1,.string r,.string nm,.int .i64 d,.slice a len cap] 25):=by rw[Z7];exact heap_alloc_new w _
 have HB0:Hid (Below w.heap.size w W0):=by rw[Z7];exact zaa w _
 have hzW:w.heap.size<W0.heap.size:=(Z8 Z2);rw[←Z7];have HBX:=Z9 Z2;obtain⟨c0,c1,c2,c3,c4⟩:=zad Z2;clear Z7 Z2
 cases bl with
 |false =>
  have hln:len≠0:=fun h=>by have:=HQL.out.2 h;cases this
  have e:R=0:=by rw[HRR.out];simp[lfV,hln]
  clear hln;have E:=Z9 e;clear e;go_wp2_with fail;go_ret;exact⟨by rw[E.out];rfl,HB0.out⟩
 |true =>
  have HLV:Hid (R=zel 1 r nm d):=by
   have hln:len=0:=HQL.out.1 rfl
   show R=_
   rw[HRR.out];simp[lfV,hln]
  by_cases ZE:z=0
  ·have qz:((z:Int) == 0)=true:=znv ZE
   have HZ0:=Z9 ZE;clear ZE
   cases bn with
   |false =>
    have e:R=0:=by rw[HLV.out];simp[zel,HQN.out]
    have E:=Z9 e;clear e;go_wp2_with fail;refine(HCK.out _).mono ?_;rintro e w2 ⟨rfl,Z3⟩;have ZY:=Z9 (HB0.out.trans (Z3.mono HB0.out.size));obtain⟨d0,d1,d2,d3,d4⟩:=zad ((Z3.block _ hzW).trans HBX.out);clear Z3 c0 c1 c2 c3 c4;go_wp2_with fail;go_ret;exact⟨by rw[E.out];rfl,ZY.out⟩
   |true =>
    cases bd with
    |false =>
     have e:R=0:=by
      have hd:d≠0:=fun h=>by have:=HQD.out.2 h;cases this
      rw[HLV.out];simp[zel,hd]
     have E:=Z9 e;clear e;go_wp2_with fail;refine(HCK.out _).mono ?_;rintro e w2 ⟨rfl,Z3⟩;have ZY:=Z9 (HB0.out.trans (Z3.mono HB0.out.size));obtain⟨d0,d1,d2,d3,d4⟩:=zad ((Z3.block _ hzW).trans HBX.out);clear Z3 c0 c1 c2 c3 c4;go_wp2_with fail;go_ret;exact⟨by rw[E.out];rfl,ZY.out⟩
    |true =>
     have e:R=1:=by
      have hd:d=0:=HQD.out.1 rfl;rw[HLV.out];simp[zel,hd,HQN.out,←HZZ.out,HZ0.out]
     have E:=Z9 e;clear e;go_wp2_with fail;refine(HCK.out _).mono ?_;rintro e w2 ⟨rfl,Z3⟩;have ZY:=Z9 (HB0.out.trans (Z3.mono HB0.out.size));obtain⟨d0,d1,d2,d3,d4⟩:=zad ((Z3.block _ hzW).trans HBX.out);clear Z3 c0 c1 c2 c3 c4;go_wp2_with fail;go_ret;exact⟨by rw[E.out];rfl,ZY.out⟩
  ·have qz:((z:Int) == 0)=false:=zfi ZE
   have e:R=0:=by rw[HLV.out];simp[zel,←HZZ.out,ZE]
   clear ZE;have E:=Z9 e;clear e;go_wp2_with fail;refine(HCK.out _).mono ?_;rintro e w2 ⟨rfl,Z3⟩;have ZY:=Z9 (HB0.out.trans (Z3.mono HB0.out.size));obtain⟨d0,d1,d2,d3,d4⟩:=zad ((Z3.block _ hzW).trans HBX.out);clear Z3 c0 c1 c2 c3 c4;go_wp2_with fail;go_ret;exact⟨by rw[E.out];rfl,ZY.out⟩
theorem ycf(r nm:ByteArray)(d:Int)(a:Option Addr)(len cap:Nat)(w:World) :
 Calls Tryz.prog 138 #[.agg #[.int .u8 2,.string r,.string nm,.int .i64 d,.slice a len cap]] w (U8P w (lfV 2 r nm d len)):=by
 obtain⟨bl,ql⟩:∃b,((len:Int) == 0)=b:=⟨_,rfl⟩
 obtain⟨br,qr⟩:∃b,r.toList.isEmpty=b:=⟨_,rfl⟩
 obtain⟨bn,qn⟩:∃b,nm.toList.isEmpty=b:=⟨_,rfl⟩
 obtain⟨bd,qd⟩:∃b,((d:Int) == 0)=b:=⟨_,rfl⟩
 have HQL:Hid (bl=true↔len=0):=by show bl=true↔_;rw[←ql];simp
 have HQR:Hid (r.data.toList.isEmpty=br):=by show _=br;rw[←qr,zag]
 have HQN:Hid (nm.data.toList.isEmpty=bn):=by show _=bn;rw[←qn,zag]
 have HQD:Hid (bd=true↔d=0):=by show bd=true↔_;rw[←qd];simp
 obtain⟨R,hR⟩:∃R,R=lfV 2 r nm d len:=⟨_,rfl⟩
 rw[←hR];have HRR:=Z9 hR
 have Zd:Hid (∀W,Calls Tryz.prog 51 #[.string nm] W (fun e w'=>e=.returned (.bool (nmB nm.data.toList))∧W=w')):=fun W=>zie nm W
 obtain⟨nb,Zo⟩:∃z,z=nmB nm.data.toList:=⟨_,rfl⟩
 rw[←Zo]at Zd;have HNB:=Z9 Zo;clear Zo
 have Yx:Hid (∀W,Calls Tryz.prog 179 #[.int .i64 d] W (fun e w'=>e=.returned (.bool (decide (0≤d) && decide (d≤99999)))∧W=w')):=fun W=>zq5 d W
 obtain⟨db,VL⟩:∃z,z=(decide (0≤d) && decide (d≤99999)):=⟨_,rfl⟩
 rw[←VL]at Yx;have HDB:=Z9 VL;clear VL;clear hR;go_enter Tryz.func138,Tryz.ntmps138
 go_upto_region 1 with(fail)
 obtain⟨W0,Z7⟩:∃W0,W0=w.alloc (.cells #[.int .u8 2,.string r,.string nm,.int .i64 d,.slice a len cap] 25):=⟨_,rfl⟩
 have Z2:W0.heap[w.heap.size]?=some (.cells #[.int .u8 2,.string r,.string nm,.int .i64 d,.slice a len cap] 25):=by rw[Z7];exact heap_alloc_new w _
 have HB0:Hid (Below w.heap.size w W0):=by rw[Z7];exact zaa w _
 have hzW:w.heap.size<W0.heap.size:=(Z8 Z2);rw[←Z7];obtain⟨c0,c1,c2,c3,c4⟩:=zad Z2;clear Z7 Z2
 cases bl with
 |false =>
  have hln:len≠0:=fun h=>by have:=HQL.out.2 h;cases this
  have e:R=0:=by rw[HRR.out];simp[lfV,hln]
  clear hln;have E:=Z9 e;clear e;go_wp2_with fail;go_ret;exact⟨by rw[E.out];rfl,HB0.out⟩
 |true =>
  have HLV:Hid (R=zel 2 r nm d):=by
   have hln:len=0:=HQL.out.1 rfl
   show R=_
   rw[HRR.out];simp[lfV,hln]
  cases br with
  |false =>
   have e:R=0:=by rw[HLV.out];simp[zel,HQR.out]
   have E:=Z9 e;clear e;go_wp2_with fail;go_ret;exact⟨by rw[E.out];rfl,HB0.out⟩
  |true =>
   cases nb with
   |false =>
    have e:R=0:=by rw[HLV.out];simp[zel,←HNB.out]
    have E:=Z9 e;clear e;go_wp2_with fail;refine(Zd.out _).mono ?_;rintro e w2 ⟨rfl,rfl⟩;go_wp2_with fail;go_ret;exact⟨by rw[E.out];rfl,HB0.out⟩
   |true =>
    have e0:R=if db=true then 1 else 0:=by
     rw[HLV.out,HDB.out];simp[zel,HQR.out,←HNB.out]
    cases db with
    |false =>
     have e:R=0:=by rw[e0];rfl
     clear e0;have E:=Z9 e;clear e;go_wp2_with fail;refine(Zd.out _).mono ?_;rintro e w2 ⟨rfl,rfl⟩;go_wp2_with fail;refine(Yx.out _).mono ?_;rintro e w2 ⟨rfl,rfl⟩;go_wp2_with fail;go_ret;exact⟨by rw[E.out];rfl,HB0.out⟩
    |true =>
     have e:R=1:=by rw[e0];rfl
     clear e0;have E:=Z9 e;clear e;go_wp2_with fail;refine(Zd.out _).mono ?_;rintro e w2 ⟨rfl,rfl⟩;go_wp2_with fail;refine(Yx.out _).mono ?_;rintro e w2 ⟨rfl,rfl⟩;go_wp2_with fail;go_ret;exact⟨by rw[E.out];rfl,HB0.out⟩
theorem yce(r nm:ByteArray)(d:Int)(a:Option Addr)(len cap:Nat)(w:World) :
 Calls Tryz.prog 138 #[.agg #[.int .u8 3,.string r,.string nm,.int .i64 d,.slice a len cap]] w (U8P w (lfV 3 r nm d len)):=by
 obtain⟨bl,ql⟩:∃b,((len:Int) == 0)=b:=⟨_,rfl⟩
 obtain⟨br,qr⟩:∃b,r.toList.isEmpty=b:=⟨_,rfl⟩
 obtain⟨bn,qn⟩:∃b,nm.toList.isEmpty=b:=⟨_,rfl⟩
 obtain⟨bd,qd⟩:∃b,((d:Int) == 0)=b:=⟨_,rfl⟩
 have HQL:Hid (bl=true↔len=0):=by show bl=true↔_;rw[←ql];simp
 have HQR:Hid (r.data.toList.isEmpty=br):=by show _=br;rw[←qr,zag]
 have HQN:Hid (nm.data.toList.isEmpty=bn):=by show _=bn;rw[←qn,zag]
 have HQD:Hid (bd=true↔d=0):=by show bd=true↔_;rw[←qd];simp
 obtain⟨R,hR⟩:∃R,R=lfV 3 r nm d len:=⟨_,rfl⟩
 rw[←hR];have HRR:=Z9 hR
 have Zd:Hid (∀W,Calls Tryz.prog 51 #[.string nm] W (fun e w'=>e=.returned (.bool (nmB nm.data.toList))∧W=w')):=fun W=>zie nm W
 obtain⟨nb,Zo⟩:∃z,z=nmB nm.data.toList:=⟨_,rfl⟩
 rw[←Zo]at Zd;have HNB:=Z9 Zo;clear Zo;clear hR;go_enter Tryz.func138,Tryz.ntmps138
 go_upto_region 1 with(fail)
 obtain⟨W0,Z7⟩:∃W0,W0=w.alloc (.cells #[.int .u8 3,.string r,.string nm,.int .i64 d,.slice a len cap] 25):=⟨_,rfl⟩
 have Z2:W0.heap[w.heap.size]?=some (.cells #[.int .u8 3,.string r,.string nm,.int .i64 d,.slice a len cap] 25):=by rw[Z7];exact heap_alloc_new w _
 have HB0:Hid (Below w.heap.size w W0):=by rw[Z7];exact zaa w _
 have hzW:w.heap.size<W0.heap.size:=(Z8 Z2);rw[←Z7];obtain⟨c0,c1,c2,c3,c4⟩:=zad Z2;clear Z7 Z2
 cases bl with
 |false =>
  have hln:len≠0:=fun h=>by have:=HQL.out.2 h;cases this
  have e:R=0:=by rw[HRR.out];simp[lfV,hln]
  clear hln;have E:=Z9 e;clear e;go_wp2_with fail;go_ret;exact⟨by rw[E.out];rfl,HB0.out⟩
 |true =>
  have HLV:Hid (R=zel 3 r nm d):=by
   have hln:len=0:=HQL.out.1 rfl
   show R=_
   rw[HRR.out];simp[lfV,hln]
  cases br with
  |false =>
   have e:R=0:=by rw[HLV.out];simp[zel,HQR.out]
   have E:=Z9 e;clear e;go_wp2_with fail;go_ret;exact⟨by rw[E.out];rfl,HB0.out⟩
  |true =>
   cases nb with
   |false =>
    have e:R=0:=by rw[HLV.out];simp[zel,←HNB.out]
    have E:=Z9 e;clear e;go_wp2_with fail;refine(Zd.out _).mono ?_;rintro e w2 ⟨rfl,rfl⟩;go_wp2_with fail;go_ret;exact⟨by rw[E.out];rfl,HB0.out⟩
   |true =>
    cases bd with
    |false =>
     have e:R=0:=by
      have hd:d≠0:=fun h=>by have:=HQD.out.2 h;cases this
      rw[HLV.out];simp[zel,hd]
     have E:=Z9 e;clear e;go_wp2_with fail;refine(Zd.out _).mono ?_;rintro e w2 ⟨rfl,rfl⟩;go_wp2_with fail;go_ret;exact⟨by rw[E.out];rfl,HB0.out⟩
    |true =>
     have e:R=1:=by
      have hd:d=0:=HQD.out.1 rfl;rw[HLV.out];simp[zel,hd,HQR.out,←HNB.out]
     have E:=Z9 e;clear e;go_wp2_with fail;refine(Zd.out _).mono ?_;rintro e w2 ⟨rfl,rfl⟩;go_wp2_with fail;go_ret;exact⟨by rw[E.out];rfl,HB0.out⟩
theorem ycd(kd:Int)(h1:kd≠1)(h2:kd≠2)(h3:kd≠3)(r nm:ByteArray)(d:Int)(a:Option Addr)(len cap:Nat)(w:World) :
 Calls Tryz.prog 138 #[.agg #[.int .u8 kd,.string r,.string nm,.int .i64 d,.slice a len cap]] w (U8P w (lfV kd r nm d len)):=by
 obtain⟨bl,ql⟩:∃b,((len:Int) == 0)=b:=⟨_,rfl⟩
 obtain⟨br,qr⟩:∃b,r.toList.isEmpty=b:=⟨_,rfl⟩
 obtain⟨bn,qn⟩:∃b,nm.toList.isEmpty=b:=⟨_,rfl⟩
 obtain⟨bd,qd⟩:∃b,((d:Int) == 0)=b:=⟨_,rfl⟩
 obtain⟨R,hR⟩:∃R,R=lfV kd r nm d len:=⟨_,rfl⟩
 rw[←hR];have k1:((kd:Int) == 1)=false:=zfi h1;have k2:((kd:Int) == 2)=false:=zfi h2;have k3:((kd:Int) == 3)=false:=zfi h3;have e:R=0:=by rw[hR];unfold lfV;split;exact z96 r nm d h1 h2 h3;rfl
 clear h1 h2 h3;clear hR;go_enter Tryz.func138,Tryz.ntmps138
 go_upto_region 1 with(fail)
 obtain⟨W0,Z7⟩:∃W0,W0=w.alloc (.cells #[.int .u8 kd,.string r,.string nm,.int .i64 d,.slice a len cap] 25):=⟨_,rfl⟩
 have Z2:W0.heap[w.heap.size]?=some (.cells #[.int .u8 kd,.string r,.string nm,.int .i64 d,.slice a len cap] 25):=by rw[Z7];exact heap_alloc_new w _
 have HB0:Hid (Below w.heap.size w W0):=by rw[Z7];exact zaa w _
 have hzW:w.heap.size<W0.heap.size:=(Z8 Z2);rw[←Z7];obtain⟨c0,c1,c2,c3,c4⟩:=zad Z2;clear Z7 Z2;have E:=Z9 e;clear e;go_wp2_with fail;go_ret;exact⟨by rw[E.out];rfl,HB0.out⟩
theorem z4c(k:Int)(r nm:ByteArray)(d:Int)(a:Option Addr)(len cap:Nat)(w:World)(hr:r.size≤2500) :
 Calls Tryz.prog 138 #[.agg #[.int .u8 k,.string r,.string nm,.int .i64 d,.slice a len cap]] w (U8P w (lfV k r nm d len)):=by
 by_cases h1:k=1
 ·subst h1;exact ycg r nm d a len cap w hr
 by_cases h2:k=2
 ·subst h2;exact ycf r nm d a len cap w
 by_cases h3:k=3
 ·subst h3;exact yce r nm d a len cap w
 exact ycd k h1 h2 h3 r nm d a len cap w
open Go.ChangeShapes Go.WideShapes Go.Deep
def KOk:Nat→Ex→Prop
 |0,_=>False
 |n+1,x=>(0≤x.kind∧x.kind≤255)∧∀y ∈ x.sub,KOk n y
theorem KOk.up:∀{n m:Nat}{x:Ex},n≤m→KOk n x→KOk m x
 |0,_,_,_,h=>h.elim
 |n+1,0,_,hm,_=>absurd hm (by omega)
 |n+1,m+1,x,hm,⟨h1,h2⟩=>⟨h1,fun y hy=>KOk.up (by omega) (h2 y hy)⟩
def zb6(w:World):Prop:=∃bm,w.cell? ⟨0,0,none⟩=some (.map (some bm))∧∀k:Int,0≤k→k≤255 →
 (shpL k=none→∀W,Below w.heap.size w W→(Instr.lookup 163 (.map (some bm)) (.int .u8 k) true).run Tryz.prog W=.ok (.tuple #[.agg #[.slice none 0 0,.int .u8 0],.bool false]) W) ∧
 (∀ps own,shpL k=some (ps,own)→∃g o cap,g<w.heap.size∧(∀W,Below w.heap.size w W→(Instr.lookup 163 (.map (some bm)) (.int .u8 k) true).run Tryz.prog W=.ok (.tuple #[.agg #[.slice (some ⟨g,o,none⟩) ps.length cap,.int .u8 own],.bool true]) W) ∧
  ∀i,i<ps.length→w.cell? ⟨g,o+i,none⟩=some (.int .u8 (ps[i]?.getD 0)))
theorem gShapes : Tryz.prog.globalNamed "novation/observable.shapes" = some 0 := by kernel_rfl
theorem tShapes:(Tryz.prog.globals[0]?).map (·.type)=some 163:=by kernel_rfl
theorem z6e:Tryz.prog.cellsOf 161=2:=by kernel_rfl
theorem zvt:Tryz.prog.cellsOf 159=1:=by kernel_rfl
theorem zp7:Tryz.prog.cellsOf 107=1:=by kernel_rfl
def shpD{H:Type}(ps:List Int)(own:Int):DataW H:=.agg [.slice (ps.map fun p=>.lit (.int .u8 p)) [],.lit (.int .u8 own)]
theorem zqz{H:Type}(k:Int):(shpL k=none→(Rows.laid_novation_observable_shapes (H:=H)).atKey (.int .u8 k) .nil=.nil)∧(∀ps own,shpL k=some (ps,own)→(Rows.laid_novation_observable_shapes (H:=H)).atKey (.int .u8 k) .nil=shpD ps own):=by
 by_cases h4:k=4
 ·subst h4
  exact⟨fun h=>by simp[shpL]at h,fun ps own h=>by simp[shpL]at h;obtain⟨rfl,rfl⟩:=h;rfl⟩
 by_cases h5:k=5
 ·subst h5
  exact⟨fun h=>by simp[shpL]at h,fun ps own h=>by simp[shpL]at h;obtain⟨rfl,rfl⟩:=h;rfl⟩
 by_cases h6:k=6
 ·subst h6
  exact⟨fun h=>by simp[shpL]at h,fun ps own h=>by simp[shpL]at h;obtain⟨rfl,rfl⟩:=h;rfl⟩
 by_cases h7:k=7
 ·subst h7
  exact⟨fun h=>by simp[shpL]at h,fun ps own h=>by simp[shpL]at h;obtain⟨rfl,rfl⟩:=h;rfl⟩
 by_cases h8:k=8
 ·subst h8
  exact⟨fun h=>by simp[shpL]at h,fun ps own h=>by simp[shpL]at h;obtain⟨rfl,rfl⟩:=h;rfl⟩
 by_cases h9:k=9
 ·subst h9
  exact⟨fun h=>by simp[shpL]at h,fun ps own h=>by simp[shpL]at h;obtain⟨rfl,rfl⟩:=h;rfl⟩
 by_cases h11:k=11
 ·subst h11
  exact⟨fun h=>by simp[shpL]at h,fun ps own h=>by simp[shpL]at h;obtain⟨rfl,rfl⟩:=h;rfl⟩
 by_cases h12:k=12
 ·subst h12
  exact⟨fun h=>by simp[shpL]at h,fun ps own h=>by simp[shpL]at h;obtain⟨rfl,rfl⟩:=h;rfl⟩
 by_cases h13:k=13
 ·subst h13
  exact⟨fun h=>by simp[shpL]at h,fun ps own h=>by simp[shpL]at h;obtain⟨rfl,rfl⟩:=h;rfl⟩
 by_cases h14:k=14
 ·subst h14
  exact⟨fun h=>by simp[shpL]at h,fun ps own h=>by simp[shpL]at h;obtain⟨rfl,rfl⟩:=h;rfl⟩
 by_cases h15:k=15
 ·subst h15
  exact⟨fun h=>by simp[shpL]at h,fun ps own h=>by simp[shpL]at h;obtain⟨rfl,rfl⟩:=h;rfl⟩
 refine⟨fun _ => ?_,fun ps own h => ?_⟩
 ·simp[Rows.laid_novation_observable_shapes,DataW.atKey,Lit.sameKey,Ne.symm h4,Ne.symm h5,Ne.symm h6,Ne.symm h7,Ne.symm h8,Ne.symm h9,Ne.symm h11,Ne.symm h12,Ne.symm h13,Ne.symm h14,Ne.symm h15]
 ·unfold shpL at h
  rw[if_neg (by omega),if_neg (by omega),if_neg (by omega),if_neg (by omega),if_neg (by omega)]at h
  cases h
theorem zuy{H:Type}{enc:TypeId × Value→H}{w:World}{base:Nat}{spare:Nat→Bool}{Sh:Bool}{fuel:Nat}{cs:List Value}{ps:List Int}{own:Int}{q:List MemPlace}(hn:ps≠[])
 (h:DataW.trod enc Tryz.prog w base spare Sh fuel 161 cs=some (shpD ps own,q)):∃g o cap,cs=[.slice (some ⟨g,o,none⟩) ps.length cap,.int .u8 own]∧g<w.heap.size∧∀i,i<ps.length→w.cell? ⟨g,o+i,none⟩=some (.int .u8 (ps[i]?.getD 0)):=by
 obtain⟨xs,n,_,hx,Z6,hxl,hf⟩:=DataW.trod_struct Tryz.underlying161 h;rw[z6e]at Z6
 match cs,Z6 with
 | [c0,c1],_ =>
  match xs,hxl with
  | [y0,y1],_ =>
   have h0 := hf 0 ⟨"parts", 159, 0, false, "", "novation/observable", 0⟩ rfl;have h1 := hf 1 ⟨"own", 107, 1, false, "", "novation/observable", 24⟩ rfl;simp only[zvt,zp7,List.drop_succ_cons,List.drop_zero,List.take_succ_cons,List.take_zero,List.getElem?_cons_succ,List.getElem?_cons_zero]at h0 h1;simp only[shpD,Prod.mk.injEq,DataW.agg.injEq,List.map_cons,List.map_nil,List.cons.injEq,and_true]at hx;obtain⟨⟨Zc,XF⟩,_⟩:=hx;obtain⟨k,e1,e2,_⟩:=DataW.trod_int Tryz.underlying107 h1;simp only[List.cons.injEq,and_true]at e1;subst e1;rw[e2]at XF;simp only[DataW.lit.injEq,Lit.int.injEq,true_and]at XF;subst XF
   rcases DataW.trod_slice Tryz.underlying159 h0 with⟨_,VQ⟩ |⟨ad,len,cap,elems,rest,m,SW,YG,VQ,_,_,_,Zq,ZZ,_,_⟩
   ·rw[VQ]at Zc
    cases Zc
   ·simp only[List.cons.injEq,and_true]at YG
    subst YG;rw[VQ]at Zc;simp only[DataW.slice.injEq]at Zc;obtain⟨Zc,_⟩:=Zc;rw[zp7]at ZZ
    have XL:ps.length=len:=by
     have:=congrArg List.length Zc;simpa[Zq]using this
    have hp0:0<len:=by
     rw[←XL];exact List.length_pos_iff.2 hn
    have hone:∀i,i<len→w.cell? (ad.add i)=some (.int .u8 (ps[i]?.getD 0)):=fun i hi=>by
     have ha:=ZZ i hi;rw[List.getElem?_eq_getElem (by omega),Nat.mul_one]at ha;obtain⟨cs',hc,ht⟩:=Option.bind_eq_some_iff.1 ha;obtain⟨X9,_,Z5⟩:=World.cells?_some hc;obtain⟨k,e1,e2,_⟩:=DataW.trod_int Tryz.underlying107 ht;subst e1;have h2:=Z5 0 (by decide);have hz:(ad.add i).add 0=ad.add i:=by simp[Addr.add]
     rw[hz]at h2;rw[h2]
     have e3:(elems.map (·.1))[i]?=(ps.map fun p=>(DataW.lit (.int .u8 p):DataW H))[i]?:=by rw[Zc]
     rw[List.getElem?_map,List.getElem?_map,List.getElem?_eq_getElem (show i<elems.length by omega),List.getElem?_eq_getElem (show i<ps.length by omega)]at e3;simp only[Option.map_some,Option.some.injEq]at e3;rw[e2]at e3;simp only[DataW.lit.injEq,Lit.int.injEq,true_and]at e3;rw[List.getElem?_eq_getElem (show i<ps.length by omega)];simp[e3]
    have h00:=hone 0 hp0;have hz:ad.add 0=ad:=by simp[Addr.add]
    rw[hz]at h00;have Xh:ad.spot=none:=zsc h00;have ZK:ad.block<w.heap.size:=zf2 h00;obtain⟨g,o,sp⟩:=ad;subst Xh;refine⟨g,o,cap,by rw[XL],ZK,fun i hi => ?_⟩;have:=hone i (by omega)
    rwa [ydy]at this
theorem zva{H:Type}{P:Program}{k:TypeId}{R:Value→Option (DataW H × List MemPlace)}{es:Array MapEntry}{clock:Nat}(F:Go.WideElems.Fit P k R es clock){a b:MapEntry}(ha:a ∈ es.toList)(hb:b ∈ es.toList)(Z0:a≠b):a.key≠b.key:=by
 have hp:=((Go.MapKept.stamped_iff es clock).1 F.stamped).2.2;obtain⟨i,hi,rfl⟩:=List.getElem_of_mem ha;obtain⟨j,hj,rfl⟩:=List.getElem_of_mem hb;rw[List.pairwise_iff_getElem]at hp
 rcases Nat.lt_trichotomy i j with h |h |h
 ·exact hp i j hi hj h
 ·subst h;exact absurd rfl Z0
 ·exact fun e=>hp j i hj hi h e.symm
theorem zvz{v:Value}{l:List Value}(hf:v.formed Tryz.prog 161=true)(hl:v.cells.toList=l):v=.agg l.toArray:=by
 unfold Value.formed at hf;rw[Tryz.underlying161]at hf
 cases v<;>simp at hf
 rw[←hl];rfl
theorem z7q(w:World):(zeroValue 161).run Tryz.prog w=.ok (.agg #[.slice none 0 0,.int .u8 0]) w:=by kernel_rfl
theorem zrk {laid rest : List (String × DataW Unit)} (hl : laid = ("novation/observable.shapes", Rows.laid_novation_observable_shapes) :: rest) {W : World} (h : laidMet Tryz.prog laid W) : zb6 W := by
 subst hl;obtain⟨ps,⟨g0,t0,cs0,f0,p0,q0,Y2,Vx,Uz,VK,_,_⟩,_,_⟩:=h;obtain rfl:=Option.some.inj (gShapes.symm.trans Y2);obtain rfl:=Option.some.inj (tShapes.symm.trans Vx)
 rcases Go.WideElems.open_map Tryz.underlying163 VK with⟨_,hx⟩ |⟨bm,es,clock,m,rfl,YG,hb,_,F,hx⟩
 ·simp[Rows.laid_novation_observable_shapes]at hx
 simp only[Prod.mk.injEq]at hx
 have Z5:W.cell? ⟨0,0,none⟩=some (.map (some bm)):=by
  have:=World.var?_cell Y2 Uz 0;rw[Array.eq_one_of_toList YG]at this;simpa using this
 have ZK:bm<W.heap.size:=(Z8 hb);refine⟨bm,Z5,fun k YL Zh => ?_⟩
 have hkey:keyOf Tryz.prog 5 (.int .u8 k)=some (.int .u8 k):=Maps.keyOf_int_mk Tryz.underlying5 (by
  have h0:IntKind.u8.min=0:=rfl;have h1:IntKind.u8.max=255:=rfl
  simp[Lit.wf];omega)
 have look:∀W',Below W.heap.size W W'→_:=fun W' hW'=>Maps.fit_look (w:=W') true (Maps.int_keyed Tryz.underlying5) Tryz.underlying163 (z7q W') ((hW'.block _ ZK).trans hb) F hkey
 refine⟨fun hs W' hW' => ?_,fun psl own hs => ?_⟩
 ·rcases look W' hW' with⟨hr,_,_⟩ |⟨e0,y,_,_,_,hR,ZZ,_⟩
  ·simpa using hr
  ·have h2:=ZZ .nil
   rw[←hx.1,(zqz k).1 hs]at h2;unfold Go.WideElems.elemAt at hR
   split at hR
   ·obtain⟨xs,n,_,hxy,_⟩:=DataW.trod_struct Tryz.underlying161 hR
    rw[hxy]at h2
    cases h2
   ·cases hR
 ·rcases look W (Below.refl _ _)with⟨_,_,ZZ⟩ |⟨e0,y,Yl,UR,_,hR,ZZ,_⟩
  ·have h2:=ZZ .nil
   rw[←hx.1,(zqz k).2 psl own hs]at h2
   cases h2
  ·have h2:=ZZ .nil
   rw[←hx.1,(zqz k).2 psl own hs]at h2;unfold Go.WideElems.elemAt at hR
   split at hR
   ·rename_i SW
    obtain⟨y1,y2⟩:=y;have XF:shpD psl own=y1:=h2;subst XF
    obtain⟨g,o,cap,Sg,hg,ZV⟩:=zuy (by
     intro e;subst e;unfold shpL at hs
     (repeat' split at hs)<;>simp at hs) hR
    have hval:e0.val=.agg #[.slice (some ⟨g,o,none⟩) psl.length cap,.int .u8 own]:=by
     exact zvz SW Sg
    refine⟨g,o,cap,hg,fun W' hW' => ?_,ZV⟩
    rcases look W' hW' with⟨_,Z0,_⟩ |⟨e1,y1,WW,Sm,hr,_,_,_⟩
    ·exact absurd UR (Z0 e0 Yl)
    ·have e01:e1=e0:=by
      by_cases h:e1=e0
      ·exact h
      ·exfalso
       exact zva F WW Yl h (Sm.trans UR.symm)
     rw[e01,hval]at hr;simpa using hr
   ·cases hR
inductive Ct where
 |mk (kind:Int) (frm too name:ByteArray) (expr:Ex) (date:Int) (dates:List Int) (sub:List Ct)
namespace Ct
def kind:Ct→Int | .mk k _ _ _ _ _ _ _=>k
def frm:Ct→ByteArray | .mk _ f _ _ _ _ _ _=>f
def too:Ct→ByteArray | .mk _ _ t _ _ _ _ _=>t
def name:Ct→ByteArray | .mk _ _ _ n _ _ _ _=>n
def expr:Ct→Ex | .mk _ _ _ _ e _ _ _=>e
def date:Ct→Int | .mk _ _ _ _ _ d _ _=>d
def dates:Ct→List Int | .mk _ _ _ _ _ _ l _=>l
def sub:Ct→List Ct | .mk _ _ _ _ _ _ _ l=>l
def size:Ct→Nat
 | .mk _ _ _ _ e _ _ l=>1+e.size+(l.attach.map fun x=>x.1.size).sum
termination_by x=>SizeOf.sizeOf x
decreasing_by
 have:=List.sizeOf_lt_of_mem x.2;simp only[Ct.mk.sizeOf_spec];omega
theorem size_is(x:Ct):x.size=1+x.expr.size+(x.sub.map size).sum:=by
 cases x with
 |mk k f t n e d ds l =>
  rw[size]
  show _=1+e.size+(l.map size).sum
  rw[show(l.attach.map fun x=>x.1.size)=l.map size from List.attach_map_val (l:=l) (f:=size)]
theorem znf(x:Ct):1≤x.size:=by rw[size_is];omega
theorem sum_ge(l:List Ct):l.length≤(l.map size).sum:=by
 induction l with
 |nil=>simp
 |cons x l ih =>
  have:=znf x;rw[List.map_cons,List.sum_cons,List.length_cons];omega
theorem sub_len(x:Ct):x.sub.length<x.size:=by
 rw[size_is x];have:=sum_ge x.sub;omega
theorem sub_size{x y:Ct}(h:y ∈ x.sub):y.size<x.size:=by
 rw[size_is x]
 have:y.size≤(x.sub.map size).sum:=by
  obtain⟨i,hi,rfl⟩:=List.getElem_of_mem h
  have:x.sub.map size=(x.sub.take i).map size ++ (x.sub[i].size :: (x.sub.drop (i+1)).map size):=by
   rw[←List.map_cons,←List.drop_eq_getElem_cons hi,←List.map_append,List.take_append_drop]
  rw[this,List.sum_append,List.sum_cons];omega
 omega
theorem expr_size(x:Ct):x.expr.size<x.size:=by rw[size_is x];omega
end Ct
instance:Inhabited Ct:=⟨.mk 0 ByteArray.empty ByteArray.empty ByteArray.empty default 0 [] []⟩
def zdp(x:Ct)(ea:Option Addr)(el ec:Nat)(da:Option Addr)(dl dc:Nat)(a:Option Addr)(len cap:Nat):List Value :=
 [.int .u8 x.kind,.string x.frm,.string x.too,.string x.name,.int .u8 x.expr.kind,.string x.expr.rat,.string x.expr.name,.int .i64 x.expr.date,.slice ea el ec,.int .i64 x.date,.slice da dl dc,.slice a len cap]
def DaysAt(w:World)(da:Option Addr)(dl:Nat)(l:List Int):Prop :=
 l.length=dl∧(dl=0∨∃g o,da=some ⟨g,o,none⟩∧g<w.heap.size∧∀i,i<dl→w.cell? ⟨g,o+i,none⟩=some (.int .i64 (l[i]?.getD 0)))
theorem DaysAt.below{w w':World}(hb:Below w.heap.size w w'){da:Option Addr}{dl:Nat}{l:List Int}(h:DaysAt w da dl l):DaysAt w' da dl l :=
 ⟨h.1,h.2.imp id fun⟨g,o,ha,hg,hi⟩=>⟨g,o,ha,Nat.lt_of_lt_of_le hg hb.size,fun i h=>((zbg hb).1 _ _ hg).trans (hi i h)⟩⟩
def CtAt:Nat→World→List Value→Ct→Prop
 |0,_,_,_=>False
 |n+1,w,cs,x=>∃ea el ec da dl dc a len cap,cs=zdp x ea el ec da dl dc a len cap ∧
  ExAt (n+1) w [.int .u8 x.expr.kind,.string x.expr.rat,.string x.expr.name,.int .i64 x.expr.date,.slice ea el ec] x.expr∧DaysAt w da dl x.dates∧x.sub.length=len ∧
  (len=0∨∃g o,a=some ⟨g,o,none⟩∧g<w.heap.size∧∀i (hi:i<x.sub.length),∃cs',(∀j,j<12→w.cell? ⟨g,o+i*12+j,none⟩=cs'[j]?)∧CtAt n w cs' x.sub[i])
theorem CtAt.below{w w':World}(hb:Below w.heap.size w w'):∀{n:Nat}{cs:List Value}{x:Ct},CtAt n w cs x→CtAt n w' cs x
 |0,_,_,h=>h
 |n+1,cs,x,⟨ea,el,ec,da,dl,dc,a,len,cap,h1,he,hd,h2,h3⟩=>⟨ea,el,ec,da,dl,dc,a,len,cap,h1,ExAt.below hb he,hd.below hb,h2,h3.imp id fun⟨g,o,ha,hg,hi⟩=>⟨g,o,ha,Nat.lt_of_lt_of_le hg hb.size,fun i h=>by
  obtain⟨cs',hc,hx⟩:=hi i h
  exact⟨cs',fun j hj=>((zbg hb).1 _ _ hg).trans (hc j hj),CtAt.below hb hx⟩⟩⟩
theorem CtAt.up{w:World}:∀{n m:Nat}{cs:List Value}{x:Ct},n≤m→CtAt n w cs x→CtAt m w cs x
 |0,_,_,_,_,h=>h.elim
 |n+1,0,_,_,hm,_=>absurd hm (by omega)
 |n+1,m+1,cs,x,hm,⟨ea,el,ec,da,dl,dc,a,len,cap,h1,he,hd,h2,h3⟩=>⟨ea,el,ec,da,dl,dc,a,len,cap,h1,ExAt.up hm he,hd,h2,h3.imp id fun⟨g,o,ha,hg,hi⟩=>⟨g,o,ha,hg,fun i h=>by
  obtain⟨cs',hc,hx⟩:=hi i h
  exact⟨cs',hc,CtAt.up (by omega) hx⟩⟩⟩
theorem CtAt.shape:∀{n:Nat}{w:World}{cs:List Value}{x:Ct},CtAt n w cs x→∃ea el ec da dl dc a len cap,cs=zdp x ea el ec da dl dc a len cap∧x.dates.length=dl∧x.sub.length=len
 |0,_,_,_,h=>h.elim
 |_+1,_,_,_,⟨ea,el,ec,da,dl,dc,a,len,cap,h1,_,hd,h2,_⟩=>⟨ea,el,ec,da,dl,dc,a,len,cap,h1,hd.1,h2⟩
def CKOk:Nat→Ct→Prop
 |0,_=>False
 |n+1,x=>(0≤x.kind∧x.kind≤255)∧KOk (n+1) x.expr∧∀y ∈ x.sub,CKOk n y
theorem CKOk.up:∀{n m:Nat}{x:Ct},n≤m→CKOk n x→CKOk m x
 |0,_,_,_,h=>h.elim
 |n+1,0,_,hm,_=>absurd hm (by omega)
 |n+1,m+1,x,hm,⟨h1,he,h2⟩=>⟨h1,KOk.up hm he,fun y hy=>CKOk.up (by omega) (h2 y hy)⟩
end Go.Proofs.YtkobkpepgdddeaaGreatDoor
