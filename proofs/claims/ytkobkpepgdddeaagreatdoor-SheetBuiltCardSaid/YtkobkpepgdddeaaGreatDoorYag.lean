/-
  Classes of bytes walked: the program's class, the reference's Mark. No condition.
-/
import Derived.Test.YtkobkpepgdddeaaGreatDoorYaf
import Derived.Test.YtkobkpepgdddeaaGreatDoorYaa
import Derived.Test.YtkobkpepgdddeaaGreatDoorYae
import Derived.Test.YtkobkpepgdddeaaGreatDoorRows
import Derived.IntWalk
import Derived.Laws.Rows
import Derived.Test.YtkobkpepgdddeaaGreatDoorYac
import Derived.RegionTactic
namespace Go.Proofs.YtkobkpepgdddeaaGreatDoor
open Go.RowKit
set_option maxHeartbeats 16000000
set_option maxRecDepth 100000
def zez:List UInt8:=[40,41,123,125,44,59,64,43,42]
def zac(c:UInt8):Int :=
 if c.toNat=32∨c.toNat=9∨c.toNat=10 then 1 else if 48≤c.toNat∧c.toNat≤57 then 2 else if letB c=true then 3
 else if c.toNat=95∨c.toNat=45 then 4 else if c ∈ zez then 5 else if c.toNat=34 then 6 else if c.toNat=35 then 7 else 0
def mkB(c:UInt8):Bool:=decide (c ∈ zez) ||decide (c.toNat=45)
theorem zah(c:UInt8):c ∈ zez↔c.toNat=40∨c.toNat=41∨c.toNat=123∨c.toNat=125∨c.toNat=44∨c.toNat=59∨c.toNat=64∨c.toNat=43∨c.toNat=42:=by
 unfold zez;simp only[List.mem_cons,List.not_mem_nil,or_false,←UInt8.toNat_inj];rfl
theorem zd2{c:UInt8}(h:¬c ∈ zez):Lib.indexByte zez c = -1:=by
 have h0:=Lib.indexByte_ge zez c
 by_cases e:Lib.indexByte zez c = -1
 ·exact e
 ·obtain⟨o,ho⟩:∃o:Nat,Lib.indexByte zez c=o:=⟨(Lib.indexByte zez c).toNat,by omega⟩
  exact absurd (List.mem_of_getElem? (Lib.indexByte_some ho).1) h
theorem ya3(m:Nat)(h:m<256):bits BinOp.or IntKind.u8 (m:Int) 32=((if m.testBit 5 then m else m+32:Nat):Int):=by
 have:∀m:Fin 256,bits BinOp.or IntKind.u8 ((m:Nat):Int) 32=((if (m:Nat).testBit 5 then(m:Nat)else(m:Nat)+32:Nat):Int):=by decide +kernel
 exact this ⟨m,h⟩
theorem bit5(m:Nat)(h:m<256):m.testBit 5=decide (m / 32 % 2=1):=by
 have:∀m:Fin 256,(m:Nat).testBit 5=decide ((m:Nat) / 32 % 2=1):=by decide +kernel
 exact this ⟨m,h⟩
theorem za2{m:Nat}(h:m<256):bits BinOp.or IntKind.u8 (m:Int) 32=((if m / 32 % 2=1 then m else m+32:Nat):Int):=by
 rw[ya3 m h,bit5 m h];simp
theorem zrn(c:UInt8)(w:World):Calls Tryz.prog 142 #[.string ⟨#[40,41,123,125,44,59,64,43,42]⟩,.int .u8 (c.toNat:Int)] w fun e w'=>e=.returned (.int .i64 (Lib.indexByte zez c))∧w=w':=by
 have:=Tryz.strings_IndexByte ⟨#[40,41,123,125,44,59,64,43,42]⟩ (c.toNat:Int) w;rw[show((c.toNat:Int)).toNat.toUInt8=c by simp]at this
 exact this.mono fun e w' ⟨a,b⟩=>⟨a,b.symm⟩
theorem za9{c:UInt8}{n:Int}(h:Lib.indexByte zez c=n):Hid (∀W,Calls Tryz.prog 142 #[.string ⟨#[40,41,123,125,44,59,64,43,42]⟩,.int .u8 (c.toNat:Int)] W fun e w'=>e=.returned (.int .i64 n)∧W=w'):=fun W=>h ▸ zrn c W
theorem yax(c:UInt8)(w:World)(h1:0≤c.toNat)(h2:c.toNat≤8):Calls Tryz.prog 180 #[.int .u8 (c.toNat:Int)] w (RetI w (zac c)):=by
 have hv:zac c=0:=by
  unfold zac letB;simp only[zah,decide_eq_true_eq]
  repeat' split
  all_goals omega
 rw[hv];have HI:=za9 (c:=c) (n := -1) (zd2 (by rw[zah];omega))
 have e32:((c.toNat:Int) == 32)=false:=by simp<;>omega
 have e9:((c.toNat:Int) == 9)=false:=by simp<;>omega
 have e10:((c.toNat:Int) == 10)=false:=by simp<;>omega
 have e95:((c.toNat:Int) == 95)=false:=by simp<;>omega
 have e45:((c.toNat:Int) == 45)=false:=by simp<;>omega
 have e34:((c.toNat:Int) == 34)=false:=by simp<;>omega
 have e35:((c.toNat:Int) == 35)=false:=by simp<;>omega
 have p48:(decide ((48:Int)≤(c.toNat:Int)))=false:=by simp<;>omega
 have p57:(decide ((c.toNat:Int)≤57))=true:=by simp<;>omega
 have hx:bits BinOp.or IntKind.u8 (c.toNat:Int) 32=((c.toNat+32:Nat):Int):=by rw[za2 (by omega),if_neg (by omega)]
 have p97:(decide ((97:Int)≤bits BinOp.or IntKind.u8 (c.toNat:Int) 32))=false:=by rw[hx];simp<;>omega
 have p122:(decide (bits BinOp.or IntKind.u8 (c.toNat:Int) 32≤122))=true:=by rw[hx];simp<;>omega
 clear hx h1 h2 hv;go_enter Tryz.func180,Tryz.ntmps180;go_wp2_with fail;refine(HI.out _).mono ?_;rintro e w' ⟨rfl,rfl⟩;go_wp2;go_ret;exact⟨rfl,rfl⟩
theorem yaw(c:UInt8)(w:World)(h1:9≤c.toNat)(h2:c.toNat≤9):Calls Tryz.prog 180 #[.int .u8 (c.toNat:Int)] w (RetI w (zac c)):=by
 have hv:zac c=1:=by
  unfold zac letB;simp only[zah,decide_eq_true_eq]
  repeat' split
  all_goals omega
 rw[hv]
 have e32:((c.toNat:Int) == 32)=false:=by simp<;>omega
 have e9:((c.toNat:Int) == 9)=true:=by simp<;>omega
 have e10:((c.toNat:Int) == 10)=false:=by simp<;>omega
 have e95:((c.toNat:Int) == 95)=false:=by simp<;>omega
 have e45:((c.toNat:Int) == 45)=false:=by simp<;>omega
 have e34:((c.toNat:Int) == 34)=false:=by simp<;>omega
 have e35:((c.toNat:Int) == 35)=false:=by simp<;>omega
 have p48:(decide ((48:Int)≤(c.toNat:Int)))=false:=by simp<;>omega
 have p57:(decide ((c.toNat:Int)≤57))=true:=by simp<;>omega
 have hx:bits BinOp.or IntKind.u8 (c.toNat:Int) 32=((c.toNat+32:Nat):Int):=by rw[za2 (by omega),if_neg (by omega)]
 have p97:(decide ((97:Int)≤bits BinOp.or IntKind.u8 (c.toNat:Int) 32))=false:=by rw[hx];simp<;>omega
 have p122:(decide (bits BinOp.or IntKind.u8 (c.toNat:Int) 32≤122))=true:=by rw[hx];simp<;>omega
 clear hx h1 h2 hv;go_enter Tryz.func180,Tryz.ntmps180;go_wp2;go_ret;exact⟨rfl,rfl⟩
theorem z55(c:UInt8)(w:World)(h1:10≤c.toNat)(h2:c.toNat≤10):Calls Tryz.prog 180 #[.int .u8 (c.toNat:Int)] w (RetI w (zac c)):=by
 have hv:zac c=1:=by
  unfold zac letB;simp only[zah,decide_eq_true_eq]
  repeat' split
  all_goals omega
 rw[hv]
 have e32:((c.toNat:Int) == 32)=false:=by simp<;>omega
 have e9:((c.toNat:Int) == 9)=false:=by simp<;>omega
 have e10:((c.toNat:Int) == 10)=true:=by simp<;>omega
 have e95:((c.toNat:Int) == 95)=false:=by simp<;>omega
 have e45:((c.toNat:Int) == 45)=false:=by simp<;>omega
 have e34:((c.toNat:Int) == 34)=false:=by simp<;>omega
 have e35:((c.toNat:Int) == 35)=false:=by simp<;>omega
 have p48:(decide ((48:Int)≤(c.toNat:Int)))=false:=by simp<;>omega
 have p57:(decide ((c.toNat:Int)≤57))=true:=by simp<;>omega
 have hx:bits BinOp.or IntKind.u8 (c.toNat:Int) 32=((c.toNat+32:Nat):Int):=by rw[za2 (by omega),if_neg (by omega)]
 have p97:(decide ((97:Int)≤bits BinOp.or IntKind.u8 (c.toNat:Int) 32))=false:=by rw[hx];simp<;>omega
 have p122:(decide (bits BinOp.or IntKind.u8 (c.toNat:Int) 32≤122))=true:=by rw[hx];simp<;>omega
 clear hx h1 h2 hv;go_enter Tryz.func180,Tryz.ntmps180;go_wp2;go_ret;exact⟨rfl,rfl⟩
theorem z54(c:UInt8)(w:World)(h1:11≤c.toNat)(h2:c.toNat≤31):Calls Tryz.prog 180 #[.int .u8 (c.toNat:Int)] w (RetI w (zac c)):=by
 have hv:zac c=0:=by
  unfold zac letB;simp only[zah,decide_eq_true_eq]
  repeat' split
  all_goals omega
 rw[hv];have HI:=za9 (c:=c) (n := -1) (zd2 (by rw[zah];omega))
 have e32:((c.toNat:Int) == 32)=false:=by simp<;>omega
 have e9:((c.toNat:Int) == 9)=false:=by simp<;>omega
 have e10:((c.toNat:Int) == 10)=false:=by simp<;>omega
 have e95:((c.toNat:Int) == 95)=false:=by simp<;>omega
 have e45:((c.toNat:Int) == 45)=false:=by simp<;>omega
 have e34:((c.toNat:Int) == 34)=false:=by simp<;>omega
 have e35:((c.toNat:Int) == 35)=false:=by simp<;>omega
 have p48:(decide ((48:Int)≤(c.toNat:Int)))=false:=by simp<;>omega
 have p57:(decide ((c.toNat:Int)≤57))=true:=by simp<;>omega
 have hx:bits BinOp.or IntKind.u8 (c.toNat:Int) 32=((c.toNat+32:Nat):Int):=by rw[za2 (by omega),if_neg (by omega)]
 have p97:(decide ((97:Int)≤bits BinOp.or IntKind.u8 (c.toNat:Int) 32))=false:=by rw[hx];simp<;>omega
 have p122:(decide (bits BinOp.or IntKind.u8 (c.toNat:Int) 32≤122))=true:=by rw[hx];simp<;>omega
 clear hx h1 h2 hv;go_enter Tryz.func180,Tryz.ntmps180;go_wp2_with fail;refine(HI.out _).mono ?_;rintro e w' ⟨rfl,rfl⟩;go_wp2;go_ret;exact⟨rfl,rfl⟩
theorem z52(c:UInt8)(w:World)(h1:32≤c.toNat)(h2:c.toNat≤32):Calls Tryz.prog 180 #[.int .u8 (c.toNat:Int)] w (RetI w (zac c)):=by
 have hv:zac c=1:=by
  unfold zac letB;simp only[zah,decide_eq_true_eq]
  repeat' split
  all_goals omega
 rw[hv]
 have e32:((c.toNat:Int) == 32)=true:=by simp<;>omega
 have e9:((c.toNat:Int) == 9)=false:=by simp<;>omega
 have e10:((c.toNat:Int) == 10)=false:=by simp<;>omega
 have e95:((c.toNat:Int) == 95)=false:=by simp<;>omega
 have e45:((c.toNat:Int) == 45)=false:=by simp<;>omega
 have e34:((c.toNat:Int) == 34)=false:=by simp<;>omega
 have e35:((c.toNat:Int) == 35)=false:=by simp<;>omega
 have p48:(decide ((48:Int)≤(c.toNat:Int)))=false:=by simp<;>omega
 have p57:(decide ((c.toNat:Int)≤57))=true:=by simp<;>omega
 have hx:bits BinOp.or IntKind.u8 (c.toNat:Int) 32=((c.toNat:Nat):Int):=by rw[za2 (by omega),if_pos (by omega)]
 have p97:(decide ((97:Int)≤bits BinOp.or IntKind.u8 (c.toNat:Int) 32))=false:=by rw[hx];simp<;>omega
 have p122:(decide (bits BinOp.or IntKind.u8 (c.toNat:Int) 32≤122))=true:=by rw[hx];simp<;>omega
 clear hx h1 h2 hv;go_enter Tryz.func180,Tryz.ntmps180;go_wp2;go_ret;exact⟨rfl,rfl⟩
theorem z50(c:UInt8)(w:World)(h1:33≤c.toNat)(h2:c.toNat≤33):Calls Tryz.prog 180 #[.int .u8 (c.toNat:Int)] w (RetI w (zac c)):=by
 have hv:zac c=0:=by
  unfold zac letB;simp only[zah,decide_eq_true_eq]
  repeat' split
  all_goals omega
 rw[hv];have HI:=za9 (c:=c) (n := -1) (zd2 (by rw[zah];omega))
 have e32:((c.toNat:Int) == 32)=false:=by simp<;>omega
 have e9:((c.toNat:Int) == 9)=false:=by simp<;>omega
 have e10:((c.toNat:Int) == 10)=false:=by simp<;>omega
 have e95:((c.toNat:Int) == 95)=false:=by simp<;>omega
 have e45:((c.toNat:Int) == 45)=false:=by simp<;>omega
 have e34:((c.toNat:Int) == 34)=false:=by simp<;>omega
 have e35:((c.toNat:Int) == 35)=false:=by simp<;>omega
 have p48:(decide ((48:Int)≤(c.toNat:Int)))=false:=by simp<;>omega
 have p57:(decide ((c.toNat:Int)≤57))=true:=by simp<;>omega
 have hx:bits BinOp.or IntKind.u8 (c.toNat:Int) 32=((c.toNat:Nat):Int):=by rw[za2 (by omega),if_pos (by omega)]
 have p97:(decide ((97:Int)≤bits BinOp.or IntKind.u8 (c.toNat:Int) 32))=false:=by rw[hx];simp<;>omega
 have p122:(decide (bits BinOp.or IntKind.u8 (c.toNat:Int) 32≤122))=true:=by rw[hx];simp<;>omega
 clear hx h1 h2 hv;go_enter Tryz.func180,Tryz.ntmps180;go_wp2_with fail;refine(HI.out _).mono ?_;rintro e w' ⟨rfl,rfl⟩;go_wp2;go_ret;exact⟨rfl,rfl⟩
theorem z5z(c:UInt8)(w:World)(h1:34≤c.toNat)(h2:c.toNat≤34):Calls Tryz.prog 180 #[.int .u8 (c.toNat:Int)] w (RetI w (zac c)):=by
 have hv:zac c=6:=by
  unfold zac letB;simp only[zah,decide_eq_true_eq]
  repeat' split
  all_goals omega
 rw[hv];have HI:=za9 (c:=c) (n := -1) (zd2 (by rw[zah];omega))
 have e32:((c.toNat:Int) == 32)=false:=by simp<;>omega
 have e9:((c.toNat:Int) == 9)=false:=by simp<;>omega
 have e10:((c.toNat:Int) == 10)=false:=by simp<;>omega
 have e95:((c.toNat:Int) == 95)=false:=by simp<;>omega
 have e45:((c.toNat:Int) == 45)=false:=by simp<;>omega
 have e34:((c.toNat:Int) == 34)=true:=by simp<;>omega
 have e35:((c.toNat:Int) == 35)=false:=by simp<;>omega
 have p48:(decide ((48:Int)≤(c.toNat:Int)))=false:=by simp<;>omega
 have p57:(decide ((c.toNat:Int)≤57))=true:=by simp<;>omega
 have hx:bits BinOp.or IntKind.u8 (c.toNat:Int) 32=((c.toNat:Nat):Int):=by rw[za2 (by omega),if_pos (by omega)]
 have p97:(decide ((97:Int)≤bits BinOp.or IntKind.u8 (c.toNat:Int) 32))=false:=by rw[hx];simp<;>omega
 have p122:(decide (bits BinOp.or IntKind.u8 (c.toNat:Int) 32≤122))=true:=by rw[hx];simp<;>omega
 clear hx h1 h2 hv;go_enter Tryz.func180,Tryz.ntmps180;go_wp2_with fail;refine(HI.out _).mono ?_;rintro e w' ⟨rfl,rfl⟩;go_wp2;go_ret;exact⟨rfl,rfl⟩
theorem z5y(c:UInt8)(w:World)(h1:35≤c.toNat)(h2:c.toNat≤35):Calls Tryz.prog 180 #[.int .u8 (c.toNat:Int)] w (RetI w (zac c)):=by
 have hv:zac c=7:=by
  unfold zac letB;simp only[zah,decide_eq_true_eq]
  repeat' split
  all_goals omega
 rw[hv];have HI:=za9 (c:=c) (n := -1) (zd2 (by rw[zah];omega))
 have e32:((c.toNat:Int) == 32)=false:=by simp<;>omega
 have e9:((c.toNat:Int) == 9)=false:=by simp<;>omega
 have e10:((c.toNat:Int) == 10)=false:=by simp<;>omega
 have e95:((c.toNat:Int) == 95)=false:=by simp<;>omega
 have e45:((c.toNat:Int) == 45)=false:=by simp<;>omega
 have e34:((c.toNat:Int) == 34)=false:=by simp<;>omega
 have e35:((c.toNat:Int) == 35)=true:=by simp<;>omega
 have p48:(decide ((48:Int)≤(c.toNat:Int)))=false:=by simp<;>omega
 have p57:(decide ((c.toNat:Int)≤57))=true:=by simp<;>omega
 have hx:bits BinOp.or IntKind.u8 (c.toNat:Int) 32=((c.toNat:Nat):Int):=by rw[za2 (by omega),if_pos (by omega)]
 have p97:(decide ((97:Int)≤bits BinOp.or IntKind.u8 (c.toNat:Int) 32))=false:=by rw[hx];simp<;>omega
 have p122:(decide (bits BinOp.or IntKind.u8 (c.toNat:Int) 32≤122))=true:=by rw[hx];simp<;>omega
 clear hx h1 h2 hv;go_enter Tryz.func180,Tryz.ntmps180;go_wp2_with fail;refine(HI.out _).mono ?_;rintro e w' ⟨rfl,rfl⟩;go_wp2;go_ret;exact⟨rfl,rfl⟩
theorem z5x(c:UInt8)(w:World)(h1:36≤c.toNat)(h2:c.toNat≤39):Calls Tryz.prog 180 #[.int .u8 (c.toNat:Int)] w (RetI w (zac c)):=by
 have hv:zac c=0:=by
  unfold zac letB;simp only[zah,decide_eq_true_eq]
  repeat' split
  all_goals omega
 rw[hv];have HI:=za9 (c:=c) (n := -1) (zd2 (by rw[zah];omega))
 have e32:((c.toNat:Int) == 32)=false:=by simp<;>omega
 have e9:((c.toNat:Int) == 9)=false:=by simp<;>omega
 have e10:((c.toNat:Int) == 10)=false:=by simp<;>omega
 have e95:((c.toNat:Int) == 95)=false:=by simp<;>omega
 have e45:((c.toNat:Int) == 45)=false:=by simp<;>omega
 have e34:((c.toNat:Int) == 34)=false:=by simp<;>omega
 have e35:((c.toNat:Int) == 35)=false:=by simp<;>omega
 have p48:(decide ((48:Int)≤(c.toNat:Int)))=false:=by simp<;>omega
 have p57:(decide ((c.toNat:Int)≤57))=true:=by simp<;>omega
 have hx:bits BinOp.or IntKind.u8 (c.toNat:Int) 32=((c.toNat:Nat):Int):=by rw[za2 (by omega),if_pos (by omega)]
 have p97:(decide ((97:Int)≤bits BinOp.or IntKind.u8 (c.toNat:Int) 32))=false:=by rw[hx];simp<;>omega
 have p122:(decide (bits BinOp.or IntKind.u8 (c.toNat:Int) 32≤122))=true:=by rw[hx];simp<;>omega
 clear hx h1 h2 hv;go_enter Tryz.func180,Tryz.ntmps180;go_wp2_with fail;refine(HI.out _).mono ?_;rintro e w' ⟨rfl,rfl⟩;go_wp2;go_ret;exact⟨rfl,rfl⟩
theorem z5w(c:UInt8)(w:World)(h1:40≤c.toNat)(h2:c.toNat≤40):Calls Tryz.prog 180 #[.int .u8 (c.toNat:Int)] w (RetI w (zac c)):=by
 have hv:zac c=5:=by
  unfold zac letB;simp only[zah,decide_eq_true_eq]
  repeat' split
  all_goals omega
 rw[hv]
 have HI:=za9 (c:=c) (n:=0) (by
  have:c=40:=UInt8.toNat_inj.1 (by show c.toNat=40;omega)
  rw[this];rfl)
 have e32:((c.toNat:Int) == 32)=false:=by simp<;>omega
 have e9:((c.toNat:Int) == 9)=false:=by simp<;>omega
 have e10:((c.toNat:Int) == 10)=false:=by simp<;>omega
 have e95:((c.toNat:Int) == 95)=false:=by simp<;>omega
 have e45:((c.toNat:Int) == 45)=false:=by simp<;>omega
 have e34:((c.toNat:Int) == 34)=false:=by simp<;>omega
 have e35:((c.toNat:Int) == 35)=false:=by simp<;>omega
 have p48:(decide ((48:Int)≤(c.toNat:Int)))=false:=by simp<;>omega
 have p57:(decide ((c.toNat:Int)≤57))=true:=by simp<;>omega
 have hx:bits BinOp.or IntKind.u8 (c.toNat:Int) 32=((c.toNat:Nat):Int):=by rw[za2 (by omega),if_pos (by omega)]
 have p97:(decide ((97:Int)≤bits BinOp.or IntKind.u8 (c.toNat:Int) 32))=false:=by rw[hx];simp<;>omega
 have p122:(decide (bits BinOp.or IntKind.u8 (c.toNat:Int) 32≤122))=true:=by rw[hx];simp<;>omega
 clear hx h1 h2 hv;go_enter Tryz.func180,Tryz.ntmps180;go_wp2_with fail;refine(HI.out _).mono ?_;rintro e w' ⟨rfl,rfl⟩;go_wp2;go_ret;exact⟨rfl,rfl⟩
theorem z5v(c:UInt8)(w:World)(h1:41≤c.toNat)(h2:c.toNat≤41):Calls Tryz.prog 180 #[.int .u8 (c.toNat:Int)] w (RetI w (zac c)):=by
 have hv:zac c=5:=by
  unfold zac letB;simp only[zah,decide_eq_true_eq]
  repeat' split
  all_goals omega
 rw[hv]
 have HI:=za9 (c:=c) (n:=1) (by
  have:c=41:=UInt8.toNat_inj.1 (by show c.toNat=41;omega)
  rw[this];rfl)
 have e32:((c.toNat:Int) == 32)=false:=by simp<;>omega
 have e9:((c.toNat:Int) == 9)=false:=by simp<;>omega
 have e10:((c.toNat:Int) == 10)=false:=by simp<;>omega
 have e95:((c.toNat:Int) == 95)=false:=by simp<;>omega
 have e45:((c.toNat:Int) == 45)=false:=by simp<;>omega
 have e34:((c.toNat:Int) == 34)=false:=by simp<;>omega
 have e35:((c.toNat:Int) == 35)=false:=by simp<;>omega
 have p48:(decide ((48:Int)≤(c.toNat:Int)))=false:=by simp<;>omega
 have p57:(decide ((c.toNat:Int)≤57))=true:=by simp<;>omega
 have hx:bits BinOp.or IntKind.u8 (c.toNat:Int) 32=((c.toNat:Nat):Int):=by rw[za2 (by omega),if_pos (by omega)]
 have p97:(decide ((97:Int)≤bits BinOp.or IntKind.u8 (c.toNat:Int) 32))=false:=by rw[hx];simp<;>omega
 have p122:(decide (bits BinOp.or IntKind.u8 (c.toNat:Int) 32≤122))=true:=by rw[hx];simp<;>omega
 clear hx h1 h2 hv;go_enter Tryz.func180,Tryz.ntmps180;go_wp2_with fail;refine(HI.out _).mono ?_;rintro e w' ⟨rfl,rfl⟩;go_wp2;go_ret;exact⟨rfl,rfl⟩
theorem z5u(c:UInt8)(w:World)(h1:42≤c.toNat)(h2:c.toNat≤42):Calls Tryz.prog 180 #[.int .u8 (c.toNat:Int)] w (RetI w (zac c)):=by
 have hv:zac c=5:=by
  unfold zac letB;simp only[zah,decide_eq_true_eq]
  repeat' split
  all_goals omega
 rw[hv]
 have HI:=za9 (c:=c) (n:=8) (by
  have:c=42:=UInt8.toNat_inj.1 (by show c.toNat=42;omega)
  rw[this];rfl)
 have e32:((c.toNat:Int) == 32)=false:=by simp<;>omega
 have e9:((c.toNat:Int) == 9)=false:=by simp<;>omega
 have e10:((c.toNat:Int) == 10)=false:=by simp<;>omega
 have e95:((c.toNat:Int) == 95)=false:=by simp<;>omega
 have e45:((c.toNat:Int) == 45)=false:=by simp<;>omega
 have e34:((c.toNat:Int) == 34)=false:=by simp<;>omega
 have e35:((c.toNat:Int) == 35)=false:=by simp<;>omega
 have p48:(decide ((48:Int)≤(c.toNat:Int)))=false:=by simp<;>omega
 have p57:(decide ((c.toNat:Int)≤57))=true:=by simp<;>omega
 have hx:bits BinOp.or IntKind.u8 (c.toNat:Int) 32=((c.toNat:Nat):Int):=by rw[za2 (by omega),if_pos (by omega)]
 have p97:(decide ((97:Int)≤bits BinOp.or IntKind.u8 (c.toNat:Int) 32))=false:=by rw[hx];simp<;>omega
 have p122:(decide (bits BinOp.or IntKind.u8 (c.toNat:Int) 32≤122))=true:=by rw[hx];simp<;>omega
 clear hx h1 h2 hv;go_enter Tryz.func180,Tryz.ntmps180;go_wp2_with fail;refine(HI.out _).mono ?_;rintro e w' ⟨rfl,rfl⟩;go_wp2;go_ret;exact⟨rfl,rfl⟩
theorem z5t(c:UInt8)(w:World)(h1:43≤c.toNat)(h2:c.toNat≤43):Calls Tryz.prog 180 #[.int .u8 (c.toNat:Int)] w (RetI w (zac c)):=by
 have hv:zac c=5:=by
  unfold zac letB;simp only[zah,decide_eq_true_eq]
  repeat' split
  all_goals omega
 rw[hv]
 have HI:=za9 (c:=c) (n:=7) (by
  have:c=43:=UInt8.toNat_inj.1 (by show c.toNat=43;omega)
  rw[this];rfl)
 have e32:((c.toNat:Int) == 32)=false:=by simp<;>omega
 have e9:((c.toNat:Int) == 9)=false:=by simp<;>omega
 have e10:((c.toNat:Int) == 10)=false:=by simp<;>omega
 have e95:((c.toNat:Int) == 95)=false:=by simp<;>omega
 have e45:((c.toNat:Int) == 45)=false:=by simp<;>omega
 have e34:((c.toNat:Int) == 34)=false:=by simp<;>omega
 have e35:((c.toNat:Int) == 35)=false:=by simp<;>omega
 have p48:(decide ((48:Int)≤(c.toNat:Int)))=false:=by simp<;>omega
 have p57:(decide ((c.toNat:Int)≤57))=true:=by simp<;>omega
 have hx:bits BinOp.or IntKind.u8 (c.toNat:Int) 32=((c.toNat:Nat):Int):=by rw[za2 (by omega),if_pos (by omega)]
 have p97:(decide ((97:Int)≤bits BinOp.or IntKind.u8 (c.toNat:Int) 32))=false:=by rw[hx];simp<;>omega
 have p122:(decide (bits BinOp.or IntKind.u8 (c.toNat:Int) 32≤122))=true:=by rw[hx];simp<;>omega
 clear hx h1 h2 hv;go_enter Tryz.func180,Tryz.ntmps180;go_wp2_with fail;refine(HI.out _).mono ?_;rintro e w' ⟨rfl,rfl⟩;go_wp2;go_ret;exact⟨rfl,rfl⟩
theorem z5s(c:UInt8)(w:World)(h1:44≤c.toNat)(h2:c.toNat≤44):Calls Tryz.prog 180 #[.int .u8 (c.toNat:Int)] w (RetI w (zac c)):=by
 have hv:zac c=5:=by
  unfold zac letB;simp only[zah,decide_eq_true_eq]
  repeat' split
  all_goals omega
 rw[hv]
 have HI:=za9 (c:=c) (n:=4) (by
  have:c=44:=UInt8.toNat_inj.1 (by show c.toNat=44;omega)
  rw[this];rfl)
 have e32:((c.toNat:Int) == 32)=false:=by simp<;>omega
 have e9:((c.toNat:Int) == 9)=false:=by simp<;>omega
 have e10:((c.toNat:Int) == 10)=false:=by simp<;>omega
 have e95:((c.toNat:Int) == 95)=false:=by simp<;>omega
 have e45:((c.toNat:Int) == 45)=false:=by simp<;>omega
 have e34:((c.toNat:Int) == 34)=false:=by simp<;>omega
 have e35:((c.toNat:Int) == 35)=false:=by simp<;>omega
 have p48:(decide ((48:Int)≤(c.toNat:Int)))=false:=by simp<;>omega
 have p57:(decide ((c.toNat:Int)≤57))=true:=by simp<;>omega
 have hx:bits BinOp.or IntKind.u8 (c.toNat:Int) 32=((c.toNat:Nat):Int):=by rw[za2 (by omega),if_pos (by omega)]
 have p97:(decide ((97:Int)≤bits BinOp.or IntKind.u8 (c.toNat:Int) 32))=false:=by rw[hx];simp<;>omega
 have p122:(decide (bits BinOp.or IntKind.u8 (c.toNat:Int) 32≤122))=true:=by rw[hx];simp<;>omega
 clear hx h1 h2 hv;go_enter Tryz.func180,Tryz.ntmps180;go_wp2_with fail;refine(HI.out _).mono ?_;rintro e w' ⟨rfl,rfl⟩;go_wp2;go_ret;exact⟨rfl,rfl⟩
theorem z5r(c:UInt8)(w:World)(h1:45≤c.toNat)(h2:c.toNat≤45):Calls Tryz.prog 180 #[.int .u8 (c.toNat:Int)] w (RetI w (zac c)):=by
 have hv:zac c=4:=by
  unfold zac letB;simp only[zah,decide_eq_true_eq]
  repeat' split
  all_goals omega
 rw[hv]
 have e32:((c.toNat:Int) == 32)=false:=by simp<;>omega
 have e9:((c.toNat:Int) == 9)=false:=by simp<;>omega
 have e10:((c.toNat:Int) == 10)=false:=by simp<;>omega
 have e95:((c.toNat:Int) == 95)=false:=by simp<;>omega
 have e45:((c.toNat:Int) == 45)=true:=by simp<;>omega
 have e34:((c.toNat:Int) == 34)=false:=by simp<;>omega
 have e35:((c.toNat:Int) == 35)=false:=by simp<;>omega
 have p48:(decide ((48:Int)≤(c.toNat:Int)))=false:=by simp<;>omega
 have p57:(decide ((c.toNat:Int)≤57))=true:=by simp<;>omega
 have hx:bits BinOp.or IntKind.u8 (c.toNat:Int) 32=((c.toNat:Nat):Int):=by rw[za2 (by omega),if_pos (by omega)]
 have p97:(decide ((97:Int)≤bits BinOp.or IntKind.u8 (c.toNat:Int) 32))=false:=by rw[hx];simp<;>omega
 have p122:(decide (bits BinOp.or IntKind.u8 (c.toNat:Int) 32≤122))=true:=by rw[hx];simp<;>omega
 clear hx h1 h2 hv;go_enter Tryz.func180,Tryz.ntmps180;go_wp2;go_ret;exact⟨rfl,rfl⟩
theorem z5q(c:UInt8)(w:World)(h1:46≤c.toNat)(h2:c.toNat≤47):Calls Tryz.prog 180 #[.int .u8 (c.toNat:Int)] w (RetI w (zac c)):=by
 have hv:zac c=0:=by
  unfold zac letB;simp only[zah,decide_eq_true_eq]
  repeat' split
  all_goals omega
 rw[hv];have HI:=za9 (c:=c) (n := -1) (zd2 (by rw[zah];omega))
 have e32:((c.toNat:Int) == 32)=false:=by simp<;>omega
 have e9:((c.toNat:Int) == 9)=false:=by simp<;>omega
 have e10:((c.toNat:Int) == 10)=false:=by simp<;>omega
 have e95:((c.toNat:Int) == 95)=false:=by simp<;>omega
 have e45:((c.toNat:Int) == 45)=false:=by simp<;>omega
 have e34:((c.toNat:Int) == 34)=false:=by simp<;>omega
 have e35:((c.toNat:Int) == 35)=false:=by simp<;>omega
 have p48:(decide ((48:Int)≤(c.toNat:Int)))=false:=by simp<;>omega
 have p57:(decide ((c.toNat:Int)≤57))=true:=by simp<;>omega
 have hx:bits BinOp.or IntKind.u8 (c.toNat:Int) 32=((c.toNat:Nat):Int):=by rw[za2 (by omega),if_pos (by omega)]
 have p97:(decide ((97:Int)≤bits BinOp.or IntKind.u8 (c.toNat:Int) 32))=false:=by rw[hx];simp<;>omega
 have p122:(decide (bits BinOp.or IntKind.u8 (c.toNat:Int) 32≤122))=true:=by rw[hx];simp<;>omega
 clear hx h1 h2 hv;go_enter Tryz.func180,Tryz.ntmps180;go_wp2_with fail;refine(HI.out _).mono ?_;rintro e w' ⟨rfl,rfl⟩;go_wp2;go_ret;exact⟨rfl,rfl⟩
theorem z5p(c:UInt8)(w:World)(h1:48≤c.toNat)(h2:c.toNat≤57):Calls Tryz.prog 180 #[.int .u8 (c.toNat:Int)] w (RetI w (zac c)):=by
 have hv:zac c=2:=by
  unfold zac letB;simp only[zah,decide_eq_true_eq]
  repeat' split
  all_goals omega
 rw[hv]
 have e32:((c.toNat:Int) == 32)=false:=by simp<;>omega
 have e9:((c.toNat:Int) == 9)=false:=by simp<;>omega
 have e10:((c.toNat:Int) == 10)=false:=by simp<;>omega
 have e95:((c.toNat:Int) == 95)=false:=by simp<;>omega
 have e45:((c.toNat:Int) == 45)=false:=by simp<;>omega
 have e34:((c.toNat:Int) == 34)=false:=by simp<;>omega
 have e35:((c.toNat:Int) == 35)=false:=by simp<;>omega
 have p48:(decide ((48:Int)≤(c.toNat:Int)))=true:=by simp<;>omega
 have p57:(decide ((c.toNat:Int)≤57))=true:=by simp<;>omega
 have hx:bits BinOp.or IntKind.u8 (c.toNat:Int) 32=((c.toNat:Nat):Int):=by rw[za2 (by omega),if_pos (by omega)]
 have p97:(decide ((97:Int)≤bits BinOp.or IntKind.u8 (c.toNat:Int) 32))=false:=by rw[hx];simp<;>omega
 have p122:(decide (bits BinOp.or IntKind.u8 (c.toNat:Int) 32≤122))=true:=by rw[hx];simp<;>omega
 clear hx h1 h2 hv;go_enter Tryz.func180,Tryz.ntmps180;go_wp2;go_ret;exact⟨rfl,rfl⟩
theorem z5o(c:UInt8)(w:World)(h1:58≤c.toNat)(h2:c.toNat≤58):Calls Tryz.prog 180 #[.int .u8 (c.toNat:Int)] w (RetI w (zac c)):=by
 have hv:zac c=0:=by
  unfold zac letB;simp only[zah,decide_eq_true_eq]
  repeat' split
  all_goals omega
 rw[hv];have HI:=za9 (c:=c) (n := -1) (zd2 (by rw[zah];omega))
 have e32:((c.toNat:Int) == 32)=false:=by simp<;>omega
 have e9:((c.toNat:Int) == 9)=false:=by simp<;>omega
 have e10:((c.toNat:Int) == 10)=false:=by simp<;>omega
 have e95:((c.toNat:Int) == 95)=false:=by simp<;>omega
 have e45:((c.toNat:Int) == 45)=false:=by simp<;>omega
 have e34:((c.toNat:Int) == 34)=false:=by simp<;>omega
 have e35:((c.toNat:Int) == 35)=false:=by simp<;>omega
 have p48:(decide ((48:Int)≤(c.toNat:Int)))=true:=by simp<;>omega
 have p57:(decide ((c.toNat:Int)≤57))=false:=by simp<;>omega
 have hx:bits BinOp.or IntKind.u8 (c.toNat:Int) 32=((c.toNat:Nat):Int):=by rw[za2 (by omega),if_pos (by omega)]
 have p97:(decide ((97:Int)≤bits BinOp.or IntKind.u8 (c.toNat:Int) 32))=false:=by rw[hx];simp<;>omega
 have p122:(decide (bits BinOp.or IntKind.u8 (c.toNat:Int) 32≤122))=true:=by rw[hx];simp<;>omega
 clear hx h1 h2 hv;go_enter Tryz.func180,Tryz.ntmps180;go_wp2_with fail;refine(HI.out _).mono ?_;rintro e w' ⟨rfl,rfl⟩;go_wp2;go_ret;exact⟨rfl,rfl⟩
theorem z5n(c:UInt8)(w:World)(h1:59≤c.toNat)(h2:c.toNat≤59):Calls Tryz.prog 180 #[.int .u8 (c.toNat:Int)] w (RetI w (zac c)):=by
 have hv:zac c=5:=by
  unfold zac letB;simp only[zah,decide_eq_true_eq]
  repeat' split
  all_goals omega
 rw[hv]
 have HI:=za9 (c:=c) (n:=5) (by
  have:c=59:=UInt8.toNat_inj.1 (by show c.toNat=59;omega)
  rw[this];rfl)
 have e32:((c.toNat:Int) == 32)=false:=by simp<;>omega
 have e9:((c.toNat:Int) == 9)=false:=by simp<;>omega
 have e10:((c.toNat:Int) == 10)=false:=by simp<;>omega
 have e95:((c.toNat:Int) == 95)=false:=by simp<;>omega
 have e45:((c.toNat:Int) == 45)=false:=by simp<;>omega
 have e34:((c.toNat:Int) == 34)=false:=by simp<;>omega
 have e35:((c.toNat:Int) == 35)=false:=by simp<;>omega
 have p48:(decide ((48:Int)≤(c.toNat:Int)))=true:=by simp<;>omega
 have p57:(decide ((c.toNat:Int)≤57))=false:=by simp<;>omega
 have hx:bits BinOp.or IntKind.u8 (c.toNat:Int) 32=((c.toNat:Nat):Int):=by rw[za2 (by omega),if_pos (by omega)]
 have p97:(decide ((97:Int)≤bits BinOp.or IntKind.u8 (c.toNat:Int) 32))=false:=by rw[hx];simp<;>omega
 have p122:(decide (bits BinOp.or IntKind.u8 (c.toNat:Int) 32≤122))=true:=by rw[hx];simp<;>omega
 clear hx h1 h2 hv;go_enter Tryz.func180,Tryz.ntmps180;go_wp2_with fail;refine(HI.out _).mono ?_;rintro e w' ⟨rfl,rfl⟩;go_wp2;go_ret;exact⟨rfl,rfl⟩
theorem z5m(c:UInt8)(w:World)(h1:60≤c.toNat)(h2:c.toNat≤63):Calls Tryz.prog 180 #[.int .u8 (c.toNat:Int)] w (RetI w (zac c)):=by
 have hv:zac c=0:=by
  unfold zac letB;simp only[zah,decide_eq_true_eq]
  repeat' split
  all_goals omega
 rw[hv];have HI:=za9 (c:=c) (n := -1) (zd2 (by rw[zah];omega))
 have e32:((c.toNat:Int) == 32)=false:=by simp<;>omega
 have e9:((c.toNat:Int) == 9)=false:=by simp<;>omega
 have e10:((c.toNat:Int) == 10)=false:=by simp<;>omega
 have e95:((c.toNat:Int) == 95)=false:=by simp<;>omega
 have e45:((c.toNat:Int) == 45)=false:=by simp<;>omega
 have e34:((c.toNat:Int) == 34)=false:=by simp<;>omega
 have e35:((c.toNat:Int) == 35)=false:=by simp<;>omega
 have p48:(decide ((48:Int)≤(c.toNat:Int)))=true:=by simp<;>omega
 have p57:(decide ((c.toNat:Int)≤57))=false:=by simp<;>omega
 have hx:bits BinOp.or IntKind.u8 (c.toNat:Int) 32=((c.toNat:Nat):Int):=by rw[za2 (by omega),if_pos (by omega)]
 have p97:(decide ((97:Int)≤bits BinOp.or IntKind.u8 (c.toNat:Int) 32))=false:=by rw[hx];simp<;>omega
 have p122:(decide (bits BinOp.or IntKind.u8 (c.toNat:Int) 32≤122))=true:=by rw[hx];simp<;>omega
 clear hx h1 h2 hv;go_enter Tryz.func180,Tryz.ntmps180;go_wp2_with fail;refine(HI.out _).mono ?_;rintro e w' ⟨rfl,rfl⟩;go_wp2;go_ret;exact⟨rfl,rfl⟩
theorem z5l(c:UInt8)(w:World)(h1:64≤c.toNat)(h2:c.toNat≤64):Calls Tryz.prog 180 #[.int .u8 (c.toNat:Int)] w (RetI w (zac c)):=by
 have hv:zac c=5:=by
  unfold zac letB;simp only[zah,decide_eq_true_eq]
  repeat' split
  all_goals omega
 rw[hv]
 have HI:=za9 (c:=c) (n:=6) (by
  have:c=64:=UInt8.toNat_inj.1 (by show c.toNat=64;omega)
  rw[this];rfl)
 have e32:((c.toNat:Int) == 32)=false:=by simp<;>omega
 have e9:((c.toNat:Int) == 9)=false:=by simp<;>omega
 have e10:((c.toNat:Int) == 10)=false:=by simp<;>omega
 have e95:((c.toNat:Int) == 95)=false:=by simp<;>omega
 have e45:((c.toNat:Int) == 45)=false:=by simp<;>omega
 have e34:((c.toNat:Int) == 34)=false:=by simp<;>omega
 have e35:((c.toNat:Int) == 35)=false:=by simp<;>omega
 have p48:(decide ((48:Int)≤(c.toNat:Int)))=true:=by simp<;>omega
 have p57:(decide ((c.toNat:Int)≤57))=false:=by simp<;>omega
 have hx:bits BinOp.or IntKind.u8 (c.toNat:Int) 32=((c.toNat+32:Nat):Int):=by rw[za2 (by omega),if_neg (by omega)]
 have p97:(decide ((97:Int)≤bits BinOp.or IntKind.u8 (c.toNat:Int) 32))=false:=by rw[hx];simp<;>omega
 have p122:(decide (bits BinOp.or IntKind.u8 (c.toNat:Int) 32≤122))=true:=by rw[hx];simp<;>omega
 clear hx h1 h2 hv;go_enter Tryz.func180,Tryz.ntmps180;go_wp2_with fail;refine(HI.out _).mono ?_;rintro e w' ⟨rfl,rfl⟩;go_wp2;go_ret;exact⟨rfl,rfl⟩
theorem z5k(c:UInt8)(w:World)(h1:65≤c.toNat)(h2:c.toNat≤90):Calls Tryz.prog 180 #[.int .u8 (c.toNat:Int)] w (RetI w (zac c)):=by
 have hv:zac c=3:=by
  unfold zac letB;simp only[zah,decide_eq_true_eq]
  repeat' split
  all_goals omega
 rw[hv]
 have e32:((c.toNat:Int) == 32)=false:=by simp<;>omega
 have e9:((c.toNat:Int) == 9)=false:=by simp<;>omega
 have e10:((c.toNat:Int) == 10)=false:=by simp<;>omega
 have e95:((c.toNat:Int) == 95)=false:=by simp<;>omega
 have e45:((c.toNat:Int) == 45)=false:=by simp<;>omega
 have e34:((c.toNat:Int) == 34)=false:=by simp<;>omega
 have e35:((c.toNat:Int) == 35)=false:=by simp<;>omega
 have p48:(decide ((48:Int)≤(c.toNat:Int)))=true:=by simp<;>omega
 have p57:(decide ((c.toNat:Int)≤57))=false:=by simp<;>omega
 have hx:bits BinOp.or IntKind.u8 (c.toNat:Int) 32=((c.toNat+32:Nat):Int):=by rw[za2 (by omega),if_neg (by omega)]
 have p97:(decide ((97:Int)≤bits BinOp.or IntKind.u8 (c.toNat:Int) 32))=true:=by rw[hx];simp<;>omega
 have p122:(decide (bits BinOp.or IntKind.u8 (c.toNat:Int) 32≤122))=true:=by rw[hx];simp<;>omega
 clear hx h1 h2 hv;go_enter Tryz.func180,Tryz.ntmps180;go_wp2;go_ret;exact⟨rfl,rfl⟩
theorem z5j(c:UInt8)(w:World)(h1:91≤c.toNat)(h2:c.toNat≤94):Calls Tryz.prog 180 #[.int .u8 (c.toNat:Int)] w (RetI w (zac c)):=by
 have hv:zac c=0:=by
  unfold zac letB;simp only[zah,decide_eq_true_eq]
  repeat' split
  all_goals omega
 rw[hv];have HI:=za9 (c:=c) (n := -1) (zd2 (by rw[zah];omega))
 have e32:((c.toNat:Int) == 32)=false:=by simp<;>omega
 have e9:((c.toNat:Int) == 9)=false:=by simp<;>omega
 have e10:((c.toNat:Int) == 10)=false:=by simp<;>omega
 have e95:((c.toNat:Int) == 95)=false:=by simp<;>omega
 have e45:((c.toNat:Int) == 45)=false:=by simp<;>omega
 have e34:((c.toNat:Int) == 34)=false:=by simp<;>omega
 have e35:((c.toNat:Int) == 35)=false:=by simp<;>omega
 have p48:(decide ((48:Int)≤(c.toNat:Int)))=true:=by simp<;>omega
 have p57:(decide ((c.toNat:Int)≤57))=false:=by simp<;>omega
 have hx:bits BinOp.or IntKind.u8 (c.toNat:Int) 32=((c.toNat+32:Nat):Int):=by rw[za2 (by omega),if_neg (by omega)]
 have p97:(decide ((97:Int)≤bits BinOp.or IntKind.u8 (c.toNat:Int) 32))=true:=by rw[hx];simp<;>omega
 have p122:(decide (bits BinOp.or IntKind.u8 (c.toNat:Int) 32≤122))=false:=by rw[hx];simp<;>omega
 clear hx h1 h2 hv;go_enter Tryz.func180,Tryz.ntmps180;go_wp2_with fail;refine(HI.out _).mono ?_;rintro e w' ⟨rfl,rfl⟩;go_wp2;go_ret;exact⟨rfl,rfl⟩
theorem z5i(c:UInt8)(w:World)(h1:95≤c.toNat)(h2:c.toNat≤95):Calls Tryz.prog 180 #[.int .u8 (c.toNat:Int)] w (RetI w (zac c)):=by
 have hv:zac c=4:=by
  unfold zac letB;simp only[zah,decide_eq_true_eq]
  repeat' split
  all_goals omega
 rw[hv]
 have e32:((c.toNat:Int) == 32)=false:=by simp<;>omega
 have e9:((c.toNat:Int) == 9)=false:=by simp<;>omega
 have e10:((c.toNat:Int) == 10)=false:=by simp<;>omega
 have e95:((c.toNat:Int) == 95)=true:=by simp<;>omega
 have e45:((c.toNat:Int) == 45)=false:=by simp<;>omega
 have e34:((c.toNat:Int) == 34)=false:=by simp<;>omega
 have e35:((c.toNat:Int) == 35)=false:=by simp<;>omega
 have p48:(decide ((48:Int)≤(c.toNat:Int)))=true:=by simp<;>omega
 have p57:(decide ((c.toNat:Int)≤57))=false:=by simp<;>omega
 have hx:bits BinOp.or IntKind.u8 (c.toNat:Int) 32=((c.toNat+32:Nat):Int):=by rw[za2 (by omega),if_neg (by omega)]
 have p97:(decide ((97:Int)≤bits BinOp.or IntKind.u8 (c.toNat:Int) 32))=true:=by rw[hx];simp<;>omega
 have p122:(decide (bits BinOp.or IntKind.u8 (c.toNat:Int) 32≤122))=false:=by rw[hx];simp<;>omega
 clear hx h1 h2 hv;go_enter Tryz.func180,Tryz.ntmps180;go_wp2;go_ret;exact⟨rfl,rfl⟩
theorem z5h(c:UInt8)(w:World)(h1:96≤c.toNat)(h2:c.toNat≤96):Calls Tryz.prog 180 #[.int .u8 (c.toNat:Int)] w (RetI w (zac c)):=by
 have hv:zac c=0:=by
  unfold zac letB;simp only[zah,decide_eq_true_eq]
  repeat' split
  all_goals omega
 rw[hv];have HI:=za9 (c:=c) (n := -1) (zd2 (by rw[zah];omega))
 have e32:((c.toNat:Int) == 32)=false:=by simp<;>omega
 have e9:((c.toNat:Int) == 9)=false:=by simp<;>omega
 have e10:((c.toNat:Int) == 10)=false:=by simp<;>omega
 have e95:((c.toNat:Int) == 95)=false:=by simp<;>omega
 have e45:((c.toNat:Int) == 45)=false:=by simp<;>omega
 have e34:((c.toNat:Int) == 34)=false:=by simp<;>omega
 have e35:((c.toNat:Int) == 35)=false:=by simp<;>omega
 have p48:(decide ((48:Int)≤(c.toNat:Int)))=true:=by simp<;>omega
 have p57:(decide ((c.toNat:Int)≤57))=false:=by simp<;>omega
 have hx:bits BinOp.or IntKind.u8 (c.toNat:Int) 32=((c.toNat:Nat):Int):=by rw[za2 (by omega),if_pos (by omega)]
 have p97:(decide ((97:Int)≤bits BinOp.or IntKind.u8 (c.toNat:Int) 32))=false:=by rw[hx];simp<;>omega
 have p122:(decide (bits BinOp.or IntKind.u8 (c.toNat:Int) 32≤122))=true:=by rw[hx];simp<;>omega
 clear hx h1 h2 hv;go_enter Tryz.func180,Tryz.ntmps180;go_wp2_with fail;refine(HI.out _).mono ?_;rintro e w' ⟨rfl,rfl⟩;go_wp2;go_ret;exact⟨rfl,rfl⟩
theorem z5g(c:UInt8)(w:World)(h1:97≤c.toNat)(h2:c.toNat≤122):Calls Tryz.prog 180 #[.int .u8 (c.toNat:Int)] w (RetI w (zac c)):=by
 have hv:zac c=3:=by
  unfold zac letB;simp only[zah,decide_eq_true_eq]
  repeat' split
  all_goals omega
 rw[hv]
 have e32:((c.toNat:Int) == 32)=false:=by simp<;>omega
 have e9:((c.toNat:Int) == 9)=false:=by simp<;>omega
 have e10:((c.toNat:Int) == 10)=false:=by simp<;>omega
 have e95:((c.toNat:Int) == 95)=false:=by simp<;>omega
 have e45:((c.toNat:Int) == 45)=false:=by simp<;>omega
 have e34:((c.toNat:Int) == 34)=false:=by simp<;>omega
 have e35:((c.toNat:Int) == 35)=false:=by simp<;>omega
 have p48:(decide ((48:Int)≤(c.toNat:Int)))=true:=by simp<;>omega
 have p57:(decide ((c.toNat:Int)≤57))=false:=by simp<;>omega
 have hx:bits BinOp.or IntKind.u8 (c.toNat:Int) 32=((c.toNat:Nat):Int):=by rw[za2 (by omega),if_pos (by omega)]
 have p97:(decide ((97:Int)≤bits BinOp.or IntKind.u8 (c.toNat:Int) 32))=true:=by rw[hx];simp<;>omega
 have p122:(decide (bits BinOp.or IntKind.u8 (c.toNat:Int) 32≤122))=true:=by rw[hx];simp<;>omega
 clear hx h1 h2 hv;go_enter Tryz.func180,Tryz.ntmps180;go_wp2;go_ret;exact⟨rfl,rfl⟩
theorem z0t(c:UInt8)(w:World)(h1:123≤c.toNat)(h2:c.toNat≤123):Calls Tryz.prog 180 #[.int .u8 (c.toNat:Int)] w (RetI w (zac c)):=by
 have hv:zac c=5:=by
  unfold zac letB;simp only[zah,decide_eq_true_eq]
  repeat' split
  all_goals omega
 rw[hv]
 have HI:=za9 (c:=c) (n:=2) (by
  have:c=123:=UInt8.toNat_inj.1 (by show c.toNat=123;omega)
  rw[this];rfl)
 have e32:((c.toNat:Int) == 32)=false:=by simp<;>omega
 have e9:((c.toNat:Int) == 9)=false:=by simp<;>omega
 have e10:((c.toNat:Int) == 10)=false:=by simp<;>omega
 have e95:((c.toNat:Int) == 95)=false:=by simp<;>omega
 have e45:((c.toNat:Int) == 45)=false:=by simp<;>omega
 have e34:((c.toNat:Int) == 34)=false:=by simp<;>omega
 have e35:((c.toNat:Int) == 35)=false:=by simp<;>omega
 have p48:(decide ((48:Int)≤(c.toNat:Int)))=true:=by simp<;>omega
 have p57:(decide ((c.toNat:Int)≤57))=false:=by simp<;>omega
 have hx:bits BinOp.or IntKind.u8 (c.toNat:Int) 32=((c.toNat:Nat):Int):=by rw[za2 (by omega),if_pos (by omega)]
 have p97:(decide ((97:Int)≤bits BinOp.or IntKind.u8 (c.toNat:Int) 32))=true:=by rw[hx];simp<;>omega
 have p122:(decide (bits BinOp.or IntKind.u8 (c.toNat:Int) 32≤122))=false:=by rw[hx];simp<;>omega
 clear hx h1 h2 hv;go_enter Tryz.func180,Tryz.ntmps180;go_wp2_with fail;refine(HI.out _).mono ?_;rintro e w' ⟨rfl,rfl⟩;go_wp2;go_ret;exact⟨rfl,rfl⟩
theorem z0s(c:UInt8)(w:World)(h1:124≤c.toNat)(h2:c.toNat≤124):Calls Tryz.prog 180 #[.int .u8 (c.toNat:Int)] w (RetI w (zac c)):=by
 have hv:zac c=0:=by
  unfold zac letB;simp only[zah,decide_eq_true_eq]
  repeat' split
  all_goals omega
 rw[hv];have HI:=za9 (c:=c) (n := -1) (zd2 (by rw[zah];omega))
 have e32:((c.toNat:Int) == 32)=false:=by simp<;>omega
 have e9:((c.toNat:Int) == 9)=false:=by simp<;>omega
 have e10:((c.toNat:Int) == 10)=false:=by simp<;>omega
 have e95:((c.toNat:Int) == 95)=false:=by simp<;>omega
 have e45:((c.toNat:Int) == 45)=false:=by simp<;>omega
 have e34:((c.toNat:Int) == 34)=false:=by simp<;>omega
 have e35:((c.toNat:Int) == 35)=false:=by simp<;>omega
 have p48:(decide ((48:Int)≤(c.toNat:Int)))=true:=by simp<;>omega
 have p57:(decide ((c.toNat:Int)≤57))=false:=by simp<;>omega
 have hx:bits BinOp.or IntKind.u8 (c.toNat:Int) 32=((c.toNat:Nat):Int):=by rw[za2 (by omega),if_pos (by omega)]
 have p97:(decide ((97:Int)≤bits BinOp.or IntKind.u8 (c.toNat:Int) 32))=true:=by rw[hx];simp<;>omega
 have p122:(decide (bits BinOp.or IntKind.u8 (c.toNat:Int) 32≤122))=false:=by rw[hx];simp<;>omega
 clear hx h1 h2 hv;go_enter Tryz.func180,Tryz.ntmps180;go_wp2_with fail;refine(HI.out _).mono ?_;rintro e w' ⟨rfl,rfl⟩;go_wp2;go_ret;exact⟨rfl,rfl⟩
theorem z0r(c:UInt8)(w:World)(h1:125≤c.toNat)(h2:c.toNat≤125):Calls Tryz.prog 180 #[.int .u8 (c.toNat:Int)] w (RetI w (zac c)):=by
 have hv:zac c=5:=by
  unfold zac letB;simp only[zah,decide_eq_true_eq]
  repeat' split
  all_goals omega
 rw[hv]
 have HI:=za9 (c:=c) (n:=3) (by
  have:c=125:=UInt8.toNat_inj.1 (by show c.toNat=125;omega)
  rw[this];rfl)
 have e32:((c.toNat:Int) == 32)=false:=by simp<;>omega
 have e9:((c.toNat:Int) == 9)=false:=by simp<;>omega
 have e10:((c.toNat:Int) == 10)=false:=by simp<;>omega
 have e95:((c.toNat:Int) == 95)=false:=by simp<;>omega
 have e45:((c.toNat:Int) == 45)=false:=by simp<;>omega
 have e34:((c.toNat:Int) == 34)=false:=by simp<;>omega
 have e35:((c.toNat:Int) == 35)=false:=by simp<;>omega
 have p48:(decide ((48:Int)≤(c.toNat:Int)))=true:=by simp<;>omega
 have p57:(decide ((c.toNat:Int)≤57))=false:=by simp<;>omega
 have hx:bits BinOp.or IntKind.u8 (c.toNat:Int) 32=((c.toNat:Nat):Int):=by rw[za2 (by omega),if_pos (by omega)]
 have p97:(decide ((97:Int)≤bits BinOp.or IntKind.u8 (c.toNat:Int) 32))=true:=by rw[hx];simp<;>omega
 have p122:(decide (bits BinOp.or IntKind.u8 (c.toNat:Int) 32≤122))=false:=by rw[hx];simp<;>omega
 clear hx h1 h2 hv;go_enter Tryz.func180,Tryz.ntmps180;go_wp2_with fail;refine(HI.out _).mono ?_;rintro e w' ⟨rfl,rfl⟩;go_wp2;go_ret;exact⟨rfl,rfl⟩
theorem z0q(c:UInt8)(w:World)(h1:126≤c.toNat)(h2:c.toNat≤127):Calls Tryz.prog 180 #[.int .u8 (c.toNat:Int)] w (RetI w (zac c)):=by
 have hv:zac c=0:=by
  unfold zac letB;simp only[zah,decide_eq_true_eq]
  repeat' split
  all_goals omega
 rw[hv];have HI:=za9 (c:=c) (n := -1) (zd2 (by rw[zah];omega))
 have e32:((c.toNat:Int) == 32)=false:=by simp<;>omega
 have e9:((c.toNat:Int) == 9)=false:=by simp<;>omega
 have e10:((c.toNat:Int) == 10)=false:=by simp<;>omega
 have e95:((c.toNat:Int) == 95)=false:=by simp<;>omega
 have e45:((c.toNat:Int) == 45)=false:=by simp<;>omega
 have e34:((c.toNat:Int) == 34)=false:=by simp<;>omega
 have e35:((c.toNat:Int) == 35)=false:=by simp<;>omega
 have p48:(decide ((48:Int)≤(c.toNat:Int)))=true:=by simp<;>omega
 have p57:(decide ((c.toNat:Int)≤57))=false:=by simp<;>omega
 have hx:bits BinOp.or IntKind.u8 (c.toNat:Int) 32=((c.toNat:Nat):Int):=by rw[za2 (by omega),if_pos (by omega)]
 have p97:(decide ((97:Int)≤bits BinOp.or IntKind.u8 (c.toNat:Int) 32))=true:=by rw[hx];simp<;>omega
 have p122:(decide (bits BinOp.or IntKind.u8 (c.toNat:Int) 32≤122))=false:=by rw[hx];simp<;>omega
 clear hx h1 h2 hv;go_enter Tryz.func180,Tryz.ntmps180;go_wp2_with fail;refine(HI.out _).mono ?_;rintro e w' ⟨rfl,rfl⟩;go_wp2;go_ret;exact⟨rfl,rfl⟩
theorem z0p(c:UInt8)(w:World)(h1:128≤c.toNat)(h2:c.toNat≤159):Calls Tryz.prog 180 #[.int .u8 (c.toNat:Int)] w (RetI w (zac c)):=by
 have hv:zac c=0:=by
  unfold zac letB;simp only[zah,decide_eq_true_eq]
  repeat' split
  all_goals omega
 rw[hv];have HI:=za9 (c:=c) (n := -1) (zd2 (by rw[zah];omega))
 have e32:((c.toNat:Int) == 32)=false:=by simp<;>omega
 have e9:((c.toNat:Int) == 9)=false:=by simp<;>omega
 have e10:((c.toNat:Int) == 10)=false:=by simp<;>omega
 have e95:((c.toNat:Int) == 95)=false:=by simp<;>omega
 have e45:((c.toNat:Int) == 45)=false:=by simp<;>omega
 have e34:((c.toNat:Int) == 34)=false:=by simp<;>omega
 have e35:((c.toNat:Int) == 35)=false:=by simp<;>omega
 have p48:(decide ((48:Int)≤(c.toNat:Int)))=true:=by simp<;>omega
 have p57:(decide ((c.toNat:Int)≤57))=false:=by simp<;>omega
 have hx:bits BinOp.or IntKind.u8 (c.toNat:Int) 32=((c.toNat+32:Nat):Int):=by rw[za2 (by omega),if_neg (by omega)]
 have p97:(decide ((97:Int)≤bits BinOp.or IntKind.u8 (c.toNat:Int) 32))=true:=by rw[hx];simp<;>omega
 have p122:(decide (bits BinOp.or IntKind.u8 (c.toNat:Int) 32≤122))=false:=by rw[hx];simp<;>omega
 clear hx h1 h2 hv;go_enter Tryz.func180,Tryz.ntmps180;go_wp2_with fail;refine(HI.out _).mono ?_;rintro e w' ⟨rfl,rfl⟩;go_wp2;go_ret;exact⟨rfl,rfl⟩
theorem z0o(c:UInt8)(w:World)(h1:160≤c.toNat)(h2:c.toNat≤191):Calls Tryz.prog 180 #[.int .u8 (c.toNat:Int)] w (RetI w (zac c)):=by
 have hv:zac c=0:=by
  unfold zac letB;simp only[zah,decide_eq_true_eq]
  repeat' split
  all_goals omega
 rw[hv];have HI:=za9 (c:=c) (n := -1) (zd2 (by rw[zah];omega))
 have e32:((c.toNat:Int) == 32)=false:=by simp<;>omega
 have e9:((c.toNat:Int) == 9)=false:=by simp<;>omega
 have e10:((c.toNat:Int) == 10)=false:=by simp<;>omega
 have e95:((c.toNat:Int) == 95)=false:=by simp<;>omega
 have e45:((c.toNat:Int) == 45)=false:=by simp<;>omega
 have e34:((c.toNat:Int) == 34)=false:=by simp<;>omega
 have e35:((c.toNat:Int) == 35)=false:=by simp<;>omega
 have p48:(decide ((48:Int)≤(c.toNat:Int)))=true:=by simp<;>omega
 have p57:(decide ((c.toNat:Int)≤57))=false:=by simp<;>omega
 have hx:bits BinOp.or IntKind.u8 (c.toNat:Int) 32=((c.toNat:Nat):Int):=by rw[za2 (by omega),if_pos (by omega)]
 have p97:(decide ((97:Int)≤bits BinOp.or IntKind.u8 (c.toNat:Int) 32))=true:=by rw[hx];simp<;>omega
 have p122:(decide (bits BinOp.or IntKind.u8 (c.toNat:Int) 32≤122))=false:=by rw[hx];simp<;>omega
 clear hx h1 h2 hv;go_enter Tryz.func180,Tryz.ntmps180;go_wp2_with fail;refine(HI.out _).mono ?_;rintro e w' ⟨rfl,rfl⟩;go_wp2;go_ret;exact⟨rfl,rfl⟩
theorem z0n(c:UInt8)(w:World)(h1:192≤c.toNat)(h2:c.toNat≤223):Calls Tryz.prog 180 #[.int .u8 (c.toNat:Int)] w (RetI w (zac c)):=by
 have hv:zac c=0:=by
  unfold zac letB;simp only[zah,decide_eq_true_eq]
  repeat' split
  all_goals omega
 rw[hv];have HI:=za9 (c:=c) (n := -1) (zd2 (by rw[zah];omega))
 have e32:((c.toNat:Int) == 32)=false:=by simp<;>omega
 have e9:((c.toNat:Int) == 9)=false:=by simp<;>omega
 have e10:((c.toNat:Int) == 10)=false:=by simp<;>omega
 have e95:((c.toNat:Int) == 95)=false:=by simp<;>omega
 have e45:((c.toNat:Int) == 45)=false:=by simp<;>omega
 have e34:((c.toNat:Int) == 34)=false:=by simp<;>omega
 have e35:((c.toNat:Int) == 35)=false:=by simp<;>omega
 have p48:(decide ((48:Int)≤(c.toNat:Int)))=true:=by simp<;>omega
 have p57:(decide ((c.toNat:Int)≤57))=false:=by simp<;>omega
 have hx:bits BinOp.or IntKind.u8 (c.toNat:Int) 32=((c.toNat+32:Nat):Int):=by rw[za2 (by omega),if_neg (by omega)]
 have p97:(decide ((97:Int)≤bits BinOp.or IntKind.u8 (c.toNat:Int) 32))=true:=by rw[hx];simp<;>omega
 have p122:(decide (bits BinOp.or IntKind.u8 (c.toNat:Int) 32≤122))=false:=by rw[hx];simp<;>omega
 clear hx h1 h2 hv;go_enter Tryz.func180,Tryz.ntmps180;go_wp2_with fail;refine(HI.out _).mono ?_;rintro e w' ⟨rfl,rfl⟩;go_wp2;go_ret;exact⟨rfl,rfl⟩
theorem z0m(c:UInt8)(w:World)(h1:224≤c.toNat)(h2:c.toNat≤255):Calls Tryz.prog 180 #[.int .u8 (c.toNat:Int)] w (RetI w (zac c)):=by
 have hv:zac c=0:=by
  unfold zac letB;simp only[zah,decide_eq_true_eq]
  repeat' split
  all_goals omega
 rw[hv];have HI:=za9 (c:=c) (n := -1) (zd2 (by rw[zah];omega))
 have e32:((c.toNat:Int) == 32)=false:=by simp<;>omega
 have e9:((c.toNat:Int) == 9)=false:=by simp<;>omega
 have e10:((c.toNat:Int) == 10)=false:=by simp<;>omega
 have e95:((c.toNat:Int) == 95)=false:=by simp<;>omega
 have e45:((c.toNat:Int) == 45)=false:=by simp<;>omega
 have e34:((c.toNat:Int) == 34)=false:=by simp<;>omega
 have e35:((c.toNat:Int) == 35)=false:=by simp<;>omega
 have p48:(decide ((48:Int)≤(c.toNat:Int)))=true:=by simp<;>omega
 have p57:(decide ((c.toNat:Int)≤57))=false:=by simp<;>omega
 have hx:bits BinOp.or IntKind.u8 (c.toNat:Int) 32=((c.toNat:Nat):Int):=by rw[za2 (by omega),if_pos (by omega)]
 have p97:(decide ((97:Int)≤bits BinOp.or IntKind.u8 (c.toNat:Int) 32))=true:=by rw[hx];simp<;>omega
 have p122:(decide (bits BinOp.or IntKind.u8 (c.toNat:Int) 32≤122))=false:=by rw[hx];simp<;>omega
 clear hx h1 h2 hv;go_enter Tryz.func180,Tryz.ntmps180;go_wp2_with fail;refine(HI.out _).mono ?_;rintro e w' ⟨rfl,rfl⟩;go_wp2;go_ret;exact⟨rfl,rfl⟩
theorem ziq(c:UInt8)(w:World):Calls Tryz.prog 180 #[.int .u8 (c.toNat:Int)] w (RetI w (zac c)):=by
 have hc:=c.toNat_lt
 rcases Nat.lt_or_ge 8 c.toNat with h8 |h8
 case inr=>exact yax c w (by omega) h8
 rcases Nat.lt_or_ge 9 c.toNat with h9 |h9
 case inr=>exact yaw c w (by omega) h9
 rcases Nat.lt_or_ge 10 c.toNat with Yi |Yi
 case inr=>exact z55 c w (by omega) Yi
 rcases Nat.lt_or_ge 31 c.toNat with h31 |h31
 case inr=>exact z54 c w (by omega) h31
 rcases Nat.lt_or_ge 32 c.toNat with h32 |h32
 case inr=>exact z52 c w (by omega) h32
 rcases Nat.lt_or_ge 33 c.toNat with h33 |h33
 case inr=>exact z50 c w (by omega) h33
 rcases Nat.lt_or_ge 34 c.toNat with Vf |Vf
 case inr=>exact z5z c w (by omega) Vf
 rcases Nat.lt_or_ge 35 c.toNat with SH |SH
 case inr=>exact z5y c w (by omega) SH
 rcases Nat.lt_or_ge 39 c.toNat with h39 |h39
 case inr=>exact z5x c w (by omega) h39
 rcases Nat.lt_or_ge 40 c.toNat with UD |UD
 case inr=>exact z5w c w (by omega) UD
 rcases Nat.lt_or_ge 41 c.toNat with h41 |h41
 case inr=>exact z5v c w (by omega) h41
 rcases Nat.lt_or_ge 42 c.toNat with h42 |h42
 case inr=>exact z5u c w (by omega) h42
 rcases Nat.lt_or_ge 43 c.toNat with h43 |h43
 case inr=>exact z5t c w (by omega) h43
 rcases Nat.lt_or_ge 44 c.toNat with h44 |h44
 case inr=>exact z5s c w (by omega) h44
 rcases Nat.lt_or_ge 45 c.toNat with XN |XN
 case inr=>exact z5r c w (by omega) XN
 rcases Nat.lt_or_ge 47 c.toNat with XZ |XZ
 case inr=>exact z5q c w (by omega) XZ
 rcases Nat.lt_or_ge 57 c.toNat with h57 |h57
 case inr=>exact z5p c w (by omega) h57
 rcases Nat.lt_or_ge 58 c.toNat with h58 |h58
 case inr=>exact z5o c w (by omega) h58
 rcases Nat.lt_or_ge 59 c.toNat with h59 |h59
 case inr=>exact z5n c w (by omega) h59
 rcases Nat.lt_or_ge 63 c.toNat with UE |UE
 case inr=>exact z5m c w (by omega) UE
 rcases Nat.lt_or_ge 64 c.toNat with h64 |h64
 case inr=>exact z5l c w (by omega) h64
 rcases Nat.lt_or_ge 90 c.toNat with h90 |h90
 case inr=>exact z5k c w (by omega) h90
 rcases Nat.lt_or_ge 94 c.toNat with h94 |h94
 case inr=>exact z5j c w (by omega) h94
 rcases Nat.lt_or_ge 95 c.toNat with h95 |h95
 case inr=>exact z5i c w (by omega) h95
 rcases Nat.lt_or_ge 96 c.toNat with h96 |h96
 case inr=>exact z5h c w (by omega) h96
 rcases Nat.lt_or_ge 122 c.toNat with Tg |Tg
 case inr=>exact z5g c w (by omega) Tg
 rcases Nat.lt_or_ge 123 c.toNat with Th |Th
 case inr=>exact z0t c w (by omega) Th
 rcases Nat.lt_or_ge 124 c.toNat with Ti |Ti
 case inr=>exact z0s c w (by omega) Ti
 rcases Nat.lt_or_ge 125 c.toNat with Tj |Tj
 case inr=>exact z0r c w (by omega) Tj
 rcases Nat.lt_or_ge 127 c.toNat with Tl |Tl
 case inr=>exact z0q c w (by omega) Tl
 rcases Nat.lt_or_ge 159 c.toNat with Tm |Tm
 case inr=>exact z0p c w (by omega) Tm
 rcases Nat.lt_or_ge 191 c.toNat with Tn |Tn
 case inr=>exact z0o c w (by omega) Tn
 rcases Nat.lt_or_ge 223 c.toNat with To |To
 case inr=>exact z0n c w (by omega) To
 exact z0m c w (by omega) (by omega)
theorem z4b(y:Nat)(w:World)(hy:y≤10000):Calls Tryz.prog 231 #[.int .i64 (y:Int)] w (RetB w (zjl y)):=by
 have hb:zjl y=(((y:Int) % 4 == 0) && (((y:Int) % 100 != 0) ||((y:Int) % 400 == 0))):=by
  unfold zjl;rw[Bool.eq_iff_iff];simp;omega
 rw[hb];obtain⟨b1,h1⟩:∃b,((y:Int) % 4 == 0)=b:=⟨_,rfl⟩
 obtain⟨b2,h2⟩:∃b,((y:Int) % 100 != 0)=b:=⟨_,rfl⟩
 obtain⟨b3,h3⟩:∃b,((y:Int) % 400 == 0)=b:=⟨_,rfl⟩
 rw[h1,h2,h3];clear hb
 cases b1<;>cases b2<;>cases b3
 all_goals
  go_enter Tryz.func231,Tryz.ntmps231;go_wp2;go_ret;exact⟨rfl,rfl⟩
theorem z9x(y:Nat):zb8 y 2=if zjl y=true then 29 else 28:=rfl
theorem zpp(y:Nat)(w:World)(hy:y≤10000):Calls Tryz.prog 230 #[.int .i64 (y:Int)] w (RetI w (zf7 y:Int)):=by
 obtain⟨a,ha⟩:∃a,a=y / 4:=⟨_,rfl⟩
 obtain⟨b,hb⟩:∃b,b=y / 100:=⟨_,rfl⟩
 obtain⟨c,hc⟩:∃c,c=y / 400:=⟨_,rfl⟩
 have ha':(y:Int) / 4=(a:Int):=by omega
 have hb':(y:Int) / 100=(b:Int):=by omega
 have hc':(y:Int) / 400=(c:Int):=by omega
 have hl:(zf7 y:Int)=(a:Int)-(b:Int)+(c:Int):=by unfold zf7;omega
 have l1:b≤a:=by omega
 have l2:a≤10000:=by omega
 have l3:c≤10000:=by omega
 rw[hl];clear hl ha hb hc;go_enter Tryz.func230,Tryz.ntmps230;go_wp2;go_ret;exact⟨rfl,rfl⟩
theorem zhb(y:Nat)(w:World)(h1:1900≤y)(hy:y≤10000):Calls Tryz.prog 208 #[.int .i64 (y:Int)] w (RetI w (yd y:Int)):=by
 obtain⟨k,rfl⟩:∃k,y=k+1:=⟨y-1,by omega⟩
 have hl:=ztk (y:=k) (by omega);have H1:=Z9 (fun W=>zpp k W (by omega));have H2:=Z9 (fun W=>zpp 1899 W (by omega));have e2:(zf7 1899:Int)=460:=by decide
 have hu:zf7 k≤10000:=by unfold zf7;omega
 obtain⟨L,hL⟩:∃L,L=zf7 k:=⟨_,rfl⟩
 have hy':(yd (k+1):Int)=365*((k:Int)+1-1900)+(L:Int)-460:=by unfold yd;rw[Nat.add_sub_cancel,←hL];omega
 rw[hy'];rw[←hL]at H1 hl hu;rw[e2]at H2;have ek:((k+1:Nat):Int)=(k:Int)+1:=by omega
 rw[ek];clear hy' hL e2 ek;go_enter Tryz.func208,Tryz.ntmps208;go_wp2_with fail;refine(H1.out _).mono ?_;rintro e w' ⟨rfl,rfl⟩;go_wp2_with fail;refine(H2.out _).mono ?_;rintro e w' ⟨rfl,rfl⟩;go_wp2;go_ret;exact⟨rfl,rfl⟩
def zgo(y:Nat):Array Value:=#[.int .i64 0,.int .i64 31,.int .i64 (zb8 y 2:Int),.int .i64 31,.int .i64 30,.int .i64 31,.int .i64 30,.int .i64 31,.int .i64 31,.int .i64 30,.int .i64 31,.int .i64 30,.int .i64 31]
theorem zk5(y m:Nat)(h1:1≤m)(h2:m≤12):(zgo y)[m]?=some (.int .i64 (zb8 y m:Int)):=by
 have hm:m=1∨m=2∨m=3∨m=4∨m=5∨m=6∨m=7∨m=8∨m=9∨m=10∨m=11∨m=12:=by omega
 rcases hm with rfl |rfl |rfl |rfl |rfl |rfl |rfl |rfl |rfl |rfl |rfl |rfl<;>rfl
theorem zfx(y:Nat)(w:World)(hy:y≤10000):Calls Tryz.prog 209 #[.int .i64 (y:Int)] w fun e w'=>e=.returned (.agg (zgo y))∧Below w.heap.size w w':=by
 have HL:=Z9 (fun W=>z4b y W hy);unfold zgo;rw[z9x];obtain⟨b,hb⟩:∃b,b=zjl y:=⟨_,rfl⟩
 rw[←hb]at HL ⊢;clear hb
 cases b
 ·go_enter Tryz.func209,Tryz.ntmps209
  go_wp2_with fail;refine(HL.out _).mono ?_;rintro e w' ⟨rfl,rfl⟩;go_wp2;refine bodyPost_ret (results_cell_row rfl _ _ w.heap.size 219 _ (0,0) _ rfl (zg8 _ _ _) Tryz.underlying219 rfl rfl) rfl ?_;exact⟨rfl,(zaa _ _).trans ((zaa _ _).mono (by simp))⟩
 ·go_enter Tryz.func209,Tryz.ntmps209
  go_wp2_with fail;refine(HL.out _).mono ?_;rintro e w' ⟨rfl,rfl⟩;go_wp2;refine bodyPost_ret (results_cell_row rfl _ _ w.heap.size 219 _ (0,0) _ rfl (zg8 _ _ _) Tryz.underlying219 rfl rfl) rfl ?_;exact⟨rfl,(zaa _ _).trans ((zaa _ _).mono (by simp))⟩
end Go.Proofs.YtkobkpepgdddeaaGreatDoor
