/-
  The program's Check of rationals. No condition. The program's Check of rationals, joined. No condition. Plain mathematics: products, dates, names. No condition. Names walked: the program's and the reference's. No condition. The sort of an expression (0: not well-formed; 1: a number; 2: a truth value). No program. The reference's Twin of an expression: a tree of its own, equal. No condition but lengths. The reference's Twin of an expression, walked. No condition but the size. The reference's Sort of an expression, walked. No condition but the size. The program's leaf, walked. No condition but the size. A tree that came in, opened, its kinds in a byte's range; the map of the shapes as it is laid. No condition. Contracts: the tree, the tree in memory, a tree that came in opened. No condition.
-/
import Derived.Test.YtijkefflpojmhaaGreatDoorZad
import Derived.Test.YtijkefflpojmhaaGreatDoorZae
import Derived.RegionTactic
import Derived.Test.YtijkefflpojmhaaGreatDoorZaa
import Derived.Deep.RegionLaw
import Derived.Deep.AppendLies
import Derived.Maps.Keyed
import Derived.JoinedTies
import Derived.LaidMore
import Derived.MakeChecks
namespace Go.Proofs.YtijkefflpojmhaaGreatDoor
open Go.RowKit Go.Shelf
theorem idx_slN (l:List UInt8):(Lib.indexByte l 47 = -1∧slN l=l.length) ∨ (Lib.indexByte l 47=(slN l:Int)∧slN l < l.length):=by
 have h0:=Lib.indexByte_ge l 47
 by_cases h:Lib.indexByte l 47 = -1
 ·exact .inl ⟨h,slN_none fun j _ => Lib.indexByte_none h j⟩
 ·right
  obtain ⟨o,ho⟩:∃ o:Nat,Lib.indexByte l 47=o:=⟨(Lib.indexByte l 47).toNat,by omega⟩
  obtain ⟨h1,h2⟩:=Lib.indexByte_some ho
  have hl:o < l.length:=by
   rcases Nat.lt_or_ge o l.length with h | h
   ·exact h
   ·rw [List.getElem?_eq_none h] at h1;cases h1
  have:=slN_at hl h2 h1
  rw [this];exact ⟨ho,hl⟩
def CutPost (w:World) (n d:ByteArray) (b:Bool) (e:Ending) (w':World):Prop:=e = .returned (.tuple #[.string n,.string d,.bool b])∧Below w.heap.size w w'
set_option maxHeartbeats 1000000 in
set_option maxRecDepth 100000 in
theorem scut_none (s:ByteArray) (w:World) (h:slN s.data.toList=s.data.toList.length) :
  Calls Tryz.prog 129 #[.string s,.string ⟨#[47]⟩] w (CutPost w s ByteArray.empty false):=by
 have hi:=Tryz.stringslite_Index_one s 47 w
 rcases idx_slN s.data.toList with ⟨e,_⟩ | ⟨_,e⟩
 ·rw [e] at hi
  have HI:=Lib.hid hi
  clear hi e h
  go_enter Tryz.func129,Tryz.ntmps129
  go_wp2_with fail
  refine HI.out.mono ?_
  rintro e w' ⟨rfl,rfl⟩
  go_wp2_with fail
  go_ret3
  exact ⟨rfl,Below.refl _ _⟩
 ·omega
set_option maxHeartbeats 1000000 in
set_option maxRecDepth 100000 in
theorem scut_at (s:ByteArray) (k:Nat) (w:World) (hs:s.size≤1000000) (h:slN s.data.toList=k) (hk:k < s.size) :
  Calls Tryz.prog 129 #[.string s,.string ⟨#[47]⟩] w (CutPost w (s.extract 0 k) (s.extract (k+1) s.size) true):=by
 have hi:=Tryz.stringslite_Index_one s 47 w
 rcases idx_slN s.data.toList with ⟨_,e⟩ | ⟨e,_⟩
 ·rw [data_len] at e;omega
 ·rw [e,h] at hi
  have HI:=Lib.hid hi
  clear hi e h
  go_enter Tryz.func129,Tryz.ntmps129
  go_wp2_with fail
  refine HI.out.mono ?_
  rintro e w' ⟨rfl,rfl⟩
  go_wp2_with fail
  go_region
  all_goals
   go_wp2_with fail
   go_ret3
   exact ⟨rfl,(Below.refl _ _).drew⟩
set_option maxHeartbeats 1000000 in
set_option maxRecDepth 100000 in
theorem cut_of (s n d:ByteArray) (b:Bool) (w:World) (h:Calls Tryz.prog 129 #[.string s,.string ⟨#[47]⟩] w (CutPost w n d b)) :
  Calls Tryz.prog 122 #[.string s,.string ⟨#[47]⟩] w (CutPost w n d b):=by
 have HC:=Lib.hid h
 clear h
 go_enter Tryz.func122,Tryz.ntmps122
 go_wp2_with fail
 refine HC.out.mono ?_
 rintro e w' ⟨rfl,b1⟩
 have B1:=Lib.hid b1
 clear b1
 go_wp2_with fail
 go_ret3
 exact ⟨rfl,B1.out⟩
set_option maxHeartbeats 1000000 in
set_option maxRecDepth 100000 in
theorem split_of (s n d:ByteArray) (b:Bool) (w:World) (h:Calls Tryz.prog 122 #[.string s,.string ⟨#[47]⟩] w (CutPost w n d b)) :
  Calls Tryz.prog 113 #[.string s] w (CutPost w n d b):=by
 have HC:=Lib.hid h
 clear h
 go_enter Tryz.func113,Tryz.ntmps113
 go_wp2_with fail
 refine HC.out.mono ?_
 rintro e w' ⟨rfl,b1⟩
 have B1:=Lib.hid b1
 clear b1
 go_wp2_with fail
 go_ret3
 exact ⟨rfl,B1.out⟩
def frmZ (l:List UInt8):Int:=if chkZ l=12 then 12 else 0
theorem chkZ_three (l:List UInt8):chkZ l=0 ∨ chkZ l=12 ∨ chkZ l=14:=by
 rcases chkZ_cases l with ⟨h,_⟩ | ⟨z,_,_,h⟩
 ·exact .inr (.inl h)
 ·rw [h];split
  ·exact .inr (.inr rfl)
  ·exact .inl rfl
set_option maxHeartbeats 1000000 in
set_option maxRecDepth 100000 in
theorem form_any (s:ByteArray) (w:World) (hs:s.size≤1000000) :
  Calls Tryz.prog 114 #[.string s] w fun e w' => e = .returned (.int .i64 (frmZ s.data.toList))∧w=w':=by
 have hc:=check_same s w hs
 unfold frmZ
 rcases chkZ_three s.data.toList with h | h | h <;> rw [h] at hc ⊢ <;> have HC:=Lib.hid hc <;> clear hc h
 all_goals
  go_enter Tryz.func114,Tryz.ntmps114
  go_wp2_with fail
  refine HC.out.mono ?_
  rintro e w' ⟨rfl,rfl⟩
  go_wp2_with fail
  go_ret
  exact ⟨rfl,rfl⟩
set_option maxHeartbeats 1000000 in
set_option maxRecDepth 100000 in
theorem qc_n (s n d:ByteArray) (b:Bool) (FN:Hid (∀ W,Calls Tryz.prog 114 #[.string n] W fun e w' => e = .returned (.int .i64 12)∧W=w'))  (w:World)
  (HW:Hid (Calls Tryz.prog 113 #[.string s] w (CutPost w n d b))) :
  Calls Tryz.prog 98 #[.string s] w (ErrPost w 12):=by
 go_enter Tryz.func98,Tryz.ntmps98
 go_wp2_with fail
 refine HW.out.mono ?_
 rintro e w1 ⟨rfl,b1⟩
 have B:=Lib.hid b1
 clear b1
 go_wp2_with fail
 refine (FN.out _).mono ?_
 rintro e w' ⟨rfl,rfl⟩
 go_wp2_with fail
 go_ret
 exact ⟨rfl,B.out⟩
set_option maxHeartbeats 1000000 in
set_option maxRecDepth 100000 in
theorem qc_i14 (s n d:ByteArray) (FN:Hid (∀ W,Calls Tryz.prog 114 #[.string n] W fun e w' => e = .returned (.int .i64 0)∧W=w')) (CN:Hid (∀ W,Calls Tryz.prog 115 #[.string n] W fun e w' => e = .returned (.int .i64 14)∧W=w'))  (w:World)
  (HW:Hid (Calls Tryz.prog 113 #[.string s] w (CutPost w n d false))) :
  Calls Tryz.prog 98 #[.string s] w (ErrPost w 14):=by
 go_enter Tryz.func98,Tryz.ntmps98
 go_wp2_with fail
 refine HW.out.mono ?_
 rintro e w1 ⟨rfl,b1⟩
 have B:=Lib.hid b1
 clear b1
 go_wp2_with fail
 refine (FN.out _).mono ?_
 rintro e w' ⟨rfl,rfl⟩
 go_wp2_with fail
 refine (CN.out _).mono ?_
 rintro e w' ⟨rfl,rfl⟩
 go_wp2_with fail
 go_ret
 exact ⟨rfl,B.out⟩
set_option maxHeartbeats 1000000 in
set_option maxRecDepth 100000 in
theorem qc_i0 (s n d:ByteArray) (FN:Hid (∀ W,Calls Tryz.prog 114 #[.string n] W fun e w' => e = .returned (.int .i64 0)∧W=w')) (CN:Hid (∀ W,Calls Tryz.prog 115 #[.string n] W fun e w' => e = .returned (.int .i64 0)∧W=w'))  (w:World)
  (HW:Hid (Calls Tryz.prog 113 #[.string s] w (CutPost w n d false))) :
  Calls Tryz.prog 98 #[.string s] w (ErrPost w 0):=by
 go_enter Tryz.func98,Tryz.ntmps98
 go_wp2_with fail
 refine HW.out.mono ?_
 rintro e w1 ⟨rfl,b1⟩
 have B:=Lib.hid b1
 clear b1
 go_wp2_with fail
 refine (FN.out _).mono ?_
 rintro e w' ⟨rfl,rfl⟩
 go_wp2_with fail
 refine (CN.out _).mono ?_
 rintro e w' ⟨rfl,rfl⟩
 go_wp2_with fail
 go_ret
 exact ⟨rfl,B.out⟩
set_option maxHeartbeats 1000000 in
set_option maxRecDepth 100000 in
theorem qc_d (s n d:ByteArray) (FN:Hid (∀ W,Calls Tryz.prog 114 #[.string n] W fun e w' => e = .returned (.int .i64 0)∧W=w')) (FD:Hid (∀ W,Calls Tryz.prog 114 #[.string d] W fun e w' => e = .returned (.int .i64 12)∧W=w'))  (w:World)
  (HW:Hid (Calls Tryz.prog 113 #[.string s] w (CutPost w n d true))) :
  Calls Tryz.prog 98 #[.string s] w (ErrPost w 12):=by
 go_enter Tryz.func98,Tryz.ntmps98
 go_wp2_with fail
 refine HW.out.mono ?_
 rintro e w1 ⟨rfl,b1⟩
 have B:=Lib.hid b1
 clear b1
 go_wp2_with fail
 refine (FN.out _).mono ?_
 rintro e w' ⟨rfl,rfl⟩
 go_wp2_with fail
 refine (FD.out _).mono ?_
 rintro e w' ⟨rfl,rfl⟩
 go_wp2_with fail
 go_ret
 exact ⟨rfl,B.out⟩
set_option maxHeartbeats 1000000 in
set_option maxRecDepth 100000 in
theorem qc_m (s n d:ByteArray) (FN:Hid (∀ W,Calls Tryz.prog 114 #[.string n] W fun e w' => e = .returned (.int .i64 0)∧W=w')) (FD:Hid (∀ W,Calls Tryz.prog 114 #[.string d] W fun e w' => e = .returned (.int .i64 0)∧W=w')) (h0:0 < d.size) (hm:((d[0].toNat:Int) == 45)=true)  (w:World)
  (HW:Hid (Calls Tryz.prog 113 #[.string s] w (CutPost w n d true))) :
  Calls Tryz.prog 98 #[.string s] w (ErrPost w 12):=by
 go_enter Tryz.func98,Tryz.ntmps98
 go_wp2_with fail
 refine HW.out.mono ?_
 rintro e w1 ⟨rfl,b1⟩
 have B:=Lib.hid b1
 clear b1
 go_wp2_with fail
 refine (FN.out _).mono ?_
 rintro e w' ⟨rfl,rfl⟩
 go_wp2_with fail
 refine (FD.out _).mono ?_
 rintro e w' ⟨rfl,rfl⟩
 go_wp2_with fail
 go_ret
 exact ⟨rfl,B.out⟩
set_option maxHeartbeats 1000000 in
set_option maxRecDepth 100000 in
theorem qc_0 (s n d:ByteArray) (FN:Hid (∀ W,Calls Tryz.prog 114 #[.string n] W fun e w' => e = .returned (.int .i64 0)∧W=w')) (FD:Hid (∀ W,Calls Tryz.prog 114 #[.string d] W fun e w' => e = .returned (.int .i64 0)∧W=w')) (h0:0 < d.size) (hm:((d[0].toNat:Int) == 45)=false) (d0:(d.toList == [48])=true)  (w:World)
  (HW:Hid (Calls Tryz.prog 113 #[.string s] w (CutPost w n d true))) :
  Calls Tryz.prog 98 #[.string s] w (ErrPost w 12):=by
 go_enter Tryz.func98,Tryz.ntmps98
 go_wp2_with fail
 refine HW.out.mono ?_
 rintro e w1 ⟨rfl,b1⟩
 have B:=Lib.hid b1
 clear b1
 go_wp2_with fail
 refine (FN.out _).mono ?_
 rintro e w' ⟨rfl,rfl⟩
 go_wp2_with fail
 refine (FD.out _).mono ?_
 rintro e w' ⟨rfl,rfl⟩
 go_wp2_with fail
 go_ret
 exact ⟨rfl,B.out⟩
set_option maxHeartbeats 1000000 in
set_option maxRecDepth 100000 in
theorem qc_1 (s n d:ByteArray) (FN:Hid (∀ W,Calls Tryz.prog 114 #[.string n] W fun e w' => e = .returned (.int .i64 0)∧W=w')) (FD:Hid (∀ W,Calls Tryz.prog 114 #[.string d] W fun e w' => e = .returned (.int .i64 0)∧W=w')) (h0:0 < d.size) (hm:((d[0].toNat:Int) == 45)=false) (d0:(d.toList == [48])=false) (d1:(d.toList == [49])=true)  (w:World)
  (HW:Hid (Calls Tryz.prog 113 #[.string s] w (CutPost w n d true))) :
  Calls Tryz.prog 98 #[.string s] w (ErrPost w 12):=by
 go_enter Tryz.func98,Tryz.ntmps98
 go_wp2_with fail
 refine HW.out.mono ?_
 rintro e w1 ⟨rfl,b1⟩
 have B:=Lib.hid b1
 clear b1
 go_wp2_with fail
 refine (FN.out _).mono ?_
 rintro e w' ⟨rfl,rfl⟩
 go_wp2_with fail
 refine (FD.out _).mono ?_
 rintro e w' ⟨rfl,rfl⟩
 go_wp2_with fail
 go_ret
 exact ⟨rfl,B.out⟩
set_option maxHeartbeats 1000000 in
set_option maxRecDepth 100000 in
theorem qc_b1 (s n d:ByteArray) (FN:Hid (∀ W,Calls Tryz.prog 114 #[.string n] W fun e w' => e = .returned (.int .i64 0)∧W=w')) (FD:Hid (∀ W,Calls Tryz.prog 114 #[.string d] W fun e w' => e = .returned (.int .i64 0)∧W=w')) (h0:0 < d.size) (hm:((d[0].toNat:Int) == 45)=false) (d0:(d.toList == [48])=false) (d1:(d.toList == [49])=false) (CN:Hid (∀ W,Calls Tryz.prog 115 #[.string n] W fun e w' => e = .returned (.int .i64 14)∧W=w'))  (w:World)
  (HW:Hid (Calls Tryz.prog 113 #[.string s] w (CutPost w n d true))) :
  Calls Tryz.prog 98 #[.string s] w (ErrPost w 14):=by
 go_enter Tryz.func98,Tryz.ntmps98
 go_wp2_with fail
 refine HW.out.mono ?_
 rintro e w1 ⟨rfl,b1⟩
 have B:=Lib.hid b1
 clear b1
 go_wp2_with fail
 refine (FN.out _).mono ?_
 rintro e w' ⟨rfl,rfl⟩
 go_wp2_with fail
 refine (FD.out _).mono ?_
 rintro e w' ⟨rfl,rfl⟩
 go_wp2_with fail
 refine (CN.out _).mono ?_
 rintro e w' ⟨rfl,rfl⟩
 go_wp2_with fail
 go_ret
 exact ⟨rfl,B.out⟩
set_option maxHeartbeats 1000000 in
set_option maxRecDepth 100000 in
theorem qc_b2 (s n d:ByteArray) (FN:Hid (∀ W,Calls Tryz.prog 114 #[.string n] W fun e w' => e = .returned (.int .i64 0)∧W=w')) (FD:Hid (∀ W,Calls Tryz.prog 114 #[.string d] W fun e w' => e = .returned (.int .i64 0)∧W=w')) (h0:0 < d.size) (hm:((d[0].toNat:Int) == 45)=false) (d0:(d.toList == [48])=false) (d1:(d.toList == [49])=false) (CN:Hid (∀ W,Calls Tryz.prog 115 #[.string n] W fun e w' => e = .returned (.int .i64 0)∧W=w')) (CD:Hid (∀ W,Calls Tryz.prog 115 #[.string d] W fun e w' => e = .returned (.int .i64 14)∧W=w'))  (w:World)
  (HW:Hid (Calls Tryz.prog 113 #[.string s] w (CutPost w n d true))) :
  Calls Tryz.prog 98 #[.string s] w (ErrPost w 14):=by
 go_enter Tryz.func98,Tryz.ntmps98
 go_wp2_with fail
 refine HW.out.mono ?_
 rintro e w1 ⟨rfl,b1⟩
 have B:=Lib.hid b1
 clear b1
 go_wp2_with fail
 refine (FN.out _).mono ?_
 rintro e w' ⟨rfl,rfl⟩
 go_wp2_with fail
 refine (FD.out _).mono ?_
 rintro e w' ⟨rfl,rfl⟩
 go_wp2_with fail
 refine (CN.out _).mono ?_
 rintro e w' ⟨rfl,rfl⟩
 go_wp2_with fail
 refine (CD.out _).mono ?_
 rintro e w' ⟨rfl,rfl⟩
 go_wp2_with fail
 go_ret
 exact ⟨rfl,B.out⟩
set_option maxHeartbeats 1000000 in
set_option maxRecDepth 100000 in
theorem qc_gno (s n d:ByteArray) (FN:Hid (∀ W,Calls Tryz.prog 114 #[.string n] W fun e w' => e = .returned (.int .i64 0)∧W=w')) (FD:Hid (∀ W,Calls Tryz.prog 114 #[.string d] W fun e w' => e = .returned (.int .i64 0)∧W=w')) (h0:0 < d.size) (hm:((d[0].toNat:Int) == 45)=false) (d0:(d.toList == [48])=false) (d1:(d.toList == [49])=false) (CN:Hid (∀ W,Calls Tryz.prog 115 #[.string n] W fun e w' => e = .returned (.int .i64 0)∧W=w')) (CD:Hid (∀ W,Calls Tryz.prog 115 #[.string d] W fun e w' => e = .returned (.int .i64 0)∧W=w')) (g:ByteArray) (HG:Hid (∀ W,Calls Tryz.prog 116 #[.string n,.string d] W (GPost W g))) (hg:(g.toList == [49])=false)  (w:World)
  (HW:Hid (Calls Tryz.prog 113 #[.string s] w (CutPost w n d true))) :
  Calls Tryz.prog 98 #[.string s] w (ErrPost w 12):=by
 go_enter Tryz.func98,Tryz.ntmps98
 go_wp2_with fail
 refine HW.out.mono ?_
 rintro e w1 ⟨rfl,b1⟩
 have B:=Lib.hid b1
 clear b1
 go_wp2_with fail
 refine (FN.out _).mono ?_
 rintro e w' ⟨rfl,rfl⟩
 go_wp2_with fail
 refine (FD.out _).mono ?_
 rintro e w' ⟨rfl,rfl⟩
 go_wp2_with fail
 refine (CN.out _).mono ?_
 rintro e w' ⟨rfl,rfl⟩
 go_wp2_with fail
 refine (CD.out _).mono ?_
 rintro e w' ⟨rfl,rfl⟩
 go_wp2_with fail
 refine (HG.out _).mono ?_
 rintro e w4 ⟨rfl,b4⟩
 have B4:=Lib.hid (B.out.trans (b4.mono B.out.size))
 clear b4
 go_wp2_with fail
 go_ret
 exact ⟨rfl,B4.out⟩
set_option maxHeartbeats 1000000 in
set_option maxRecDepth 100000 in
theorem qc_gyes (s n d:ByteArray) (FN:Hid (∀ W,Calls Tryz.prog 114 #[.string n] W fun e w' => e = .returned (.int .i64 0)∧W=w')) (FD:Hid (∀ W,Calls Tryz.prog 114 #[.string d] W fun e w' => e = .returned (.int .i64 0)∧W=w')) (h0:0 < d.size) (hm:((d[0].toNat:Int) == 45)=false) (d0:(d.toList == [48])=false) (d1:(d.toList == [49])=false) (CN:Hid (∀ W,Calls Tryz.prog 115 #[.string n] W fun e w' => e = .returned (.int .i64 0)∧W=w')) (CD:Hid (∀ W,Calls Tryz.prog 115 #[.string d] W fun e w' => e = .returned (.int .i64 0)∧W=w')) (g:ByteArray) (HG:Hid (∀ W,Calls Tryz.prog 116 #[.string n,.string d] W (GPost W g))) (hg:(g.toList == [49])=true)  (w:World)
  (HW:Hid (Calls Tryz.prog 113 #[.string s] w (CutPost w n d true))) :
  Calls Tryz.prog 98 #[.string s] w (ErrPost w 0):=by
 go_enter Tryz.func98,Tryz.ntmps98
 go_wp2_with fail
 refine HW.out.mono ?_
 rintro e w1 ⟨rfl,b1⟩
 have B:=Lib.hid b1
 clear b1
 go_wp2_with fail
 refine (FN.out _).mono ?_
 rintro e w' ⟨rfl,rfl⟩
 go_wp2_with fail
 refine (FD.out _).mono ?_
 rintro e w' ⟨rfl,rfl⟩
 go_wp2_with fail
 refine (CN.out _).mono ?_
 rintro e w' ⟨rfl,rfl⟩
 go_wp2_with fail
 refine (CD.out _).mono ?_
 rintro e w' ⟨rfl,rfl⟩
 go_wp2_with fail
 refine (HG.out _).mono ?_
 rintro e w4 ⟨rfl,b4⟩
 have B4:=Lib.hid (B.out.trans (b4.mono B.out.size))
 clear b4
 go_wp2_with fail
 go_ret
 exact ⟨rfl,B4.out⟩
end Go.Proofs.YtijkefflpojmhaaGreatDoor

namespace Go.Proofs.YtijkefflpojmhaaGreatDoor
open Go.RowKit Go.Shelf
theorem form_is (s:ByteArray) (n:Int) (h:frmZ s.data.toList=n) (hs:s.size≤1000000) :
  ∀ W,Calls Tryz.prog 114 #[.string s] W fun e w' => e = .returned (.int .i64 n)∧W=w':=fun W => by
 have:=form_any s W hs
 rwa [h] at this
theorem check_is (s:ByteArray) (n:Int) (h:chkZ s.data.toList=n) (hs:s.size≤1000000) :
  ∀ W,Calls Tryz.prog 115 #[.string s] W fun e w' => e = .returned (.int .i64 n)∧W=w':=fun W => by
 have:=check_same s W hs
 rwa [h] at this
theorem frmZ_12 {l:List UInt8} (h:chkZ l=12):frmZ l=12:=by unfold frmZ;rw [if_pos h]
theorem frmZ_0 {l:List UInt8} (h:chkZ l ≠ 12):frmZ l=0:=by unfold frmZ;rw [if_neg h]
theorem qrat_int (s:ByteArray) (w:World) (hs:s.size≤100000) (h:slN s.data.toList=s.data.toList.length) :
  Calls Tryz.prog 98 #[.string s] w (ErrPost w (chkR s.data.toList)):=by
 have HW:Hid (Calls Tryz.prog 113 #[.string s] w (CutPost w s ByteArray.empty false)):=split_of _ _ _ _ w (cut_of _ _ _ _ w (scut_none s w h))
 rw [chkR_int h]
 rcases chkZ_three s.data.toList with e | e | e <;> rw [e]
 ·exact qc_i0 s s _ (form_is s 0 (frmZ_0 (by omega)) (by omega)) (check_is s 0 e (by omega)) w HW
 ·exact qc_n s s _ _ (form_is s 12 (frmZ_12 e) (by omega)) w HW
 ·exact qc_i14 s s _ (form_is s 0 (frmZ_0 (by omega)) (by omega)) (check_is s 14 e (by omega)) w HW
theorem qrat_frac (s:ByteArray) (k:Nat) (w:World) (hs:s.size≤100000) (h:slN s.data.toList=k) (hk:k < s.size) :
  Calls Tryz.prog 98 #[.string s] w (ErrPost w (chkR s.data.toList)):=by
 rw [chkR_frac h (by rw [data_len];exact hk)]
 have HW0:Calls Tryz.prog 113 #[.string s] w (CutPost w (s.extract 0 k) (s.extract (k+1) s.size) true):=split_of _ _ _ _ w (cut_of _ _ _ _ w (scut_at s k w (by omega) h hk))
 obtain ⟨n,hn⟩:∃ n,n=s.extract 0 k:=⟨_,rfl⟩
 obtain ⟨d,hd⟩:∃ d,d=s.extract (k+1) s.size:=⟨_,rfl⟩
 rw [← hn,← hd] at HW0
 have en:s.data.toList.take k=n.data.toList:=by rw [hn,Lib.extract_data];simp
 have ed:s.data.toList.drop (k+1)=d.data.toList:=by rw [hd,Lib.extract_to_end]
 rw [en,ed]
 have sn:n.size≤100000:=by rw [hn];simp;omega
 have sd:d.size≤100000:=by rw [hd];simp;omega
 have HW:=Lib.hid HW0
 clear HW0 hn hd en ed h hk
 by_cases n12:chkZ n.data.toList=12
 ·rw [chkF_12 (.inl n12)]
  exact qc_n s n d _ (form_is n 12 (frmZ_12 n12) (by omega)) w HW
 have FN:=Lib.hid (form_is n 0 (frmZ_0 n12) (by omega))
 by_cases d12:chkZ d.data.toList=12
 ·rw [chkF_12 (.inr (.inl d12))]
  exact qc_d s n d FN (form_is d 12 (frmZ_12 d12) (by omega)) w HW
 have FD:=Lib.hid (form_is d 0 (frmZ_0 d12) (by omega))
 have h0:0 < d.size:=by
  rcases Nat.eq_zero_or_pos d.size with e | e
  ·refine absurd ?_ d12
   have:d.data.toList=[]:=List.eq_nil_of_length_eq_zero (by rw [data_len];exact e)
   rw [this]
   rcases chkZ_cases [] with h | ⟨z,_,h,_⟩
   ·exact h.1
   ·unfold txtZ at h
    split at h
    ·cases h
    ·exact absurd h.symm (txtN_ne _)
  ·exact e
 cases hm:((d[0].toNat:Int) == 45) with
 | true =>
  rw [chkF_12 (.inr (.inr (.inl (head_of h0 (n:=45) (by omega) hm))))]
  exact qc_m s n d FN FD h0 hm w HW
 | false =>
  have hm':=head_not h0 (n:=45) (by omega) hm
  cases d0:(d.toList == [48]) with
  | true =>
   rw [chkF_12 (.inr (.inr (.inr (.inl (by rw [toList_data] at d0;simpa using d0)))))]
   exact qc_0 s n d FN FD h0 hm d0 w HW
  | false =>
   cases d1:(d.toList == [49]) with
   | true =>
    rw [chkF_12 (.inr (.inr (.inr (.inr (by rw [toList_data] at d1;simpa using d1)))))]
    exact qc_1 s n d FN FD h0 hm d0 d1 w HW
   | false =>
    have d0':d.data.toList ≠ [48]:=by rw [toList_data] at d0;simpa using d0
    have d1':d.data.toList ≠ [49]:=by rw [toList_data] at d1;simpa using d1
    rcases chkZ_cases n.data.toList with ⟨e,_⟩ | ⟨x,_,n2,n3⟩
    ·exact absurd e n12
    rcases chkZ_cases d.data.toList with ⟨e,_⟩ | ⟨y,_,d2,d3⟩
    ·exact absurd e d12
    have ef:chkF n.data.toList d.data.toList=if bigZ x=true ∨ bigZ y=true then 14 else if Nat.gcd x.natAbs y.natAbs=1 then 0 else 12:=by
     rw [n2,d2];exact chkF_some x y (by rw [d2] at hm';have:=mt (txtZ_head y).2 hm';omega) (by rw [← d2];exact d0') (by rw [← d2];exact d1')
    rw [ef]
    cases bx:bigZ x with
    | true =>
     rw [bx,if_pos rfl] at n3
     rw [if_pos (.inl rfl)]
     exact qc_b1 s n d FN FD h0 hm d0 d1 (check_is n 14 n3 (by omega)) w HW
    | false =>
     rw [bx,if_neg (by simp)] at n3
     have CN:=Lib.hid (check_is n 0 n3 (by omega))
     cases bb:bigZ y with
     | true =>
      rw [bb,if_pos rfl] at d3
      rw [if_pos (.inr rfl)]
      exact qc_b2 s n d FN FD h0 hm d0 d1 CN (check_is d 14 d3 (by omega)) w HW
     | false =>
      rw [bb,if_neg (by simp)] at d3
      have CD:=Lib.hid (check_is d 0 d3 (by omega))
      rw [if_neg (by simp)]
      have HG:Hid (∀ W,Calls Tryz.prog 116 #[.string n,.string d] W (GPost W ⟨(txtZ (Nat.gcd x.natAbs y.natAbs:Int)).toArray⟩)):=fun W => gcd_good n d x y W sn sd n2 d2 bx bb
      by_cases hg:Nat.gcd x.natAbs y.natAbs=1
      ·rw [if_pos hg]
       exact qc_gyes s n d FN FD h0 hm d0 d1 CN CD _ HG (by rw [toList_data,hg];show ((txtZ ((1:Nat):Int)) == [49])=true;rw [(txtZ_one 1).2 rfl];rfl) w HW
      ·rw [if_neg hg]
       exact qc_gno s n d FN FD h0 hm d0 d1 CN CD _ HG (by rw [toList_data];exact list_beq.2 (fun h => hg ((txtZ_one _).1 h))) w HW
theorem qrat_any (s:ByteArray) (w:World) (hs:s.size≤100000) :
  Calls Tryz.prog 98 #[.string s] w (ErrPost w (chkR s.data.toList)):=by
 by_cases h:slN s.data.toList < s.size
 ·exact qrat_frac s _ w hs rfl h
 ·exact qrat_int s w hs (by have:=slN_le s.data.toList;rw [data_len] at this ⊢;omega)
end Go.Proofs.YtijkefflpojmhaaGreatDoor

namespace Go.Proofs.YtijkefflpojmhaaGreatDoor
def DTimIn (a b out:List Nat) (i j:Nat):Prop :=
  out.length=a.length+b.length∧dval out=dval (a.take i)*dval b+10 ^ i*(a.getD i 0*dval (b.take j))∧(∀ k,out.getD k 0≤81*i+if i≤k∧k < i+j then 81 else 0)
def DTimAt (a b out:List Nat) (i:Nat):Prop :=
  out.length=a.length+b.length∧dval out=dval (a.take i)*dval b∧(∀ k,out.getD k 0≤81*i)
def DCarAt (n V:Nat) (out:List Nat) (i:Nat):Prop :=
  dval out=V∧(∀ k,k < i→out.getD k 0 < 10)∧(∀ k,i≤k→out.getD k 0≤81*n+if k=i then 9*n+1 else 0)
def leapB (y:Nat):Bool:=decide (y % 4=0∧(y % 100 ≠ 0 ∨ y % 400=0))
def longN (y m:Nat):Nat:=if m=4 ∨ m=6 ∨ m=9 ∨ m=11 then 30 else if m=2 then (if leapB y=true then 29 else 28) else 31
theorem longN_ge (y m:Nat):28≤longN y m:=by unfold longN;split <;> (try split) <;> (try split) <;> omega
theorem longN_le (y m:Nat):longN y m≤31:=by unfold longN;split <;> (try split) <;> (try split) <;> omega
def leapsN (y:Nat):Nat:=y / 4 - y / 100+y / 400
def yd (y:Nat):Nat:=365*(y - 1900)+(leapsN (y - 1) - 460)
theorem leaps_succ (y:Nat):leapsN (y+1)=leapsN y+if leapB (y+1)=true then 1 else 0:=by
  unfold leapsN leapB
  simp only [decide_eq_true_eq]
  split <;> omega
theorem leaps_ge {y:Nat} (_h:1899≤y):460≤leapsN y:=by
  induction y with
  | zero => omega
  | succ y ih =>
    rcases Nat.lt_or_ge y 1899 with h' | h'
    · have:y=1898:=by omega
      subst this;decide
    · have:=ih h';have:=leaps_succ y;omega
theorem yd_start:yd 1900=0:=by decide
theorem yd_succ {y:Nat} (h:1900≤y):yd (y+1)=yd y+365+if leapB y=true then 1 else 0:=by
  obtain ⟨k,rfl⟩:∃ k,y=k+1:=⟨y - 1,by omega⟩
  have:=leaps_ge (y:=k) (by omega)
  unfold yd
  simp only [Nat.add_sub_cancel]
  rw [leaps_succ k]
  split <;> omega
theorem yd_ge {y:Nat} (_h:1900≤y):365*(y - 1900)≤yd y:=by unfold yd;omega
theorem yd_le (k:Nat):yd (1900+k)≤366*k:=by
  induction k with
  | zero => decide
  | succ k ih =>
    have:=yd_succ (y:=1900+k) (by omega)
    rw [show 1900+(k+1)=1900+k+1 by omega,this]
    split <;> omega
theorem yd_mono {a b:Nat} (h:1900≤a) (hab:a≤b):yd a≤yd b:=by
  induction b with
  | zero => omega
  | succ b ih =>
    rcases Nat.lt_or_ge b a with h' | h'
    · have:a=b+1:=by omega
      subst this;exact Nat.le_refl _
    · have:=ih h';have:=yd_succ (y:=b) (by omega);omega
def mdR (y:Nat):Nat→Nat
  | 0 => 0
  | m+1 => mdR y m+longN y (m+1)
theorem mdR_mono (y:Nat) {a b:Nat} (h:a≤b):mdR y a≤mdR y b:=by
  induction b with
  | zero => have : a = 0 := by omega
            subst this; exact Nat.le_refl _
  | succ b ih =>
    rcases Nat.lt_or_ge b a with h' | h'
    · have:a=b+1:=by omega
      subst this;exact Nat.le_refl _
    · have:=ih h';show _≤mdR y b+_;omega
theorem mdR_12 (y:Nat):mdR y 12=365+if leapB y=true then 1 else 0:=by
  have e:∀ m,longN y m=if m=4 ∨ m=6 ∨ m=9 ∨ m=11 then 30 else if m=2 then (if leapB y=true then 29 else 28) else 31:=fun m => rfl
  simp only [mdR]
  simp only [e]
  cases leapB y <;> simp
theorem yd_year {y:Nat} (h:1900≤y):yd (y+1)=yd y+mdR y 12:=by rw [yd_succ h,mdR_12];omega
def DateIs (day y m d:Nat):Prop:=1900≤y∧1≤m∧m≤12∧1≤d∧d≤longN y m∧yd y+mdR y (m - 1)+d=day+1
theorem DateIs.lt {day y m d:Nat} (h:DateIs day y m d):yd y≤day∧day < yd (y+1):=by
  obtain ⟨h1,h2,h3,h4,h5,h6⟩:=h
  obtain ⟨k,rfl⟩:∃ k,m=k+1:=⟨m - 1,by omega⟩
  have a:=mdR_mono y (a:=k+1) (b:=12) h3
  rw [yd_year h1]
  simp only [Nat.add_sub_cancel] at h6
  change mdR y k+longN y (k+1)≤_ at a
  omega
theorem DateIs.unique {day y m d y' m' d':Nat} (h:DateIs day y m d) (h':DateIs day y' m' d'):y=y' ∧ m=m' ∧ d=d':=by
  have a:=h.lt
  have b:=h'.lt
  have ey:y=y':=by
    rcases Nat.lt_trichotomy y y' with e | e | e
    · have:=yd_mono (a:=y+1) (b:=y') (by have:=h.1;omega) (by omega);omega
    · exact e
    · have:=yd_mono (a:=y' + 1) (b:=y) (by have:=h'.1;omega) (by omega);omega
  subst ey
  obtain ⟨h1,h2,h3,h4,h5,h6⟩:=h
  obtain ⟨g1,g2,g3,g4,g5,g6⟩:=h'
  obtain ⟨k,rfl⟩:∃ k,m=k+1:=⟨m - 1,by omega⟩
  obtain ⟨j,rfl⟩:∃ j,m' = j+1:=⟨m' - 1,by omega⟩
  simp only [Nat.add_sub_cancel] at h6 g6
  have em:k=j:=by
    rcases Nat.lt_trichotomy k j with e | e | e
    · have:=mdR_mono y (a:=k+1) (b:=j) (by omega)
      change mdR y k+longN y (k+1)≤_ at this;omega
    · exact e
    · have:=mdR_mono y (a:=j+1) (b:=k) (by omega)
      change mdR y j+longN y (j+1)≤_ at this;omega
  subst em
  exact ⟨rfl,rfl,by omega⟩
theorem prog_year_start (day:Nat):yd (1900+day / 366)≤day:=by have:=yd_le (day / 366);omega
def MonAt (day y m d:Nat):Prop:=1900≤y∧1≤m∧m≤12∧1≤d∧yd y+mdR y (m - 1)+d=day+1∧day < yd (y+1)
theorem mon_start {day y:Nat} (h:1900≤y) (h1:yd y≤day) (h2:day < yd (y+1)):MonAt day y 1 (day - yd y+1):=⟨h,by omega,by omega,by omega,by show yd y+0+_=_;omega,h2⟩
theorem mon_step {day y m d:Nat} (h:MonAt day y m d) (hd:longN y m < d):MonAt day y (m+1) (d - longN y m)∧m < 12:=by
  obtain ⟨h1,h2,h3,h4,h5,h6⟩:=h
  obtain ⟨k,rfl⟩:∃ k,m=k+1:=⟨m - 1,by omega⟩
  simp only [Nat.add_sub_cancel] at h5
  have hm:k+1 < 12:=by
    rcases Nat.lt_or_ge (k+1) 12 with h | h
    · exact h
    · have:k=11:=by omega
      subst this
      have e:mdR y 12=mdR y 11+longN y 12:=rfl
      have hd':longN y 12 < d:=hd
      rw [yd_year h1] at h6;omega
  refine ⟨⟨h1,by omega,by omega,by omega,?_,h6⟩,hm⟩
  show yd y+(mdR y k+longN y (k+1))+_=_
  omega
theorem mon_end {day y m d:Nat} (h:MonAt day y m d) (hd:d≤longN y m):DateIs day y m d:=⟨h.1,h.2.1,h.2.2.1,h.2.2.2.1,hd,h.2.2.2.2.1⟩
def RefAt (day y m r:Nat):Prop:=1900≤y∧1≤m∧m≤12∧yd y+mdR y (m - 1)+r=day
theorem ref_start (day:Nat):RefAt day 1900 1 day:=⟨by omega,by omega,by omega,by rw [yd_start];show 0+0+day=_;omega⟩
theorem ref_month {day y m r:Nat} (h:RefAt day y m r) (hr:longN y m≤r) (hm:m < 12):RefAt day y (m+1) (r - longN y m):=by
  obtain ⟨h1,h2,h3,h4⟩:=h
  obtain ⟨k,rfl⟩:∃ k,m=k+1:=⟨m - 1,by omega⟩
  simp only [Nat.add_sub_cancel] at h4
  refine ⟨h1,by omega,by omega,?_⟩
  show yd y+(mdR y k+longN y (k+1))+_=_
  omega
theorem ref_year {day y r:Nat} (h:RefAt day y 12 r) (hr:longN y 12≤r):RefAt day (y+1) 1 (r - longN y 12):=by
  obtain ⟨h1,h2,h3,h4⟩:=h
  have e:mdR y 12=mdR y 11+longN y 12:=rfl
  refine ⟨by omega,by omega,by omega,?_⟩
  rw [yd_year h1]
  show _+0+_=_
  simp only [show 12 - 1=11 from rfl] at h4
  omega
theorem ref_end {day y m r:Nat} (h:RefAt day y m r) (hr:r < longN y m):DateIs day y m (r+1):=⟨h.1,h.2.1,h.2.2.1,by omega,by omega,by have:=h.2.2.2;omega⟩
theorem RefAt.small {day y m r:Nat} (h:RefAt day y m r) (hd:day≤99999):y≤2174∧r≤day:=by
  obtain ⟨h1,h2,h3,h4⟩:=h
  have:=yd_ge h1
  omega
theorem DateIs.small {day y m d:Nat} (h:DateIs day y m d) (hd:day≤99999):y≤2174∧d≤31:=by
  have a:=yd_ge h.1
  have b:=h.lt
  have c:=longN_le y m
  have e:=h.2.2.2.2.1
  omega
theorem date_exists (day:Nat):∃ y m d,DateIs day y m d:=by
  have key:∀ r,∀ y m,RefAt day y m r → ∃ y m d,DateIs day y m d:=by
    intro r
    induction r using Nat.strongRecOn with
    | _ r ih =>
      intro y m h
      by_cases hr:r < longN y m
      · exact ⟨y,m,r+1,ref_end h hr⟩
      · have hg:=longN_ge y m
        by_cases hm:m < 12
        · exact ih _ (by omega) _ _ (ref_month h (by omega) hm)
        · have:m=12:=by have:=h.2.2.1;omega
          subst this
          exact ih _ (by omega) _ _ (ref_year h (by omega))
  exact key day 1900 1 (ref_start day)
def figB (n:Nat):Nat→List UInt8
  | 0 => []
  | k+1 => figB (n / 10) k ++ [UInt8.ofNat (48+n % 10)]
theorem figB_len (n k:Nat):(figB n k).length=k:=by
  induction k generalizing n with
  | zero => rfl
  | succ k ih => simp [figB,ih]
def FigAt (n many:Nat) (s:List UInt8) (i m:Nat):Prop:=i≤many∧figB n many=figB m (many - i) ++ s
theorem fig_start (n many:Nat):FigAt n many [] 0 n:=⟨by omega,by simp⟩
theorem fig_step {n many:Nat} {s:List UInt8} {i m:Nat} (h:FigAt n many s i m) (hi:i < many):FigAt n many (UInt8.ofNat (48+m % 10) :: s) (i+1) (m / 10):=by
  obtain ⟨h1,h2⟩:=h
  refine ⟨hi,?_⟩
  rw [h2]
  obtain ⟨k,hk⟩:∃ k,many - i=k+1:=⟨many - i - 1,by omega⟩
  rw [hk,show many - (i+1)=k by omega,figB]
  simp
theorem fig_end {n many:Nat} {s:List UInt8} {m:Nat} (h:FigAt n many s many m):s=figB n many:=by
  rw [h.2];simp [figB]
def dateB (y m d:Nat):List UInt8:=figB y 4 ++ [45] ++ figB m 2 ++ [45] ++ figB d 2
theorem dateB_len (y m d:Nat):(dateB y m d).length=10:=by simp [dateB,figB_len]
def letB (c:UInt8):Bool:=decide ((97≤c.toNat∧c.toNat≤122) ∨ (65≤c.toNat∧c.toNat≤90))
def othB (c:UInt8):Bool:=decide ((48≤c.toNat∧c.toNat≤57) ∨ c.toNat=95 ∨ c.toNat=45)
def nmB (l:List UInt8):Bool:=decide (1≤l.length∧l.length≤40) && (match l.head? with | some c => letB c | none => false) && l.all fun c => letB c || othB c
theorem nmB_len {l:List UInt8} (h:l.length < 1 ∨ 40 < l.length):nmB l=false:=by
  unfold nmB
  rw [show decide (1≤l.length∧l.length≤40)=false by simp;omega];rfl
theorem nmB_head {l:List UInt8} {c:UInt8} (h:l.head? = some c) (hc:letB c=false):nmB l=false:=by
  unfold nmB;rw [h];simp [hc]
theorem nmB_bad {l:List UInt8} {c:UInt8} (h:c ∈ l) (h1:letB c=false) (h2:othB c=false):nmB l=false:=by
  unfold nmB
  have:(l.all fun c => letB c || othB c)=false:=by
    rw [List.all_eq_false];exact ⟨c,h,by simp [h1,h2]⟩
  rw [this];simp
theorem nmB_ok {l:List UInt8} {c:UInt8} (h1:1≤l.length) (h2:l.length≤40) (h:l.head? = some c) (hc:letB c=true) (ha:∀ x ∈ l,(letB x || othB x)=true):nmB l=true:=by
  unfold nmB;rw [h];simp only [hc,Bool.and_true,Bool.and_eq_true,decide_eq_true_eq,List.all_eq_true]
  exact ⟨⟨h1,h2⟩,ha⟩
theorem letB_lo {c:UInt8} (h:c.toNat < 65):letB c=false:=by unfold letB;simp;omega
theorem letB_cap {c:UInt8} (h:65≤c.toNat) (h2:c.toNat≤90):letB c=true:=by unfold letB;simp;omega
theorem letB_mid {c:UInt8} (h:90 < c.toNat) (h2:c.toNat < 97):letB c=false:=by unfold letB;simp;omega
theorem letB_small {c:UInt8} (h:97≤c.toNat) (h2:c.toNat≤122):letB c=true:=by unfold letB;simp;omega
theorem letB_hi {c:UInt8} (h:122 < c.toNat):letB c=false:=by unfold letB;simp;omega
end Go.Proofs.YtijkefflpojmhaaGreatDoor

namespace Go.Proofs.YtijkefflpojmhaaGreatDoor
open Go.RowKit
set_option maxHeartbeats 1000000 in
set_option maxRecDepth 100000 in
theorem letter_any (c:UInt8) (w:World):Calls Tryz.prog 71 #[.int .u8 (c.toNat:Int)] w fun e w' => e = .returned (.bool (letB c))∧w=w':=by
 have hc:c.toNat < 65 ∨ (65≤c.toNat∧c.toNat≤90) ∨ (90 < c.toNat∧c.toNat < 97) ∨ (97≤c.toNat∧c.toNat≤122) ∨ 122 < c.toNat:=by omega
 rcases hc with h | ⟨h,h'⟩ | ⟨h,h'⟩ | ⟨h,h'⟩ | h
 ·rw [letB_lo h]
  go_enter Tryz.func71,Tryz.ntmps71
  go_wp2
  go_ret
  exact ⟨ret_bool (by first | rfl | (simp;omega)),rfl⟩
 ·rw [letB_cap h h']
  go_enter Tryz.func71,Tryz.ntmps71
  go_wp2
  go_ret
  exact ⟨ret_bool (by first | rfl | (simp;omega)),rfl⟩
 ·rw [letB_mid h h']
  go_enter Tryz.func71,Tryz.ntmps71
  go_wp2
  go_ret
  exact ⟨ret_bool (by first | rfl | (simp;omega)),rfl⟩
 ·rw [letB_small h h']
  go_enter Tryz.func71,Tryz.ntmps71
  go_wp2
  go_ret
  exact ⟨ret_bool (by first | rfl | (simp;omega)),rfl⟩
 ·rw [letB_hi h]
  go_enter Tryz.func71,Tryz.ntmps71
  go_wp2
  go_ret
  exact ⟨ret_bool (by first | rfl | (simp;omega)),rfl⟩
theorem letter_is {c:UInt8} {b:Bool} (h:letB c=b) (w:World):Calls Tryz.prog 71 #[.int .u8 (c.toNat:Int)] w fun e w' => e = .returned (.bool b)∧w=w':=h ▸ letter_any c w
def NmR (s:ByteArray) (i:Value):Prop := ∃ k:Nat,k≤s.size∧i = .int .i64 k ∧ ∀ c ∈ s.data.toList.take k,(letB c || othB c)=true
theorem nmR_start (s:ByteArray):NmR s (.int .i64 0):=⟨0,Nat.zero_le _,rfl,by simp⟩
theorem nmR_next (s:ByteArray) (k:Nat) (hk:k < s.size) (h:∀ c ∈ s.data.toList.take k,(letB c || othB c)=true) (h1:(letB s[k] || othB s[k])=true) :
  ∀ c ∈ s.data.toList.take (k+1),(letB c || othB c)=true:=by
 rw [data_take s k hk]
 intro c hc
 rcases List.mem_append.1 hc with hc | hc
 ·exact h c hc
 ·rw [List.mem_singleton.1 hc];exact h1
set_option maxHeartbeats 1000000 in
set_option maxRecDepth 100000 in
theorem name_loop (s:ByteArray) (w:World) (h0:0 < s.size) (h4:s.size≤40) (h1:letB s[0]=true) :
  Calls Tryz.prog 48 #[.string s] w fun e w' => e = .returned (.bool (nmB s.data.toList))∧w=w':=by
 have HL:=Lib.hid (fun W => letter_is h1 W)
 have HA:Hid ((∀ x ∈ s.data.toList,(letB x || othB x)=true)→nmB s.data.toList=true):=fun h => nmB_ok (by rw [data_len];omega) (by rw [data_len];omega) (data_head s h0) h1 h
 clear h1
 go_enter Tryz.func48,Tryz.ntmps48
 go_wp2_with fail
 refine (HL.out _).mono ?_
 rintro e w' ⟨rfl,rfl⟩
 go_wp2_with fail
 go_loop [21] (fun i => NmR s i) (fun i => s.size - (intOf i).toNat)
 case atStart => exact nmR_start s
 case round =>
  obtain ⟨k,hk,rfl,hd⟩:=hrel
  have HD:=Lib.hid hd
  clear hd HL
  by_cases hlt:k < s.size
  ·cases hb:letB s[k] with
   | true =>
    have HN:=Lib.hid (nmR_next s k hlt HD.out (by rw [hb];rfl))
    have HB:=Lib.hid (fun W => letter_is hb W)
    clear hb HA HD
    go_wp2_with fail
    refine (HB.out _).mono ?_
    rintro e w' ⟨rfl,rfl⟩
    go_wp2_with fail
    go_round
    case rel => exact ⟨k+1,by omega,by go_num,HN.out⟩
    case measure => simp [intOf];omega
   | false =>
    have HB:=Lib.hid (fun W => letter_is hb W)
    cases ho:othB s[k] with
    | true =>
     have HN:=Lib.hid (nmR_next s k hlt HD.out (by rw [ho];simp))
     have hc:(48≤s[k].toNat∧s[k].toNat≤57) ∨ (95≤s[k].toNat∧s[k].toNat≤95) ∨ (45≤s[k].toNat∧s[k].toNat≤45):=by unfold othB at ho;simp at ho;omega
     clear hb ho HA HD
     rcases hc with ⟨c1,c2⟩ | ⟨c1,c2⟩ | ⟨c1,c2⟩
     ·have p48:(decide ((s[k].toNat:Int) < 48))=false:=by simp;omega
      have p57:(decide ((57:Int) < (s[k].toNat:Int)))=false:=by simp;omega
      have e95:((s[k].toNat:Int) != 95)=true:=by simp;omega
      have e45:((s[k].toNat:Int) != 45)=true:=by simp;omega
      clear c1 c2
      go_wp2_with fail
      refine (HB.out _).mono ?_
      rintro e w' ⟨rfl,rfl⟩
      go_wp2
      go_round
      case rel => exact ⟨k+1,by omega,by go_num,HN.out⟩
      case measure => simp [intOf];omega
     ·have p48:(decide ((s[k].toNat:Int) < 48))=false:=by simp;omega
      have p57:(decide ((57:Int) < (s[k].toNat:Int)))=true:=by simp;omega
      have e95:((s[k].toNat:Int) != 95)=false:=by simp;omega
      have e45:((s[k].toNat:Int) != 45)=true:=by simp;omega
      clear c1 c2
      go_wp2_with fail
      refine (HB.out _).mono ?_
      rintro e w' ⟨rfl,rfl⟩
      go_wp2
      go_round
      case rel => exact ⟨k+1,by omega,by go_num,HN.out⟩
      case measure => simp [intOf];omega
     ·have p48:(decide ((s[k].toNat:Int) < 48))=true:=by simp;omega
      have p57:(decide ((57:Int) < (s[k].toNat:Int)))=false:=by simp;omega
      have e95:((s[k].toNat:Int) != 95)=true:=by simp;omega
      have e45:((s[k].toNat:Int) != 45)=false:=by simp;omega
      clear c1 c2
      go_wp2_with fail
      refine (HB.out _).mono ?_
      rintro e w' ⟨rfl,rfl⟩
      go_wp2
      go_round
      case rel => exact ⟨k+1,by omega,by go_num,HN.out⟩
      case measure => simp [intOf];omega
    | false =>
     have e4:=Lib.hid (nmB_bad (data_mem s k hlt) hb ho)
     have hc:(0≤s[k].toNat∧s[k].toNat≤44) ∨ (46≤s[k].toNat∧s[k].toNat≤47) ∨ (58≤s[k].toNat∧s[k].toNat≤94) ∨ (96≤s[k].toNat∧s[k].toNat≤255):=by
      have:=s[k].toNat_lt
      unfold othB at ho;simp at ho;omega
     clear hb ho HA HD
     rcases hc with ⟨c1,c2⟩ | ⟨c1,c2⟩ | ⟨c1,c2⟩ | ⟨c1,c2⟩
     ·have p48:(decide ((s[k].toNat:Int) < 48))=true:=by simp;omega
      have p57:(decide ((57:Int) < (s[k].toNat:Int)))=false:=by simp;omega
      have e95:((s[k].toNat:Int) != 95)=true:=by simp;omega
      have e45:((s[k].toNat:Int) != 45)=true:=by simp;omega
      clear c1 c2
      go_wp2_with fail
      refine (HB.out _).mono ?_
      rintro e w' ⟨rfl,rfl⟩
      go_wp2
      go_ret
      exact ⟨ret_bool e4.out.symm,rfl⟩
     ·have p48:(decide ((s[k].toNat:Int) < 48))=true:=by simp;omega
      have p57:(decide ((57:Int) < (s[k].toNat:Int)))=false:=by simp;omega
      have e95:((s[k].toNat:Int) != 95)=true:=by simp;omega
      have e45:((s[k].toNat:Int) != 45)=true:=by simp;omega
      clear c1 c2
      go_wp2_with fail
      refine (HB.out _).mono ?_
      rintro e w' ⟨rfl,rfl⟩
      go_wp2
      go_ret
      exact ⟨ret_bool e4.out.symm,rfl⟩
     ·have p48:(decide ((s[k].toNat:Int) < 48))=false:=by simp;omega
      have p57:(decide ((57:Int) < (s[k].toNat:Int)))=true:=by simp;omega
      have e95:((s[k].toNat:Int) != 95)=true:=by simp;omega
      have e45:((s[k].toNat:Int) != 45)=true:=by simp;omega
      clear c1 c2
      go_wp2_with fail
      refine (HB.out _).mono ?_
      rintro e w' ⟨rfl,rfl⟩
      go_wp2
      go_ret
      exact ⟨ret_bool e4.out.symm,rfl⟩
     ·have p48:(decide ((s[k].toNat:Int) < 48))=false:=by simp;omega
      have p57:(decide ((57:Int) < (s[k].toNat:Int)))=true:=by simp;omega
      have e95:((s[k].toNat:Int) != 95)=true:=by simp;omega
      have e45:((s[k].toNat:Int) != 45)=true:=by simp;omega
      clear c1 c2
      go_wp2_with fail
      refine (HB.out _).mono ?_
      rintro e w' ⟨rfl,rfl⟩
      go_wp2
      go_ret
      exact ⟨ret_bool e4.out.symm,rfl⟩
  ·have e4:=Lib.hid (HA.out (by
    have:=HD.out
    rwa [List.take_of_length_le (by rw [data_len];omega)] at this))
   clear HA HD
   go_wp2
   go_ret
   exact ⟨ret_bool e4.out.symm,rfl⟩
set_option maxHeartbeats 1000000 in
set_option maxRecDepth 100000 in
theorem name_any (s:ByteArray) (w:World) :
  Calls Tryz.prog 48 #[.string s] w fun e w' => e = .returned (.bool (nmB s.data.toList))∧w=w':=by
 by_cases h0:s.size < 1
 ·rw [nmB_len (.inl (by rw [data_len];exact h0))]
  go_enter Tryz.func48,Tryz.ntmps48
  go_wp2
  go_ret
  exact ⟨rfl,rfl⟩
 by_cases h4:40 < s.size
 ·rw [nmB_len (.inr (by rw [data_len];exact h4))]
  go_enter Tryz.func48,Tryz.ntmps48
  go_wp2
  go_ret
  exact ⟨rfl,rfl⟩
 have h0':0 < s.size:=by omega
 have h4':s.size≤40:=by omega
 clear h0 h4
 cases h1:letB (s[0]'h0') with
 | true => exact name_loop s w h0' h4' h1
 | false =>
  rw [nmB_head (data_head s h0') h1]
  have HL:=Lib.hid (fun W => letter_is h1 W)
  clear h1
  go_enter Tryz.func48,Tryz.ntmps48
  go_wp2_with fail
  refine (HL.out _).mono ?_
  rintro e w' ⟨rfl,rfl⟩
  go_wp2_with fail
  go_ret
  exact ⟨rfl,rfl⟩
set_option maxHeartbeats 4000000 in
set_option maxRecDepth 100000 in
theorem rname_loop (s:ByteArray) (w:World) (h0:0 < s.size) (h4:s.size≤40) :
  Calls Tryz.prog 61 #[.string s] w fun e w' => e = .returned (.bool (nmB s.data.toList))∧w=w':=by
 have HH:Hid (letB s[0]=false→nmB s.data.toList=false):=fun h => nmB_head (data_head s h0) h
 have HA:Hid (letB s[0]=true→(∀ x ∈ s.data.toList,(letB x || othB x)=true)→nmB s.data.toList=true):=fun h1 h => nmB_ok (by rw [data_len];omega) (by rw [data_len];omega) (data_head s h0) h1 h
 have t0:((s.size:Int) == 0)=false:=by simp;intro h;rw [h] at h0;exact absurd h0 (by decide)
 go_enter Tryz.func61,Tryz.ntmps61
 go_wp2_with fail
 go_loop [3] (fun i => NmR s i∧(0 < (intOf i).toNat→letB s[0]=true)) (fun i => s.size - (intOf i).toNat)
 case atStart => exact ⟨nmR_start s,fun h => absurd h (by simp [intOf])⟩
 case round =>
  obtain ⟨⟨k,hk,rfl,hd⟩,h1⟩:=hrel
  have HD:=Lib.hid hd
  have h1':Hid (0 < k→letB s[0]=true):=fun h => h1 (by simpa [intOf] using h)
  clear hd h1
  by_cases hlt:k < s.size
  ·have hb:Hid (∀ b,letB s[k]=b→k=0→letB s[0]=b):=fun b hb hk => by subst hk;exact hb
   cases hl:letB s[k] with
   | true =>
    have HN:=Lib.hid (nmR_next s k hlt HD.out (by rw [hl];rfl))
    have H0:Hid (letB s[0]=true):=by
     rcases Nat.eq_zero_or_pos k with e | e
     ·exact hb.out _ hl e
     ·exact h1'.out e
    have hc:(65≤s[k].toNat∧s[k].toNat≤90) ∨ (97≤s[k].toNat∧s[k].toNat≤122):=by unfold letB at hl;simp at hl;omega
    clear hb hl HA HD HH h1'
    rcases hc with ⟨c1,c2⟩ | ⟨c1,c2⟩
    ·have p97:(decide ((97:Int)≤(s[k].toNat:Int)))=false:=by simp;omega
     have p122:(decide ((s[k].toNat:Int)≤122))=true:=by simp;omega
     have p65:(decide ((65:Int)≤(s[k].toNat:Int)))=true:=by simp;omega
     have p90:(decide ((s[k].toNat:Int)≤90))=true:=by simp;omega
     have p48:(decide ((48:Int)≤(s[k].toNat:Int)))=true:=by simp;omega
     have p57:(decide ((s[k].toNat:Int)≤57))=false:=by simp;omega
     have e95:((s[k].toNat:Int) == 95)=false:=by simp;omega
     have e45:((s[k].toNat:Int) == 45)=false:=by simp;omega
     clear c1 c2
     go_wp2
     go_round
     case rel => exact ⟨⟨k+1,by omega,by go_num,HN.out⟩,fun _ => H0.out⟩
     case measure => simp [intOf];omega
    ·have p97:(decide ((97:Int)≤(s[k].toNat:Int)))=true:=by simp;omega
     have p122:(decide ((s[k].toNat:Int)≤122))=true:=by simp;omega
     have p65:(decide ((65:Int)≤(s[k].toNat:Int)))=true:=by simp;omega
     have p90:(decide ((s[k].toNat:Int)≤90))=false:=by simp;omega
     have p48:(decide ((48:Int)≤(s[k].toNat:Int)))=true:=by simp;omega
     have p57:(decide ((s[k].toNat:Int)≤57))=false:=by simp;omega
     have e95:((s[k].toNat:Int) == 95)=false:=by simp;omega
     have e45:((s[k].toNat:Int) == 45)=false:=by simp;omega
     clear c1 c2
     go_wp2
     go_round
     case rel => exact ⟨⟨k+1,by omega,by go_num,HN.out⟩,fun _ => H0.out⟩
     case measure => simp [intOf];omega
   | false =>
    have hl':s[k].toNat < 65 ∨ (90 < s[k].toNat∧s[k].toNat < 97) ∨ 122 < s[k].toNat:=by unfold letB at hl;simp at hl;omega
    have hu:=s[k].toNat_lt
    by_cases hk0:k=0
    ·have e4:=Lib.hid (HH.out (hb.out _ hl hk0))
     clear hb hl HA HD HH h1'
     subst hk0
     have hc:(0≤s[0].toNat∧s[0].toNat≤44) ∨ (45≤s[0].toNat∧s[0].toNat≤45) ∨ (46≤s[0].toNat∧s[0].toNat≤47) ∨ (48≤s[0].toNat∧s[0].toNat≤57) ∨ (58≤s[0].toNat∧s[0].toNat≤64) ∨ (91≤s[0].toNat∧s[0].toNat≤94) ∨ (95≤s[0].toNat∧s[0].toNat≤95) ∨ (96≤s[0].toNat∧s[0].toNat≤96) ∨ (123≤s[0].toNat∧s[0].toNat≤255):=by omega
     clear hl' hu
     rcases hc with ⟨c1,c2⟩ | ⟨c1,c2⟩ | ⟨c1,c2⟩ | ⟨c1,c2⟩ | ⟨c1,c2⟩ | ⟨c1,c2⟩ | ⟨c1,c2⟩ | ⟨c1,c2⟩ | ⟨c1,c2⟩
     ·have p97:(decide ((97:Int)≤(s[0].toNat:Int)))=false:=by simp;omega
      have p122:(decide ((s[0].toNat:Int)≤122))=true:=by simp;omega
      have p65:(decide ((65:Int)≤(s[0].toNat:Int)))=false:=by simp;omega
      have p90:(decide ((s[0].toNat:Int)≤90))=true:=by simp;omega
      have p48:(decide ((48:Int)≤(s[0].toNat:Int)))=false:=by simp;omega
      have p57:(decide ((s[0].toNat:Int)≤57))=true:=by simp;omega
      have e95:((s[0].toNat:Int) == 95)=false:=by simp;omega
      have e45:((s[0].toNat:Int) == 45)=false:=by simp;omega
      clear c1 c2
      go_wp2
      go_ret
      exact ⟨ret_bool e4.out.symm,rfl⟩
     ·have p97:(decide ((97:Int)≤(s[0].toNat:Int)))=false:=by simp;omega
      have p122:(decide ((s[0].toNat:Int)≤122))=true:=by simp;omega
      have p65:(decide ((65:Int)≤(s[0].toNat:Int)))=false:=by simp;omega
      have p90:(decide ((s[0].toNat:Int)≤90))=true:=by simp;omega
      have p48:(decide ((48:Int)≤(s[0].toNat:Int)))=false:=by simp;omega
      have p57:(decide ((s[0].toNat:Int)≤57))=true:=by simp;omega
      have e95:((s[0].toNat:Int) == 95)=false:=by simp;omega
      have e45:((s[0].toNat:Int) == 45)=true:=by simp;omega
      clear c1 c2
      go_wp2
      go_ret
      exact ⟨ret_bool e4.out.symm,rfl⟩
     ·have p97:(decide ((97:Int)≤(s[0].toNat:Int)))=false:=by simp;omega
      have p122:(decide ((s[0].toNat:Int)≤122))=true:=by simp;omega
      have p65:(decide ((65:Int)≤(s[0].toNat:Int)))=false:=by simp;omega
      have p90:(decide ((s[0].toNat:Int)≤90))=true:=by simp;omega
      have p48:(decide ((48:Int)≤(s[0].toNat:Int)))=false:=by simp;omega
      have p57:(decide ((s[0].toNat:Int)≤57))=true:=by simp;omega
      have e95:((s[0].toNat:Int) == 95)=false:=by simp;omega
      have e45:((s[0].toNat:Int) == 45)=false:=by simp;omega
      clear c1 c2
      go_wp2
      go_ret
      exact ⟨ret_bool e4.out.symm,rfl⟩
     ·have p97:(decide ((97:Int)≤(s[0].toNat:Int)))=false:=by simp;omega
      have p122:(decide ((s[0].toNat:Int)≤122))=true:=by simp;omega
      have p65:(decide ((65:Int)≤(s[0].toNat:Int)))=false:=by simp;omega
      have p90:(decide ((s[0].toNat:Int)≤90))=true:=by simp;omega
      have p48:(decide ((48:Int)≤(s[0].toNat:Int)))=true:=by simp;omega
      have p57:(decide ((s[0].toNat:Int)≤57))=true:=by simp;omega
      have e95:((s[0].toNat:Int) == 95)=false:=by simp;omega
      have e45:((s[0].toNat:Int) == 45)=false:=by simp;omega
      clear c1 c2
      go_wp2
      go_ret
      exact ⟨ret_bool e4.out.symm,rfl⟩
     ·have p97:(decide ((97:Int)≤(s[0].toNat:Int)))=false:=by simp;omega
      have p122:(decide ((s[0].toNat:Int)≤122))=true:=by simp;omega
      have p65:(decide ((65:Int)≤(s[0].toNat:Int)))=false:=by simp;omega
      have p90:(decide ((s[0].toNat:Int)≤90))=true:=by simp;omega
      have p48:(decide ((48:Int)≤(s[0].toNat:Int)))=true:=by simp;omega
      have p57:(decide ((s[0].toNat:Int)≤57))=false:=by simp;omega
      have e95:((s[0].toNat:Int) == 95)=false:=by simp;omega
      have e45:((s[0].toNat:Int) == 45)=false:=by simp;omega
      clear c1 c2
      go_wp2
      go_ret
      exact ⟨ret_bool e4.out.symm,rfl⟩
     ·have p97:(decide ((97:Int)≤(s[0].toNat:Int)))=false:=by simp;omega
      have p122:(decide ((s[0].toNat:Int)≤122))=true:=by simp;omega
      have p65:(decide ((65:Int)≤(s[0].toNat:Int)))=true:=by simp;omega
      have p90:(decide ((s[0].toNat:Int)≤90))=false:=by simp;omega
      have p48:(decide ((48:Int)≤(s[0].toNat:Int)))=true:=by simp;omega
      have p57:(decide ((s[0].toNat:Int)≤57))=false:=by simp;omega
      have e95:((s[0].toNat:Int) == 95)=false:=by simp;omega
      have e45:((s[0].toNat:Int) == 45)=false:=by simp;omega
      clear c1 c2
      go_wp2
      go_ret
      exact ⟨ret_bool e4.out.symm,rfl⟩
     ·have p97:(decide ((97:Int)≤(s[0].toNat:Int)))=false:=by simp;omega
      have p122:(decide ((s[0].toNat:Int)≤122))=true:=by simp;omega
      have p65:(decide ((65:Int)≤(s[0].toNat:Int)))=true:=by simp;omega
      have p90:(decide ((s[0].toNat:Int)≤90))=false:=by simp;omega
      have p48:(decide ((48:Int)≤(s[0].toNat:Int)))=true:=by simp;omega
      have p57:(decide ((s[0].toNat:Int)≤57))=false:=by simp;omega
      have e95:((s[0].toNat:Int) == 95)=true:=by simp;omega
      have e45:((s[0].toNat:Int) == 45)=false:=by simp;omega
      clear c1 c2
      go_wp2
      go_ret
      exact ⟨ret_bool e4.out.symm,rfl⟩
     ·have p97:(decide ((97:Int)≤(s[0].toNat:Int)))=false:=by simp;omega
      have p122:(decide ((s[0].toNat:Int)≤122))=true:=by simp;omega
      have p65:(decide ((65:Int)≤(s[0].toNat:Int)))=true:=by simp;omega
      have p90:(decide ((s[0].toNat:Int)≤90))=false:=by simp;omega
      have p48:(decide ((48:Int)≤(s[0].toNat:Int)))=true:=by simp;omega
      have p57:(decide ((s[0].toNat:Int)≤57))=false:=by simp;omega
      have e95:((s[0].toNat:Int) == 95)=false:=by simp;omega
      have e45:((s[0].toNat:Int) == 45)=false:=by simp;omega
      clear c1 c2
      go_wp2
      go_ret
      exact ⟨ret_bool e4.out.symm,rfl⟩
     ·have p97:(decide ((97:Int)≤(s[0].toNat:Int)))=true:=by simp;omega
      have p122:(decide ((s[0].toNat:Int)≤122))=false:=by simp;omega
      have p65:(decide ((65:Int)≤(s[0].toNat:Int)))=true:=by simp;omega
      have p90:(decide ((s[0].toNat:Int)≤90))=false:=by simp;omega
      have p48:(decide ((48:Int)≤(s[0].toNat:Int)))=true:=by simp;omega
      have p57:(decide ((s[0].toNat:Int)≤57))=false:=by simp;omega
      have e95:((s[0].toNat:Int) == 95)=false:=by simp;omega
      have e45:((s[0].toNat:Int) == 45)=false:=by simp;omega
      clear c1 c2
      go_wp2
      go_ret
      exact ⟨ret_bool e4.out.symm,rfl⟩
    ·have H0:=Lib.hid (h1'.out (by omega))
     have ek:((k:Int) == 0)=false:=by simp;omega
     cases ho:othB s[k] with
     | true =>
      have HN:=Lib.hid (nmR_next s k hlt HD.out (by rw [ho];simp))
      have hc:(48≤s[k].toNat∧s[k].toNat≤57) ∨ (95≤s[k].toNat∧s[k].toNat≤95) ∨ (45≤s[k].toNat∧s[k].toNat≤45):=by unfold othB at ho;simp at ho;omega
      clear hb hl hl' hu ho HA HD HH h1'
      rcases hc with ⟨c1,c2⟩ | ⟨c1,c2⟩ | ⟨c1,c2⟩
      ·have p97:(decide ((97:Int)≤(s[k].toNat:Int)))=false:=by simp;omega
       have p122:(decide ((s[k].toNat:Int)≤122))=true:=by simp;omega
       have p65:(decide ((65:Int)≤(s[k].toNat:Int)))=false:=by simp;omega
       have p90:(decide ((s[k].toNat:Int)≤90))=true:=by simp;omega
       have p48:(decide ((48:Int)≤(s[k].toNat:Int)))=true:=by simp;omega
       have p57:(decide ((s[k].toNat:Int)≤57))=true:=by simp;omega
       have e95:((s[k].toNat:Int) == 95)=false:=by simp;omega
       have e45:((s[k].toNat:Int) == 45)=false:=by simp;omega
       clear c1 c2
       go_wp2
       go_round
       case rel => exact ⟨⟨k+1,by omega,by go_num,HN.out⟩,fun _ => H0.out⟩
       case measure => simp [intOf];omega
      ·have p97:(decide ((97:Int)≤(s[k].toNat:Int)))=false:=by simp;omega
       have p122:(decide ((s[k].toNat:Int)≤122))=true:=by simp;omega
       have p65:(decide ((65:Int)≤(s[k].toNat:Int)))=true:=by simp;omega
       have p90:(decide ((s[k].toNat:Int)≤90))=false:=by simp;omega
       have p48:(decide ((48:Int)≤(s[k].toNat:Int)))=true:=by simp;omega
       have p57:(decide ((s[k].toNat:Int)≤57))=false:=by simp;omega
       have e95:((s[k].toNat:Int) == 95)=true:=by simp;omega
       have e45:((s[k].toNat:Int) == 45)=false:=by simp;omega
       clear c1 c2
       go_wp2
       go_round
       case rel => exact ⟨⟨k+1,by omega,by go_num,HN.out⟩,fun _ => H0.out⟩
       case measure => simp [intOf];omega
      ·have p97:(decide ((97:Int)≤(s[k].toNat:Int)))=false:=by simp;omega
       have p122:(decide ((s[k].toNat:Int)≤122))=true:=by simp;omega
       have p65:(decide ((65:Int)≤(s[k].toNat:Int)))=false:=by simp;omega
       have p90:(decide ((s[k].toNat:Int)≤90))=true:=by simp;omega
       have p48:(decide ((48:Int)≤(s[k].toNat:Int)))=false:=by simp;omega
       have p57:(decide ((s[k].toNat:Int)≤57))=true:=by simp;omega
       have e95:((s[k].toNat:Int) == 95)=false:=by simp;omega
       have e45:((s[k].toNat:Int) == 45)=true:=by simp;omega
       clear c1 c2
       go_wp2
       go_round
       case rel => exact ⟨⟨k+1,by omega,by go_num,HN.out⟩,fun _ => H0.out⟩
       case measure => simp [intOf];omega
     | false =>
      have e4:=Lib.hid (nmB_bad (data_mem s k hlt) hl ho)
      have hc:(0≤s[k].toNat∧s[k].toNat≤44) ∨ (46≤s[k].toNat∧s[k].toNat≤47) ∨ (58≤s[k].toNat∧s[k].toNat≤64) ∨ (91≤s[k].toNat∧s[k].toNat≤94) ∨ (96≤s[k].toNat∧s[k].toNat≤96) ∨ (123≤s[k].toNat∧s[k].toNat≤255):=by
       unfold othB at ho;simp at ho;omega
      clear hb hl hl' hu ho HA HD HH h1'
      rcases hc with ⟨c1,c2⟩ | ⟨c1,c2⟩ | ⟨c1,c2⟩ | ⟨c1,c2⟩ | ⟨c1,c2⟩ | ⟨c1,c2⟩
      ·have p97:(decide ((97:Int)≤(s[k].toNat:Int)))=false:=by simp;omega
       have p122:(decide ((s[k].toNat:Int)≤122))=true:=by simp;omega
       have p65:(decide ((65:Int)≤(s[k].toNat:Int)))=false:=by simp;omega
       have p90:(decide ((s[k].toNat:Int)≤90))=true:=by simp;omega
       have p48:(decide ((48:Int)≤(s[k].toNat:Int)))=false:=by simp;omega
       have p57:(decide ((s[k].toNat:Int)≤57))=true:=by simp;omega
       have e95:((s[k].toNat:Int) == 95)=false:=by simp;omega
       have e45:((s[k].toNat:Int) == 45)=false:=by simp;omega
       clear c1 c2
       go_wp2
       go_ret
       exact ⟨ret_bool e4.out.symm,rfl⟩
      ·have p97:(decide ((97:Int)≤(s[k].toNat:Int)))=false:=by simp;omega
       have p122:(decide ((s[k].toNat:Int)≤122))=true:=by simp;omega
       have p65:(decide ((65:Int)≤(s[k].toNat:Int)))=false:=by simp;omega
       have p90:(decide ((s[k].toNat:Int)≤90))=true:=by simp;omega
       have p48:(decide ((48:Int)≤(s[k].toNat:Int)))=false:=by simp;omega
       have p57:(decide ((s[k].toNat:Int)≤57))=true:=by simp;omega
       have e95:((s[k].toNat:Int) == 95)=false:=by simp;omega
       have e45:((s[k].toNat:Int) == 45)=false:=by simp;omega
       clear c1 c2
       go_wp2
       go_ret
       exact ⟨ret_bool e4.out.symm,rfl⟩
      ·have p97:(decide ((97:Int)≤(s[k].toNat:Int)))=false:=by simp;omega
       have p122:(decide ((s[k].toNat:Int)≤122))=true:=by simp;omega
       have p65:(decide ((65:Int)≤(s[k].toNat:Int)))=false:=by simp;omega
       have p90:(decide ((s[k].toNat:Int)≤90))=true:=by simp;omega
       have p48:(decide ((48:Int)≤(s[k].toNat:Int)))=true:=by simp;omega
       have p57:(decide ((s[k].toNat:Int)≤57))=false:=by simp;omega
       have e95:((s[k].toNat:Int) == 95)=false:=by simp;omega
       have e45:((s[k].toNat:Int) == 45)=false:=by simp;omega
       clear c1 c2
       go_wp2
       go_ret
       exact ⟨ret_bool e4.out.symm,rfl⟩
      ·have p97:(decide ((97:Int)≤(s[k].toNat:Int)))=false:=by simp;omega
       have p122:(decide ((s[k].toNat:Int)≤122))=true:=by simp;omega
       have p65:(decide ((65:Int)≤(s[k].toNat:Int)))=true:=by simp;omega
       have p90:(decide ((s[k].toNat:Int)≤90))=false:=by simp;omega
       have p48:(decide ((48:Int)≤(s[k].toNat:Int)))=true:=by simp;omega
       have p57:(decide ((s[k].toNat:Int)≤57))=false:=by simp;omega
       have e95:((s[k].toNat:Int) == 95)=false:=by simp;omega
       have e45:((s[k].toNat:Int) == 45)=false:=by simp;omega
       clear c1 c2
       go_wp2
       go_ret
       exact ⟨ret_bool e4.out.symm,rfl⟩
      ·have p97:(decide ((97:Int)≤(s[k].toNat:Int)))=false:=by simp;omega
       have p122:(decide ((s[k].toNat:Int)≤122))=true:=by simp;omega
       have p65:(decide ((65:Int)≤(s[k].toNat:Int)))=true:=by simp;omega
       have p90:(decide ((s[k].toNat:Int)≤90))=false:=by simp;omega
       have p48:(decide ((48:Int)≤(s[k].toNat:Int)))=true:=by simp;omega
       have p57:(decide ((s[k].toNat:Int)≤57))=false:=by simp;omega
       have e95:((s[k].toNat:Int) == 95)=false:=by simp;omega
       have e45:((s[k].toNat:Int) == 45)=false:=by simp;omega
       clear c1 c2
       go_wp2
       go_ret
       exact ⟨ret_bool e4.out.symm,rfl⟩
      ·have p97:(decide ((97:Int)≤(s[k].toNat:Int)))=true:=by simp;omega
       have p122:(decide ((s[k].toNat:Int)≤122))=false:=by simp;omega
       have p65:(decide ((65:Int)≤(s[k].toNat:Int)))=true:=by simp;omega
       have p90:(decide ((s[k].toNat:Int)≤90))=false:=by simp;omega
       have p48:(decide ((48:Int)≤(s[k].toNat:Int)))=true:=by simp;omega
       have p57:(decide ((s[k].toNat:Int)≤57))=false:=by simp;omega
       have e95:((s[k].toNat:Int) == 95)=false:=by simp;omega
       have e45:((s[k].toNat:Int) == 45)=false:=by simp;omega
       clear c1 c2
       go_wp2
       go_ret
       exact ⟨ret_bool e4.out.symm,rfl⟩
  ·have e4:=Lib.hid (HA.out (h1'.out (by omega)) (by
    have:=HD.out
    rwa [List.take_of_length_le (by rw [data_len];omega)] at this))
   clear HA HD HH h1'
   go_wp2
   go_ret
   exact ⟨ret_bool e4.out.symm,rfl⟩
set_option maxHeartbeats 1000000 in
set_option maxRecDepth 100000 in
theorem rname_any (s:ByteArray) (w:World) :
  Calls Tryz.prog 61 #[.string s] w fun e w' => e = .returned (.bool (nmB s.data.toList))∧w=w':=by
 by_cases h0:s.size < 1
 ·rw [nmB_len (.inl (by rw [data_len];exact h0))]
  have hz:s.size=0:=by omega
  have t0:((s.size:Int) == 0)=true:=by rw [hz];rfl
  clear hz h0
  go_enter Tryz.func61,Tryz.ntmps61
  go_wp2
  go_ret
  exact ⟨rfl,rfl⟩
 by_cases h4:40 < s.size
 ·rw [nmB_len (.inr (by rw [data_len];exact h4))]
  have h0':0 < s.size:=by omega
  have t0:((s.size:Int) == 0)=false:=by simp;intro h;rw [h] at h0';exact absurd h0' (by decide)
  have t4:decide ((40:Int) < (s.size:Int))=true:=by simp;omega
  clear h0
  go_enter Tryz.func61,Tryz.ntmps61
  go_wp2
  go_ret
  exact ⟨rfl,rfl⟩
 exact rname_loop s w (by omega) (by omega)
end Go.Proofs.YtijkefflpojmhaaGreatDoor

namespace Go.Proofs.YtijkefflpojmhaaGreatDoor
open Go.RowKit
def shpL (k:Int):Option (List Int × Int) :=
 if k=4 ∨ k=5 ∨ k=6 ∨ k=7 ∨ k=8 then some ([1,1],1) else if k=9 then some ([2,1,1],1) else if k=11 ∨ k=12 then some ([1,1],2) else if k=13 ∨ k=14 then some ([2,2],2) else if k=15 then some ([2],2) else none
def bareB (r n:ByteArray) (d:Int):Bool:=r.data.toList.isEmpty && n.data.toList.isEmpty && d == 0
def leafV (k:Int) (r n:ByteArray) (d:Int):Int :=
 if k=1 then (if n.data.toList.isEmpty=true∧d=0∧chkR r.data.toList=0 then 1 else 0)
 else if k=2 then (if r.data.toList.isEmpty=true∧nmB n.data.toList=true∧0≤d∧d≤99999 then 1 else 0)
 else if k=3 then (if r.data.toList.isEmpty=true∧nmB n.data.toList=true∧d=0 then 1 else 0)
 else 0
def srtP (k:Int) (r n:ByteArray) (d:Int) (l:List Int):Int :=
 match shpL k with
 | some (ps,own) => if bareB r n d=true∧l=ps then own else 0
 | none => if l=[] then leafV k r n d else 0
def Ex.srt:Ex→Int
 | .mk k r n d l => srtP k r n d (l.attach.map fun x => x.1.srt)
termination_by x => SizeOf.sizeOf x
decreasing_by
 have:=List.sizeOf_lt_of_mem x.2
 simp only [Ex.mk.sizeOf_spec]
 omega
theorem Ex.srt_is (x:Ex):x.srt=srtP x.kind x.rat x.name x.date (x.sub.map Ex.srt):=by
 cases x with
 | mk k r n d l =>
  rw [Ex.srt]
  show _=srtP k r n d (l.map Ex.srt)
  rw [show (l.attach.map fun x => x.1.srt)=l.map Ex.srt from List.attach_map_val (l:=l) (f:=Ex.srt)]
theorem mem_srt {ps:List Int} (h:∀ p ∈ ps,p ≠ 0) {x:Ex} (hx:x.sub.map Ex.srt=ps) {y:Ex} (hy:y ∈ x.sub):y.srt ≠ 0:=h _ (by rw [← hx];exact List.mem_map_of_mem hy)
theorem shpL_pos {k:Int} {ps:List Int} {own:Int} (h:shpL k=some (ps,own)):(∀ p ∈ ps,p ≠ 0)∧ps.length≤3:=by
 unfold shpL at h
 (repeat' split at h) <;> simp at h <;> obtain ⟨rfl,_⟩:=h <;> simp
end Go.Proofs.YtijkefflpojmhaaGreatDoor

namespace Go.Proofs.YtijkefflpojmhaaGreatDoor
open Go.RowKit
def ExOn (S:Nat→Prop):Nat→World→List Value→Ex→Prop
 | 0,_,_,_ => False
 | n+1,w,cs,x => ∃ a len cap,cs=[.int .u8 x.kind,.string x.rat,.string x.name,.int .i64 x.date,.slice a len cap]∧x.sub.length=len ∧
   (len=0 ∨ ∃ g,a=some ⟨g,0,none⟩∧S g ∧ ∀ i (hi:i < x.sub.length),∃ cs',(∀ j,j < 5→w.cell? ⟨g,i*5+j,none⟩=cs'[j]?)∧ExOn S n w cs' x.sub[i])
theorem ExOn.mono {S S':Nat→Prop} (hS:∀ g,S g→S' g):∀ {n:Nat} {w:World} {cs:List Value} {x:Ex},ExOn S n w cs x→ExOn S' n w cs x
 | 0,_,_,_,h => h
 | n+1,w,cs,x,⟨a,len,cap,h1,h2,h3⟩ => ⟨a,len,cap,h1,h2,h3.imp id fun ⟨g,ha,hg,hi⟩ => ⟨g,ha,hS g hg,fun i h => by
   obtain ⟨cs',hc,hx⟩:=hi i h
   exact ⟨cs',hc,ExOn.mono hS hx⟩⟩⟩
theorem ExOn.keep {S:Nat→Prop} {w w':World} (hw:∀ g,S g→w'.heap[g]? = w.heap[g]?):∀ {n:Nat} {cs:List Value} {x:Ex},ExOn S n w cs x→ExOn S n w' cs x
 | 0,_,_,h => h
 | n+1,cs,x,⟨a,len,cap,h1,h2,h3⟩ => ⟨a,len,cap,h1,h2,h3.imp id fun ⟨g,ha,hg,hi⟩ => ⟨g,ha,hg,fun i h => by
   obtain ⟨cs',hc,hx⟩:=hi i h
   exact ⟨cs',fun j hj => (World.cell?_of_block (w:=w) (w':=w') (a:=⟨g,i*5+j,none⟩) (hw g hg)).trans (hc j hj),ExOn.keep hw hx⟩⟩⟩
theorem ExOn.at {S:Nat→Prop} {w:World} (hS:∀ g,S g→g < w.heap.size):∀ {n:Nat} {cs:List Value} {x:Ex},ExOn S n w cs x→ExAt n w cs x
 | 0,_,_,h => h
 | n+1,cs,x,⟨a,len,cap,h1,h2,h3⟩ => ⟨a,len,cap,h1,h2,h3.imp id fun ⟨g,ha,hg,hi⟩ => ⟨g,0,ha,hS g hg,fun i h => by
   obtain ⟨cs',hc,hx⟩:=hi i h
   exact ⟨cs',fun j hj => by rw [Nat.zero_add];exact hc j hj,ExOn.at hS hx⟩⟩⟩
theorem ExOn.shape {S:Nat→Prop}:∀ {n:Nat} {w:World} {cs:List Value} {x:Ex},ExOn S n w cs x → ∃ a len cap,cs=[.int .u8 x.kind,.string x.rat,.string x.name,.int .i64 x.date,.slice a len cap]
 | 0,_,_,_,h => h.elim
 | _+1,_,_,_,⟨a,len,cap,h1,_,_⟩ => ⟨a,len,cap,h1⟩
def TwP (n:Nat) (x:Ex) (w:World) (e:Ending) (w':World):Prop :=
 ∃ a len cap,e = .returned (.agg #[.int .u8 x.kind,.string x.rat,.string x.name,.int .i64 x.date,.slice a len cap])∧ExOn (fun g => w.heap.size≤g∧g < w'.heap.size) n w' [.int .u8 x.kind,.string x.rat,.string x.name,.int .i64 x.date,.slice a len cap] x∧Below w.heap.size w w'
def zeroEx:Value := .agg #[.int .u8 0,.string ⟨#[]⟩,.string ⟨#[]⟩,.int .i64 0,.slice none 0 0]
theorem infoEx:(Tryz.prog.info? 25).map (fun i => (i.zero,i.size,i.bytes))=some (some zeroEx,5,72):=by kernel_rfl
def TwR (n B:Nat) (l:List Ex) (k:Nat) (v:Value) (xs:List Value) (wr:World):Prop :=
 ∃ css:List (List Value),css.flatten=xs∧css.length=k∧(∀ c ∈ css,c.length=5)∧wr.ownsRow B 25 5 v k xs ∧
  ∀ i (h:i < css.length) (h2:i < l.length),ExOn (fun g => B≤g∧g < wr.heap.size∧v.ownBlock ≠ some g) n wr css[i] l[i]
theorem TwR.nil (n B:Nat) (l:List Ex) (wr:World):TwR n B l 0 (.slice none 0 0) [] wr :=
 ⟨[],rfl,rfl,by simp,⟨by simp,.inl ⟨rfl,rfl⟩⟩,fun i h => absurd h (Nat.not_lt_zero _)⟩
theorem TwR.set {n B:Nat} {l:List Ex} {k:Nat} {v:Value} {xs:List Value} {w1:World} (h:TwR n B l k v xs w1) {p:Addr} (hp:p.block < B) (u:Value):TwR n B l k v xs (w1.setCell p u):=by
 obtain ⟨css,h0,h1,h2,h3,h4⟩:=h
 refine ⟨css,h0,h1,h2,ownsRow_setCell_below h3 hp u,fun i hi hi2 => ((h4 i hi hi2).keep (w':=w1.setCell p u) fun g ⟨g1,_,_⟩ => Below.heap_setCell _ _ _ _ (by omega)).mono fun g ⟨g1,g2,g3⟩ => ⟨g1,by simpa [World.setCell] using g2,g3⟩⟩
theorem TwR.snoc {n B:Nat} {l:List Ex} {k:Nat} {v v':Value} {xs:List Value} {w1 w2 w3:World} {y:Ex} {cs:List Value} (h:TwR n B l k v xs w1) (hk:k < l.length) (hy:y=l[k]) (hB:B≤w1.heap.size)
  (hb:Below w1.heap.size w1 w2) (hx:ExOn (fun g => w1.heap.size≤g∧g < w2.heap.size) n w2 cs y) (hg:w2.grownBy w3 v.ownBlock) (hv:v'.ownBlock=v.ownBlock ∨ v'.ownBlock=some w2.heap.size)
  (hown:w3.ownsRow B 25 5 v' (k+1) (xs ++ cs)):TwR n B l (k+1) v' (xs ++ cs) w3:=by
 obtain ⟨css,h0,h1,h2,h3,h4⟩:=h
 have hvl:∀ g,v.ownBlock=some g→g < w1.heap.size:=fun g e => (h3.lt g e).2
 have hn:∀ g,(v'.ownBlock=some g)→g < w2.heap.size→v.ownBlock=some g:=fun g e hl => by
  rcases hv with hv | hv
  ·rw [← hv];exact e
  ·rw [hv] at e;injection e with e;omega
 obtain ⟨a,len,cap,hcs⟩:=hx.shape
 refine ⟨css ++ [cs],by rw [List.flatten_append,List.flatten_singleton,h0],by simp [h1],fun c hc => ?_,hown,fun i hi hi2 => ?_⟩
 ·rcases List.mem_append.1 hc with hc | hc
  ·exact h2 c hc
  ·rw [List.mem_singleton.1 hc,hcs];rfl
 ·by_cases hik:i < css.length
  ·have e1:(css ++ [cs])[i]=css[i]:=List.getElem_append_left hik
   rw [e1]
   refine ((h4 i hik hi2).keep (w':=w3) fun g ⟨_,g2,g3⟩ => ?_).mono fun g ⟨g1,g2,g3⟩ => ⟨g1,Nat.lt_of_lt_of_le g2 (Nat.le_trans hb.size hg.size),fun e => g3 (hn g e (Nat.lt_of_lt_of_le g2 hb.size))⟩
   rw [hg.block g (Nat.lt_of_lt_of_le g2 hb.size) (fun e => g3 e.symm),hb.block g g2]
  ·have hie:i=k:=by simp at hi;omega
   subst hie
   have e1:(css ++ [cs])[i]'hi=cs:=by rw [List.getElem_append_right (by omega)];simp
   rw [e1,← hy]
   refine (hx.keep (w':=w3) fun g ⟨g1,g2⟩ => ?_).mono fun g ⟨g1,g2⟩ => ⟨by omega,Nat.lt_of_lt_of_le g2 hg.size,fun e => by have:=hvl g (hn g e g2);omega⟩
   exact hg.block g g2 (fun e => by have:=hvl g e.symm;omega)
theorem TwR.owns {n B:Nat} {l:List Ex} {k:Nat} {v:Value} {xs:List Value} {w1:World} (h:TwR n B l k v xs w1):w1.ownsRow B 25 5 v k xs:=by
 obtain ⟨_,_,_,_,h3,_⟩:=h;exact h3
theorem TwR.done {n B:Nat} {x:Ex} {k:Nat} {v:Value} {xs:List Value} {wr:World} (h:TwR n B x.sub k v xs wr) (hk:x.sub.length=k) :
  ∃ a len cap,v = .slice a len cap∧ExOn (fun g => B≤g∧g < wr.heap.size) (n+1) wr [.int .u8 x.kind,.string x.rat,.string x.name,.int .i64 x.date,.slice a len cap] x:=by
 obtain ⟨css,h0,h1,h2,h3,h4⟩:=h
 rcases h3.2 with ⟨rfl,h0⟩ | ⟨g,cap,cur,rfl,hg,hc,hle,hm,hcs,ht⟩
 ·exact ⟨none,0,0,rfl,none,0,0,rfl,by omega,.inl rfl⟩
 ·have hgl:g < wr.heap.size:=(Array.getElem?_eq_some_iff.1 hc).1
  refine ⟨_,_,_,rfl,some ⟨g,0,none⟩,k,cap,rfl,hk,.inr ⟨g,rfl,⟨by omega,hgl⟩,fun i hi => ⟨css[i],fun j hj => ?_,(h4 i (by omega) hi).mono fun g ⟨g1,g2,_⟩ => ⟨g1,g2⟩⟩⟩⟩
  have hfl:∀ (L:List (List Value)),(∀ c ∈ L,c.length=5) → ∀ i (hi:i < L.length) j,j < 5→L.flatten[i*5+j]? = L[i][j]? := by
   intro L
   induction L with
   | nil => intro _ i hi;exact absurd hi (Nat.not_lt_zero _)
   | cons c L ih =>
    intro hL i hi j hj
    have hc5:c.length=5:=hL c (List.mem_cons_self ..)
    rw [List.flatten_cons]
    match i,hi with
    | 0,_ => rw [Nat.zero_mul,Nat.zero_add,List.getElem?_append_left (by omega)];rfl
    | i+1,hi =>
     rw [List.getElem?_append_right (by omega),show (i+1)*5+j - c.length=i*5+j by omega,ih (fun c hc => hL c (List.mem_cons_of_mem _ hc)) i (by simpa using hi) j hj]
     rfl
  rw [← hfl css h2 i (by omega) j hj,h0,← ht,List.getElem?_take_of_lt (by
   have:i*5+j < k*5:=by omega
   exact this)]
  simp [World.cell?,hc]
end Go.Proofs.YtijkefflpojmhaaGreatDoor

namespace Go.Proofs.YtijkefflpojmhaaGreatDoor
open Go.RowKit
theorem tw_own {w1 u:World} {base:Nat} {v:Value} {k:Nat} {xs:List Value} (h:w1.ownsRow base 25 5 v k xs) (hb:Below w1.heap.size w1.drew u) (o:Obj):(u.alloc o).ownsRow base 25 5 v k xs :=
 World.ownsRow.alloc (World.ownsRow.kept (w:=w1) h ⟨hb.os,hb.tape,hb.output,hb.size,fun i hi _ => hb.block i hi⟩ (row:=none) (by cases v.ownBlock <;> simp)) o
theorem tw_ne {w1:World} {base:Nat} {v:Value} {k q:Nat} {xs:List Value} (h:w1.ownsRow base 25 5 v k xs) (hq:q < base):some q ≠ v.ownBlock:=fun e => by
 have:=(h.lt q e.symm).1;omega
theorem one_five (k d:Int) (r n:ByteArray) (a:Option Addr) (l c:Nat):∀ u ∈ [Value.int .u8 k,.string r,.string n,.int .i64 d,.slice a l c],u.oneCell' = true:=by
 intro u hu
 simp only [List.mem_cons,List.not_mem_nil,or_false] at hu
 rcases hu with rfl | rfl | rfl | rfl | rfl <;> rfl
def TwB (x:Ex) (B:Nat) (a:Option Addr) (len cap:Nat) (v:Value) (w:World):Prop :=
 w.heap[B]? = some (.cells #[.int .u8 x.kind,.string x.rat,.string x.name,.int .i64 x.date,.slice a len cap] 25)∧w.heap[B+1]? = some (.cells #[.int .u8 0,.string ⟨#[]⟩,.string ⟨#[]⟩,.int .i64 0,.slice none 0 0] 25) ∧
  w.heap[B+1+1]? = some (.cells #[.int .u8 x.kind,.string x.rat,.string x.name,.int .i64 x.date,v] 25)∧B+3≤w.heap.size
theorem tw_step {n B len cap k ga ca:Nat} {x y:Ex} {a pa:Option Addr} {pl pc:Nat} {v:Value} {xs:List Value} {w w1 u w3:World}
  (h0:w1.heap[B]? = some (.cells #[.int .u8 x.kind,.string x.rat,.string x.name,.int .i64 x.date,.slice a len cap] 25))
  (h1:w1.heap[B+1]? = some (.cells #[.int .u8 0,.string ⟨#[]⟩,.string ⟨#[]⟩,.int .i64 0,.slice none 0 0] 25))
  (h2:w1.heap[B+1+1]? = some (.cells #[.int .u8 x.kind,.string x.rat,.string x.name,.int .i64 x.date,v] 25)) (hz:B+3≤w1.heap.size)
  (hr:TwR n (B+3) x.sub k v xs w1) (hb:Below B w w1) (hu:Below w1.drew.heap.size w1.drew u)
  (hx:ExOn (fun g => w1.drew.heap.size≤g∧g < u.heap.size) n u [.int .u8 y.kind,.string y.rat,.string y.name,.int .i64 y.date,.slice pa pl pc] y)
  (hg:(u.alloc (.cells #[.int .u8 y.kind,.string y.rat,.string y.name,.int .i64 y.date,.slice pa pl pc] 25)).grownBy w3 v.ownBlock)
  (hown:w3.ownsRow (B+3) 25 5 (.slice (some ⟨ga,0,none⟩) (k+1) ca) (k+1) (xs ++ [.int .u8 y.kind,.string y.rat,.string y.name,.int .i64 y.date,.slice pa pl pc]))
  (hat:v.ownBlock=some ga ∨ ga=(u.alloc (.cells #[.int .u8 y.kind,.string y.rat,.string y.name,.int .i64 y.date,.slice pa pl pc] 25)).heap.size) (hk:k < x.sub.length) (hy:y=x.sub[k]) :
  TwB x B a len cap (.slice (some ⟨ga,0,none⟩) (k+1) ca) (w3.setCell ⟨B+1+1,4,none⟩ (.slice (some ⟨ga,0,none⟩) (k+1) ca)) ∧
   TwR n (B+3) x.sub (k+1) (.slice (some ⟨ga,0,none⟩) (k+1) ca) (xs ++ [.int .u8 y.kind,.string y.rat,.string y.name,.int .i64 y.date,.slice pa pl pc]) (w3.setCell ⟨B+1+1,4,none⟩ (.slice (some ⟨ga,0,none⟩) (k+1) ca)) ∧
   Below B w (w3.setCell ⟨B+1+1,4,none⟩ (.slice (some ⟨ga,0,none⟩) (k+1) ca)):=by
 obtain ⟨u2,hu2⟩:∃ u2,u2=u.alloc (.cells #[.int .u8 y.kind,.string y.rat,.string y.name,.int .i64 y.date,.slice pa pl pc] 25):=⟨_,rfl⟩
 rw [← hu2] at hg hat
 have hbu:Below w1.heap.size w1 u:=⟨hu.os,hu.tape,hu.output,hu.size,hu.block⟩
 have hb2:Below w1.heap.size w1 u2:=by rw [hu2];exact hbu.alloc hbu.size _
 have hzu:u.heap.size≤u2.heap.size:=by rw [hu2];simp
 have hvb:∀ g,v.ownBlock=some g→B+3≤g:=fun g e => (hr.owns.lt g e).1
 have keep:∀ q,q < B+3→w3.heap[q]? = w1.heap[q]? := fun q hq => by
  rw [hg.block q (Nat.lt_of_lt_of_le (by omega) hb2.size) (fun e => by have:=hvb q e.symm;omega),hb2.block q (by omega)]
 have hx2:ExOn (fun g => w1.heap.size≤g∧g < u2.heap.size) n u2 [.int .u8 y.kind,.string y.rat,.string y.name,.int .i64 y.date,.slice pa pl pc] y :=
  (hx.keep (w':=u2) fun g ⟨_,g2⟩ => by rw [hu2];exact Below.heap_alloc u _ g g2).mono fun g ⟨g1,g2⟩ => ⟨g1,by omega⟩
 have hs:=hr.snoc hk hy hz hb2 hx2 hg (v' := .slice (some ⟨ga,0,none⟩) (k+1) ca) (by
  rcases hat with h | h
  ·exact .inl h.symm
  ·right;rw [h];rfl) hown
 refine ⟨⟨?_,?_,?_,?_⟩,hs.set (p:=⟨B+1+1,4,none⟩) (by show B+1+1 < B+3;omega) _,?_⟩
 ·rw [Below.heap_setCell _ _ _ _ (by show B ≠ B+1+1;omega),keep _ (by omega)];exact h0
 ·rw [Below.heap_setCell _ _ _ _ (by show B+1 ≠ B+1+1;omega),keep _ (by omega)];exact h1
 ·have:=(keep (B+1+1) (by omega)).trans h2
  simp [World.setCell,Array.getElem?_modify,this]
 ·have:=hg.size;have:=hb2.size
  simp [World.setCell];omega
 ·refine (((hb.trans (hb2.mono (by omega))).grown hg (by have:=hb2.size;omega) (fun q e => by have:=hvb q e;omega))).setCell (p:=⟨B+1+1,4,none⟩) (by show B≤B+1+1;omega) _
theorem tw_end {n B lv cv:Nat} {x:Ex} {av:Option Addr} {w w1:World}
  (h1:w1.heap[B+1]? = some (.cells #[.int .u8 0,.string ⟨#[]⟩,.string ⟨#[]⟩,.int .i64 0,.slice none 0 0] 25)) (hb:Below B w w1)
  (hx:ExOn (fun g => B+3≤g∧g < w1.heap.size) (n+1) w1 [.int .u8 x.kind,.string x.rat,.string x.name,.int .i64 x.date,.slice av lv cv] x) :
  ∃ W',W' = ((((w1.setCell ⟨B+1,0,none⟩ (.int .u8 x.kind)).setCell ⟨B+1,1,none⟩ (.string x.rat)).setCell ⟨B+1,2,none⟩ (.string x.name)).setCell ⟨B+1,3,none⟩ (.int .i64 x.date)).setCell ⟨B+1,4,none⟩ (.slice av lv cv) ∧
   W'.heap[B+1]? = some (.cells #[.int .u8 x.kind,.string x.rat,.string x.name,.int .i64 x.date,.slice av lv cv] 25) ∧
   ExOn (fun g => B≤g∧g < W'.heap.size) (n+1) W' [.int .u8 x.kind,.string x.rat,.string x.name,.int .i64 x.date,.slice av lv cv] x∧Below B w W':=by
 refine ⟨_,rfl,?_,?_,?_⟩
 ·simp [World.setCell,Array.getElem?_modify,h1]
 ·refine (hx.keep fun g ⟨g1,_⟩ => ?_).mono fun g ⟨g1,g2⟩ => ⟨by omega,by simpa [World.setCell] using g2⟩
  rw [Below.heap_setCell _ _ _ _ (by show g ≠ B+1;omega),Below.heap_setCell _ _ _ _ (by show g ≠ B+1;omega),Below.heap_setCell _ _ _ _ (by show g ≠ B+1;omega),Below.heap_setCell _ _ _ _ (by show g ≠ B+1;omega),Below.heap_setCell _ _ _ _ (by show g ≠ B+1;omega)]
 ·exact ((((hb.setCell (p:=⟨B+1,0,none⟩) (by show B≤B+1;omega) _).setCell (p:=⟨B+1,1,none⟩) (by show B≤B+1;omega) _).setCell (p:=⟨B+1,2,none⟩) (by show B≤B+1;omega) _).setCell (p:=⟨B+1,3,none⟩) (by show B≤B+1;omega) _).setCell (p:=⟨B+1,4,none⟩) (by show B≤B+1;omega) _
set_option maxHeartbeats 2000000 in
set_option maxRecDepth 100000 in
theorem twin_any:∀ (n:Nat) (x:Ex) (cs:List Value) (w:World),ExAt n w cs x→x.size≤1000→Calls Tryz.prog 10 #[.agg cs.toArray] w (TwP n x w):=by
 intro n
 induction n with
 | zero => intro x cs w h;exact h.elim
 | succ n ih =>
  intro x cs w h hz
  obtain ⟨a,len,cap,rfl,hlen,hsub⟩:=h
  have hsl:=x.sub_len
  have hlb:len≤1000:=by omega
  obtain ⟨i0,hi,hz0,hz1,hz2⟩:=info_parts infoEx
  have HI:=Lib.hid ih
  have HS:=Lib.hid hsub
  have HLEN:=Lib.hid hlen
  have HZ:=Lib.hid hz
  have HI0:=Lib.hid hi
  have HI1:=Lib.hid hz0
  have HI2:=Lib.hid hz1
  have HI3:=Lib.hid hz2
  clear ih hsub hlen hz hsl hi hz0 hz1 hz2
  go_enter Tryz.func10,Tryz.ntmps10
  go_wp2_with fail
  obtain ⟨B,hBB⟩:∃ B,B=w.heap.size:=⟨_,rfl⟩
  obtain ⟨W0,hW0⟩:∃ W0,W0=((w.alloc (.cells #[.int .u8 x.kind,.string x.rat,.string x.name,.int .i64 x.date,.slice a len cap] 25)).alloc (.cells #[.int .u8 0,.string ⟨#[]⟩,.string ⟨#[]⟩,.int .i64 0,.slice none 0 0] 25)).alloc (.cells #[.int .u8 x.kind,.string x.rat,.string x.name,.int .i64 x.date,.slice none 0 0] 25):=⟨_,rfl⟩
  have hT:TwB x B a len cap (.slice none 0 0) W0:=by
   rw [hW0,hBB]
   refine ⟨?_,?_,?_,?_⟩
   ·show (((w.heap.push _).push _).push _)[w.heap.size]? = _
    rw [Array.getElem?_push,if_neg (by simp;omega),Array.getElem?_push,if_neg (by simp),Array.getElem?_push,if_pos rfl]
   ·show (((w.heap.push _).push _).push _)[w.heap.size+1]? = _
    rw [Array.getElem?_push,if_neg (by simp),Array.getElem?_push,if_pos (by simp)]
   ·show (((w.heap.push _).push _).push _)[w.heap.size+1+1]? = _
    rw [Array.getElem?_push,if_pos (by simp)]
   ·simp
  have hB0:Below B w W0:=by rw [hW0,hBB];exact ((own_below w _).alloc (by simp) _).alloc (by simp;omega) _
  rw [← hW0]
  rw [← hBB]
  have HT:=Lib.hid hT
  have HB0:=Lib.hid hB0
  have HBB:=Lib.hid hBB
  clear hT hB0 hW0 hBB
  go_loopw [4] (fun iv wr => ∃ (k:Nat) (v:Value) (xs:List Value),k≤len∧iv = .int .i64 (k:Int)∧TwB x B a len cap v wr∧TwR n (B+3) x.sub k v xs wr∧Below B w wr) (fun iv _ => len - (intOf iv).toNat)
  case atStart => exact ⟨0,.slice none 0 0,[],Nat.zero_le _,rfl,HT.out,TwR.nil _ _ _ _,HB0.out⟩
  case round =>
   obtain ⟨w1,rfl⟩:∃ w1:World,w1=wr:=⟨_,rfl⟩
   obtain ⟨k,v,xs,hk,rfl,htb,htr,hb⟩:=hrel
   obtain ⟨d0,d1,d2,hz3⟩:=htb
   obtain ⟨a0,a1,a2,a3,a4⟩:=exCells d0
   obtain ⟨o0,o1,o2,o3,o4⟩:=exCells d2
   have HD0:=Lib.hid d0
   have HD1:=Lib.hid d1
   have HD2:=Lib.hid d2
   have HR:=Lib.hid htr
   have HB:=Lib.hid hb
   clear d0 d1 d2 htr hb
   by_cases hlt:k < len
   ·have hlt2:k < x.sub.length:=by rw [HLEN.out];exact hlt
    rcases HS.out with h0 | ⟨g,o,ha,hg,hel⟩
    ·omega
    ·subst ha
     have hBw:Below w.heap.size w w1:=by rw [← HBB.out];exact HB.out
     obtain ⟨p1,l1,cc,⟨e0,e1,e2,e3,e4⟩,hx1⟩:=ExAt.elem hg hBw hlt2 hel
     have hym:x.sub[k] ∈ x.sub:=List.getElem_mem _
     have hys:=Ex.sub_size hym
     obtain ⟨y,hy⟩:∃ y,y=x.sub[k]:=⟨_,rfl⟩
     rw [← hy] at e0 e1 e2 e3 hx1 hys
     have HC:=Lib.hid (HI.out y _ w1.drew (ExAt.below (Below.refl _ w1).drew hx1) (by have:=HZ.out;omega))
     have HY:=Lib.hid hy
     have hk0:(0:Int)≤(k:Int):=by omega
     have hk1:(k:Int) < (len:Int):=by omega
     have z3:g < w1.heap.size:=Nat.lt_of_lt_of_le hg hBw.size
     clear hx1 hy hym hys hel hBw o0 o1 o2 o3 a0 a1 a2 a3
     go_wp2_with fail
     go_region_law (first
      | (refine step_append_lies _ (by rfl) (.tmp 22) (.tmp 29) 23 (by rfl) (B+3) 25 i0 zeroEx 5 72 Tryz.underlying23 HI0.out HI1.out HI2.out HI3.out rfl (by decide) v k xs (by rfl) HOW.out ⟨u.heap.size,0,none⟩ 1 1 [.int .u8 y.kind,.string y.rat,.string y.name,.int .i64 y.date,.slice pa pl pc] (by rfl) rfl HNW.out HON.out (by decide) (by unfold maxLen;omega) (by omega) HBS.out _ rfl ?_;intro ga ca w3 hown hgr hat hltg;have HGR:=Lib.hid hgr;have HOWN:=Lib.hid hown;have HAT:=Lib.hid hat;have hd2w:=(hgr.block _ (show B+1+1 < _ by rw [World.size_alloc];omega) (tw_ne HR.out.owns (by omega))).trans ((Below.heap_alloc u _ _ zu).trans HD2u.out);have HD2w:=Lib.hid hd2w;have o4w:=(exCells hd2w).2.2.2.2;have f4w:=Lib.frozen_of_heap hd2w 4;clear hown hgr hat hd2w)
      | (go_simp;go_at_call 10;refine HC.out.mono ?_;rintro e u ⟨pa,pl,pc,rfl,hx,hb⟩;have HX:=Lib.hid hx;have HBU:=Lib.hid hb;have hd2u:=(hb.block _ (show B+1+1 < w1.heap.size by omega)).trans HD2.out;have HD2u:=Lib.hid hd2u;have o4u:=(exCells hd2u).2.2.2.2;have zu:B+1+1 < u.heap.size:=Nat.lt_of_lt_of_le (show B+1+1 < w1.heap.size by omega) hb.size;have HOW:=Lib.hid (tw_own HR.out.owns hb (.cells #[.int .u8 y.kind,.string y.rat,.string y.name,.int .i64 y.date,.slice pa pl pc] 25));have HNW:=Lib.hid (World.news_of_block (heap_alloc_new u (.cells #[.int .u8 y.kind,.string y.rat,.string y.name,.int .i64 y.date,.slice pa pl pc] 25)));have HON:=Lib.hid (one_five y.kind y.date y.rat y.name pa pl pc);have HBS:=Lib.hid (show B+3≤(u.alloc (.cells #[.int .u8 y.kind,.string y.rat,.string y.name,.int .i64 y.date,.slice pa pl pc] 25)).heap.size by rw [World.size_alloc];have:=hb.size;have e:w1.drew.heap.size=w1.heap.size:=rfl;omega);clear hx hb hd2u))
     all_goals
      have HNEW:=Lib.hid (tw_step HD0.out HD1.out HD2.out hz3 HR.out HB.out HBU.out HX.out HGR.out HOWN.out HAT.out hlt2 HY.out)
      clear HX HGR HOWN HAT HOW HNW HON HBS HBU HD2u HD2w
      go_wp2_with fail
      go_roundw
      case rel => exact ⟨k+1,_,_,by omega,by go_num,HNEW.out.1,HNEW.out.2.1,HNEW.out.2.2⟩
      case measure => simp [intOf] <;> omega
   ·have hke:x.sub.length=k:=by rw [HLEN.out];omega
    obtain ⟨av,lv,cv,rfl,hon⟩:=TwR.done HR.out hke
    obtain ⟨q0,q1,q2,q3,q4⟩:=exCells HD1.out
    have z1:B+1 < w1.heap.size:=by omega
    have fr:∀ i,w1.frozen? ⟨B+1,i,none⟩=false:=Lib.frozen_of_heap HD1.out
    have HON:=Lib.hid hon
    clear hon
    have HFN:=Lib.hid (tw_end HD1.out HB.out HON.out)
    clear HON
    go_wp2_with fail
    obtain ⟨W',hW',hc,hx,hbw⟩:=HFN.out
    rw [← hW']
    obtain ⟨c0,c1,c2,c3,c4⟩:=exCells hc
    rw [HBB.out] at hx hbw c0 c1 c2 c3 c4
    rw [HBB.out]
    exact bodyPost_ret (v := .agg #[.int .u8 x.kind,.string x.rat,.string x.name,.int .i64 x.date,.slice av lv cv]) (by simp [results,Tryz.results10,go_sem,c0,c1,c2,c3,c4]) rfl ⟨av,lv,cv,rfl,hx,hbw⟩
end Go.Proofs.YtijkefflpojmhaaGreatDoor

namespace Go.Proofs.YtijkefflpojmhaaGreatDoor
open Go.RowKit
theorem infoInt64:(Tryz.prog.info? 3).map (fun i => (i.zero,i.size,i.bytes))=some (some (.int .i64 0),1,8):=by kernel_rfl
theorem one_cell {u:Value} (h:u.oneCell' = true):∀ x ∈ [u],x.oneCell' = true:=fun x hx => by rw [List.mem_singleton.1 hx];exact h
theorem sm_parts {k:Int} {r nm:ByteArray} {d:Int} {l:List Ex} (h:∃ dd,SmX dd (Ex.mk k r nm d l)):(r.size≤2500∧nm.size≤200) ∧ ∀ y ∈ l,∃ dd,SmX dd y:=by
 obtain ⟨dd,h⟩:=h
 match dd,h with
 | _+1,⟨h1,h2,h3⟩ => exact ⟨⟨h2,h1⟩,fun y hy => ⟨_,h3 y hy⟩⟩
def RsC (n:Nat):Prop := ∀ (x:Ex) (cs:List Value) (w:World),ExAt n w cs x→x.size≤1000→(∃ dd,SmX dd x)→Calls Tryz.prog 81 #[.agg cs.toArray] w (IntP w (srtP x.kind x.rat x.name x.date (x.sub.map Ex.srt)))
def RsR (W0:World) (L:List Int) (len:Nat) (lv iv:Value) (wr:World):Prop :=
 ∃ k:Nat,k≤len∧iv = .int .i64 (k:Int)∧Hid (wr.ownsRow W0.heap.size 3 1 lv k (ints (L.take k)))∧Below W0.heap.size W0 wr
theorem sorts_at {w:World} {B:Nat} {v:Value} {n:Nat} {L:List Int} (h:w.ownsRow B 3 1 v n (ints L)):(v = .slice none 0 0∧n=0) ∨ ∃ g cap,v = .slice (some ⟨g,0,none⟩) n cap∧g < w.heap.size ∧ ∀ i,i < L.length→w.cell? ⟨g,i,none⟩=some (.int .i64 (L[i]?.getD 0)):=by
 rcases rowAt_of_owns h with ⟨rfl,rfl,_⟩ | ⟨g,cap,rfl,_,_,_,_,hr⟩
 ·exact .inl ⟨rfl,rfl⟩
 ·refine .inr ⟨g,cap,rfl,hr.lt,fun i hi => ?_⟩
  rw [hr.cell (by rw [ints_length];exact hi),ints_get L i hi]
theorem srt_bare {k:Int} {r n:ByteArray} {d:Int} {l ps:List Int} {own:Int} (hs:shpL k=some (ps,own)) (h:bareB r n d=false):srtP k r n d l=0:=by
 unfold srtP;rw [hs];simp [h]
theorem srt_ne {k:Int} {r n:ByteArray} {d:Int} {l ps:List Int} {own:Int} (hs:shpL k=some (ps,own)) (h:l ≠ ps):srtP k r n d l=0:=by
 unfold srtP;rw [hs];simp [h]
theorem srt_yes {k:Int} {r n:ByteArray} {d:Int} {l ps:List Int} {own:Int} (hs:shpL k=some (ps,own)) (hb:bareB r n d=true) (h:l=ps):srtP k r n d l=own:=by
 unfold srtP;rw [hs];simp [h,hb]
theorem srt_leaf {k:Int} {r n:ByteArray} {d:Int} {l:List Int} (hs:shpL k=none) (h:l=[]):srtP k r n d l=leafV k r n d:=by
 unfold srtP;rw [hs];simp [h]
theorem srt_leaf_no {k:Int} {r n:ByteArray} {d:Int} {l:List Int} (hs:shpL k=none) (h:l ≠ []):srtP k r n d l=0:=by
 unfold srtP;rw [hs];simp [h]
theorem shp_5 {k:Int} (h4:4≤k) (h8:k≤8):shpL k=some ([1,1],1):=by
 unfold shpL;rw [if_pos (by omega)]
theorem shp_no {k:Int} (h:k < 4 ∨ k=10 ∨ 15 < k):shpL k=none:=by
 unfold shpL;rw [if_neg (by omega),if_neg (by omega),if_neg (by omega),if_neg (by omega),if_neg (by omega)]
theorem leaf_no {k:Int} (r n:ByteArray) (d:Int) (h1:k ≠ 1) (h2:k ≠ 2) (h3:k ≠ 3):leafV k r n d=0:=by
 unfold leafV;rw [if_neg h1,if_neg h2,if_neg h3]
theorem list_1 {l:List Int} {a:Int} (h:l.length=1) (h0:l[0]?.getD 0=a):l=[a]:=by
 match l,h with
 | [x],_ => simp at h0;rw [h0]
theorem list_2 {l:List Int} {a b:Int} (h:l.length=2) (h0:l[0]?.getD 0=a) (h1:l[1]?.getD 0=b):l=[a,b]:=by
 match l,h with
 | [x,y],_ => simp at h0 h1;rw [h0,h1]
theorem list_3 {l:List Int} {a b c:Int} (h:l.length=3) (h0:l[0]?.getD 0=a) (h1:l[1]?.getD 0=b) (h2:l[2]?.getD 0=c):l=[a,b,c]:=by
 match l,h with
 | [x,y,z],_ => simp at h0 h1 h2;rw [h0,h1,h2]
theorem list_at_ne {l ps:List Int} {i:Nat} (h:l[i]?.getD 0 ≠ ps[i]?.getD 0):l ≠ ps:=fun e => h (by rw [e])
theorem list_len_ne {l ps:List Int} (h:l.length ≠ ps.length):l ≠ ps:=fun e => h (by rw [e])
theorem sorts_one {w:World} {B:Nat} {v:Value} {n:Nat} {L:List Int} (h:w.ownsRow B 3 1 v n (ints L)):∃ av cv,v = .slice av n cv∧(n=0 ∨ ∃ g,av=some ⟨g,0,none⟩∧g < w.heap.size ∧ ∀ i,i < L.length→w.cell? ⟨g,i,none⟩=some (.int .i64 (L[i]?.getD 0))):=by
 rcases sorts_at h with ⟨rfl,rfl⟩ | ⟨g,cap,rfl,h1,h2⟩
 ·exact ⟨none,0,rfl,.inl rfl⟩
 ·exact ⟨_,_,rfl,.inr ⟨g,rfl,h1,h2⟩⟩
theorem kd_lo {k:Int} (h4:k < 4):(k ≠ 9∧k ≠ 11∧k ≠ 12∧k ≠ 13∧k ≠ 14∧k ≠ 15)∧decide ((4:Int)≤k)=false∧(k < 4 ∨ k=10 ∨ 15 < k):=by
 refine ⟨by omega,by simp;omega,by omega⟩
theorem kd_hi {k:Int} (h4:k=10 ∨ 15 < k):(k ≠ 1∧k ≠ 2∧k ≠ 3)∧(k ≠ 9∧k ≠ 11∧k ≠ 12∧k ≠ 13∧k ≠ 14∧k ≠ 15)∧(decide ((4:Int)≤k)=true∧decide (k≤8)=false)∧(k < 4 ∨ k=10 ∨ 15 < k):=by
 refine ⟨by omega,by omega,⟨by simp;omega,by simp;omega⟩,by omega⟩
theorem ieq_false {a b:Int} (h:a ≠ b):(a == b)=false:=by simpa using h
theorem ieq_true {a b:Int} (h:a=b):(a == b)=true:=by simpa using h
set_option maxHeartbeats 1000000 in
theorem rdayok_any (n:Int) (w:World):Calls Tryz.prog 65 #[.int .i64 n] w (fun e w' => e = .returned (.bool (decide (0≤n) && decide (n≤99999)))∧w=w'):=by
 by_cases h0:0≤n
 ·by_cases h1:n≤99999
  ·have e:(decide (0≤n) && decide (n≤99999))=true:=by simp [h0,h1]
   rw [e]
   clear e
   go_enter Tryz.func65,Tryz.ntmps65
   go_wp2
   go_ret
   exact ⟨rfl,rfl⟩
  ·have e:(decide (0≤n) && decide (n≤99999))=false:=by simp [h1]
   rw [e]
   clear e
   go_enter Tryz.func65,Tryz.ntmps65
   go_wp2
   go_ret
   exact ⟨rfl,rfl⟩
 ·have e:(decide (0≤n) && decide (n≤99999))=false:=by simp [h0]
  have d0:decide (0≤n)=false:=by simpa using h0
  rw [e]
  clear e
  go_enter Tryz.func65,Tryz.ntmps65
  go_wp2
  go_ret
  exact ⟨rfl,rfl⟩
end Go.Proofs.YtijkefflpojmhaaGreatDoor

namespace Go.Proofs.YtijkefflpojmhaaGreatDoor
open Go.RowKit
def U8P (w:World) (v:Int) (e:Ending) (w':World):Prop:=e = .returned (.int .u8 v)∧Below w.heap.size w w'
set_option maxHeartbeats 1000000 in
theorem pwithin_any (n:Int) (w:World):Calls Tryz.prog 99 #[.int .i64 n] w (fun e w' => e = .returned (.bool (decide (0≤n) && decide (n≤99999)))∧w=w'):=by
 by_cases h0:0≤n
 ·by_cases h1:n≤99999
  ·have e:(decide (0≤n) && decide (n≤99999))=true:=by simp [h0,h1]
   rw [e]
   clear e
   go_enter Tryz.func99,Tryz.ntmps99
   go_wp2
   go_ret
   exact ⟨rfl,rfl⟩
  ·have e:(decide (0≤n) && decide (n≤99999))=false:=by simp [h1]
   rw [e]
   clear e
   go_enter Tryz.func99,Tryz.ntmps99
   go_wp2
   go_ret
   exact ⟨rfl,rfl⟩
 ·have e:(decide (0≤n) && decide (n≤99999))=false:=by simp [h0]
  have d0:decide (0≤n)=false:=by simpa using h0
  rw [e]
  clear e
  go_enter Tryz.func99,Tryz.ntmps99
  go_wp2
  go_ret
  exact ⟨rfl,rfl⟩
def lfV (k:Int) (r n:ByteArray) (d:Int) (len:Nat):Int:=if len=0 then leafV k r n d else 0
set_option maxHeartbeats 2000000 in
set_option maxRecDepth 100000 in
theorem leaf_1 (r nm:ByteArray) (d:Int) (a:Option Addr) (len cap:Nat) (w:World) (hr:r.size≤2500) :
  Calls Tryz.prog 86 #[.agg #[.int .u8 1,.string r,.string nm,.int .i64 d,.slice a len cap]] w (U8P w (lfV 1 r nm d len)):=by
 obtain ⟨bl,ql⟩:∃ b,((len:Int) == 0)=b:=⟨_,rfl⟩
 obtain ⟨br,qr⟩:∃ b,r.toList.isEmpty=b:=⟨_,rfl⟩
 obtain ⟨bn,qn⟩:∃ b,nm.toList.isEmpty=b:=⟨_,rfl⟩
 obtain ⟨bd,qd⟩:∃ b,((d:Int) == 0)=b:=⟨_,rfl⟩
 have HQL:Hid (bl=true ↔ len=0):=by show bl=true ↔ _;rw [← ql];simp
 have HQR:Hid (r.data.toList.isEmpty=br):=by show _=br;rw [← qr,toList_data]
 have HQN:Hid (nm.data.toList.isEmpty=bn):=by show _=bn;rw [← qn,toList_data]
 have HQD:Hid (bd=true ↔ d=0):=by show bd=true ↔ _;rw [← qd];simp
 obtain ⟨R,hR⟩:∃ R,R=lfV 1 r nm d len:=⟨_,rfl⟩
 rw [← hR]
 have HRR:=Lib.hid hR
 have HCK:Hid (∀ W,Calls Tryz.prog 98 #[.string r] W (ErrPost W (chkR r.data.toList))):=fun W => qrat_any r W (by omega)
 obtain ⟨z,hzz⟩:∃ z,z=chkR r.data.toList:=⟨_,rfl⟩
 rw [← hzz] at HCK
 have HZZ:=Lib.hid hzz
 clear hzz
 clear hR
 go_enter Tryz.func86,Tryz.ntmps86
 go_upto_region 1 with (fail)
 obtain ⟨W0,hW0⟩:∃ W0,W0=w.alloc (.cells #[.int .u8 1,.string r,.string nm,.int .i64 d,.slice a len cap] 25):=⟨_,rfl⟩
 have hbx:W0.heap[w.heap.size]? = some (.cells #[.int .u8 1,.string r,.string nm,.int .i64 d,.slice a len cap] 25):=by rw [hW0];exact heap_alloc_new w _
 have HB0:Hid (Below w.heap.size w W0):=by rw [hW0];exact own_below w _
 have hzW:w.heap.size < W0.heap.size:=(Array.getElem?_eq_some_iff.1 hbx).1
 rw [← hW0]
 have HBX:=Lib.hid hbx
 obtain ⟨c0,c1,c2,c3,c4⟩:=exCells hbx
 clear hW0 hbx
 cases bl with
 | false =>
  have hln:len ≠ 0:=fun h => by have:=HQL.out.2 h;cases this
  have e:R=0:=by rw [HRR.out];simp [lfV,hln]
  clear hln
  have E:=Lib.hid e
  clear e
  go_wp2_with fail
  go_ret
  exact ⟨by rw [E.out];rfl,HB0.out⟩
 | true =>
  have HLV:Hid (R=leafV 1 r nm d):=by
   have hln:len=0:=HQL.out.1 rfl
   show R=_
   rw [HRR.out];simp [lfV,hln]
  by_cases hz0:z=0
  ·have qz:((z:Int) == 0)=true:=ieq_true hz0
   have HZ0:=Lib.hid hz0
   clear hz0
   cases bn with
   | false =>
    have e:R=0:=by rw [HLV.out];simp [leafV,HQN.out]
    have E:=Lib.hid e
    clear e
    go_wp2_with fail
    refine (HCK.out _).mono ?_
    rintro e w2 ⟨rfl,hb2⟩
    have HB2:=Lib.hid (HB0.out.trans (hb2.mono HB0.out.size))
    obtain ⟨d0,d1,d2,d3,d4⟩:=exCells ((hb2.block _ hzW).trans HBX.out)
    clear hb2 c0 c1 c2 c3 c4
    go_wp2_with fail
    go_ret
    exact ⟨by rw [E.out];rfl,HB2.out⟩
   | true =>
    cases bd with
    | false =>
     have e:R=0:=by
      have hd:d ≠ 0:=fun h => by have:=HQD.out.2 h;cases this
      rw [HLV.out];simp [leafV,hd]
     have E:=Lib.hid e
     clear e
     go_wp2_with fail
     refine (HCK.out _).mono ?_
     rintro e w2 ⟨rfl,hb2⟩
     have HB2:=Lib.hid (HB0.out.trans (hb2.mono HB0.out.size))
     obtain ⟨d0,d1,d2,d3,d4⟩:=exCells ((hb2.block _ hzW).trans HBX.out)
     clear hb2 c0 c1 c2 c3 c4
     go_wp2_with fail
     go_ret
     exact ⟨by rw [E.out];rfl,HB2.out⟩
    | true =>
     have e:R=1:=by
      have hd:d=0:=HQD.out.1 rfl
      rw [HLV.out];simp [leafV,hd,HQN.out,← HZZ.out,HZ0.out]
     have E:=Lib.hid e
     clear e
     go_wp2_with fail
     refine (HCK.out _).mono ?_
     rintro e w2 ⟨rfl,hb2⟩
     have HB2:=Lib.hid (HB0.out.trans (hb2.mono HB0.out.size))
     obtain ⟨d0,d1,d2,d3,d4⟩:=exCells ((hb2.block _ hzW).trans HBX.out)
     clear hb2 c0 c1 c2 c3 c4
     go_wp2_with fail
     go_ret
     exact ⟨by rw [E.out];rfl,HB2.out⟩
  ·have qz:((z:Int) == 0)=false:=ieq_false hz0
   have e:R=0:=by rw [HLV.out];simp [leafV,← HZZ.out,hz0]
   clear hz0
   have E:=Lib.hid e
   clear e
   go_wp2_with fail
   refine (HCK.out _).mono ?_
   rintro e w2 ⟨rfl,hb2⟩
   have HB2:=Lib.hid (HB0.out.trans (hb2.mono HB0.out.size))
   obtain ⟨d0,d1,d2,d3,d4⟩:=exCells ((hb2.block _ hzW).trans HBX.out)
   clear hb2 c0 c1 c2 c3 c4
   go_wp2_with fail
   go_ret
   exact ⟨by rw [E.out];rfl,HB2.out⟩
set_option maxHeartbeats 2000000 in
set_option maxRecDepth 100000 in
theorem leaf_2 (r nm:ByteArray) (d:Int) (a:Option Addr) (len cap:Nat) (w:World) :
  Calls Tryz.prog 86 #[.agg #[.int .u8 2,.string r,.string nm,.int .i64 d,.slice a len cap]] w (U8P w (lfV 2 r nm d len)):=by
 obtain ⟨bl,ql⟩:∃ b,((len:Int) == 0)=b:=⟨_,rfl⟩
 obtain ⟨br,qr⟩:∃ b,r.toList.isEmpty=b:=⟨_,rfl⟩
 obtain ⟨bn,qn⟩:∃ b,nm.toList.isEmpty=b:=⟨_,rfl⟩
 obtain ⟨bd,qd⟩:∃ b,((d:Int) == 0)=b:=⟨_,rfl⟩
 have HQL:Hid (bl=true ↔ len=0):=by show bl=true ↔ _;rw [← ql];simp
 have HQR:Hid (r.data.toList.isEmpty=br):=by show _=br;rw [← qr,toList_data]
 have HQN:Hid (nm.data.toList.isEmpty=bn):=by show _=bn;rw [← qn,toList_data]
 have HQD:Hid (bd=true ↔ d=0):=by show bd=true ↔ _;rw [← qd];simp
 obtain ⟨R,hR⟩:∃ R,R=lfV 2 r nm d len:=⟨_,rfl⟩
 rw [← hR]
 have HRR:=Lib.hid hR
 have HNM:Hid (∀ W,Calls Tryz.prog 48 #[.string nm] W (fun e w' => e = .returned (.bool (nmB nm.data.toList))∧W=w')):=fun W => name_any nm W
 obtain ⟨nb,hnb⟩:∃ z,z=nmB nm.data.toList:=⟨_,rfl⟩
 rw [← hnb] at HNM
 have HNB:=Lib.hid hnb
 clear hnb
 have HDY:Hid (∀ W,Calls Tryz.prog 99 #[.int .i64 d] W (fun e w' => e = .returned (.bool (decide (0≤d) && decide (d≤99999)))∧W=w')):=fun W => pwithin_any d W
 obtain ⟨db,hdb⟩:∃ z,z=(decide (0≤d) && decide (d≤99999)):=⟨_,rfl⟩
 rw [← hdb] at HDY
 have HDB:=Lib.hid hdb
 clear hdb
 clear hR
 go_enter Tryz.func86,Tryz.ntmps86
 go_upto_region 1 with (fail)
 obtain ⟨W0,hW0⟩:∃ W0,W0=w.alloc (.cells #[.int .u8 2,.string r,.string nm,.int .i64 d,.slice a len cap] 25):=⟨_,rfl⟩
 have hbx:W0.heap[w.heap.size]? = some (.cells #[.int .u8 2,.string r,.string nm,.int .i64 d,.slice a len cap] 25):=by rw [hW0];exact heap_alloc_new w _
 have HB0:Hid (Below w.heap.size w W0):=by rw [hW0];exact own_below w _
 have hzW:w.heap.size < W0.heap.size:=(Array.getElem?_eq_some_iff.1 hbx).1
 rw [← hW0]
 obtain ⟨c0,c1,c2,c3,c4⟩:=exCells hbx
 clear hW0 hbx
 cases bl with
 | false =>
  have hln:len ≠ 0:=fun h => by have:=HQL.out.2 h;cases this
  have e:R=0:=by rw [HRR.out];simp [lfV,hln]
  clear hln
  have E:=Lib.hid e
  clear e
  go_wp2_with fail
  go_ret
  exact ⟨by rw [E.out];rfl,HB0.out⟩
 | true =>
  have HLV:Hid (R=leafV 2 r nm d):=by
   have hln:len=0:=HQL.out.1 rfl
   show R=_
   rw [HRR.out];simp [lfV,hln]
  cases br with
  | false =>
   have e:R=0:=by rw [HLV.out];simp [leafV,HQR.out]
   have E:=Lib.hid e
   clear e
   go_wp2_with fail
   go_ret
   exact ⟨by rw [E.out];rfl,HB0.out⟩
  | true =>
   cases nb with
   | false =>
    have e:R=0:=by rw [HLV.out];simp [leafV,← HNB.out]
    have E:=Lib.hid e
    clear e
    go_wp2_with fail
    refine (HNM.out _).mono ?_
    rintro e w2 ⟨rfl,rfl⟩
    go_wp2_with fail
    go_ret
    exact ⟨by rw [E.out];rfl,HB0.out⟩
   | true =>
    have e0:R=if db=true then 1 else 0:=by
     rw [HLV.out,HDB.out];simp [leafV,HQR.out,← HNB.out]
    cases db with
    | false =>
     have e:R=0:=by rw [e0];rfl
     clear e0
     have E:=Lib.hid e
     clear e
     go_wp2_with fail
     refine (HNM.out _).mono ?_
     rintro e w2 ⟨rfl,rfl⟩
     go_wp2_with fail
     refine (HDY.out _).mono ?_
     rintro e w2 ⟨rfl,rfl⟩
     go_wp2_with fail
     go_ret
     exact ⟨by rw [E.out];rfl,HB0.out⟩
    | true =>
     have e:R=1:=by rw [e0];rfl
     clear e0
     have E:=Lib.hid e
     clear e
     go_wp2_with fail
     refine (HNM.out _).mono ?_
     rintro e w2 ⟨rfl,rfl⟩
     go_wp2_with fail
     refine (HDY.out _).mono ?_
     rintro e w2 ⟨rfl,rfl⟩
     go_wp2_with fail
     go_ret
     exact ⟨by rw [E.out];rfl,HB0.out⟩
set_option maxHeartbeats 2000000 in
set_option maxRecDepth 100000 in
theorem leaf_3 (r nm:ByteArray) (d:Int) (a:Option Addr) (len cap:Nat) (w:World) :
  Calls Tryz.prog 86 #[.agg #[.int .u8 3,.string r,.string nm,.int .i64 d,.slice a len cap]] w (U8P w (lfV 3 r nm d len)):=by
 obtain ⟨bl,ql⟩:∃ b,((len:Int) == 0)=b:=⟨_,rfl⟩
 obtain ⟨br,qr⟩:∃ b,r.toList.isEmpty=b:=⟨_,rfl⟩
 obtain ⟨bn,qn⟩:∃ b,nm.toList.isEmpty=b:=⟨_,rfl⟩
 obtain ⟨bd,qd⟩:∃ b,((d:Int) == 0)=b:=⟨_,rfl⟩
 have HQL:Hid (bl=true ↔ len=0):=by show bl=true ↔ _;rw [← ql];simp
 have HQR:Hid (r.data.toList.isEmpty=br):=by show _=br;rw [← qr,toList_data]
 have HQN:Hid (nm.data.toList.isEmpty=bn):=by show _=bn;rw [← qn,toList_data]
 have HQD:Hid (bd=true ↔ d=0):=by show bd=true ↔ _;rw [← qd];simp
 obtain ⟨R,hR⟩:∃ R,R=lfV 3 r nm d len:=⟨_,rfl⟩
 rw [← hR]
 have HRR:=Lib.hid hR
 have HNM:Hid (∀ W,Calls Tryz.prog 48 #[.string nm] W (fun e w' => e = .returned (.bool (nmB nm.data.toList))∧W=w')):=fun W => name_any nm W
 obtain ⟨nb,hnb⟩:∃ z,z=nmB nm.data.toList:=⟨_,rfl⟩
 rw [← hnb] at HNM
 have HNB:=Lib.hid hnb
 clear hnb
 clear hR
 go_enter Tryz.func86,Tryz.ntmps86
 go_upto_region 1 with (fail)
 obtain ⟨W0,hW0⟩:∃ W0,W0=w.alloc (.cells #[.int .u8 3,.string r,.string nm,.int .i64 d,.slice a len cap] 25):=⟨_,rfl⟩
 have hbx:W0.heap[w.heap.size]? = some (.cells #[.int .u8 3,.string r,.string nm,.int .i64 d,.slice a len cap] 25):=by rw [hW0];exact heap_alloc_new w _
 have HB0:Hid (Below w.heap.size w W0):=by rw [hW0];exact own_below w _
 have hzW:w.heap.size < W0.heap.size:=(Array.getElem?_eq_some_iff.1 hbx).1
 rw [← hW0]
 obtain ⟨c0,c1,c2,c3,c4⟩:=exCells hbx
 clear hW0 hbx
 cases bl with
 | false =>
  have hln:len ≠ 0:=fun h => by have:=HQL.out.2 h;cases this
  have e:R=0:=by rw [HRR.out];simp [lfV,hln]
  clear hln
  have E:=Lib.hid e
  clear e
  go_wp2_with fail
  go_ret
  exact ⟨by rw [E.out];rfl,HB0.out⟩
 | true =>
  have HLV:Hid (R=leafV 3 r nm d):=by
   have hln:len=0:=HQL.out.1 rfl
   show R=_
   rw [HRR.out];simp [lfV,hln]
  cases br with
  | false =>
   have e:R=0:=by rw [HLV.out];simp [leafV,HQR.out]
   have E:=Lib.hid e
   clear e
   go_wp2_with fail
   go_ret
   exact ⟨by rw [E.out];rfl,HB0.out⟩
  | true =>
   cases nb with
   | false =>
    have e:R=0:=by rw [HLV.out];simp [leafV,← HNB.out]
    have E:=Lib.hid e
    clear e
    go_wp2_with fail
    refine (HNM.out _).mono ?_
    rintro e w2 ⟨rfl,rfl⟩
    go_wp2_with fail
    go_ret
    exact ⟨by rw [E.out];rfl,HB0.out⟩
   | true =>
    cases bd with
    | false =>
     have e:R=0:=by
      have hd:d ≠ 0:=fun h => by have:=HQD.out.2 h;cases this
      rw [HLV.out];simp [leafV,hd]
     have E:=Lib.hid e
     clear e
     go_wp2_with fail
     refine (HNM.out _).mono ?_
     rintro e w2 ⟨rfl,rfl⟩
     go_wp2_with fail
     go_ret
     exact ⟨by rw [E.out];rfl,HB0.out⟩
    | true =>
     have e:R=1:=by
      have hd:d=0:=HQD.out.1 rfl
      rw [HLV.out];simp [leafV,hd,HQR.out,← HNB.out]
     have E:=Lib.hid e
     clear e
     go_wp2_with fail
     refine (HNM.out _).mono ?_
     rintro e w2 ⟨rfl,rfl⟩
     go_wp2_with fail
     go_ret
     exact ⟨by rw [E.out];rfl,HB0.out⟩
set_option maxHeartbeats 2000000 in
set_option maxRecDepth 100000 in
theorem leaf_o (kd:Int) (h1:kd ≠ 1) (h2:kd ≠ 2) (h3:kd ≠ 3) (r nm:ByteArray) (d:Int) (a:Option Addr) (len cap:Nat) (w:World) :
  Calls Tryz.prog 86 #[.agg #[.int .u8 kd,.string r,.string nm,.int .i64 d,.slice a len cap]] w (U8P w (lfV kd r nm d len)):=by
 obtain ⟨bl,ql⟩:∃ b,((len:Int) == 0)=b:=⟨_,rfl⟩
 obtain ⟨br,qr⟩:∃ b,r.toList.isEmpty=b:=⟨_,rfl⟩
 obtain ⟨bn,qn⟩:∃ b,nm.toList.isEmpty=b:=⟨_,rfl⟩
 obtain ⟨bd,qd⟩:∃ b,((d:Int) == 0)=b:=⟨_,rfl⟩
 obtain ⟨R,hR⟩:∃ R,R=lfV kd r nm d len:=⟨_,rfl⟩
 rw [← hR]
 have k1:((kd:Int) == 1)=false:=ieq_false h1
 have k2:((kd:Int) == 2)=false:=ieq_false h2
 have k3:((kd:Int) == 3)=false:=ieq_false h3
 have e:R=0:=by rw [hR];unfold lfV;split;exact leaf_no r nm d h1 h2 h3;rfl
 clear h1 h2 h3
 clear hR
 go_enter Tryz.func86,Tryz.ntmps86
 go_upto_region 1 with (fail)
 obtain ⟨W0,hW0⟩:∃ W0,W0=w.alloc (.cells #[.int .u8 kd,.string r,.string nm,.int .i64 d,.slice a len cap] 25):=⟨_,rfl⟩
 have hbx:W0.heap[w.heap.size]? = some (.cells #[.int .u8 kd,.string r,.string nm,.int .i64 d,.slice a len cap] 25):=by rw [hW0];exact heap_alloc_new w _
 have HB0:Hid (Below w.heap.size w W0):=by rw [hW0];exact own_below w _
 have hzW:w.heap.size < W0.heap.size:=(Array.getElem?_eq_some_iff.1 hbx).1
 rw [← hW0]
 obtain ⟨c0,c1,c2,c3,c4⟩:=exCells hbx
 clear hW0 hbx
 have E:=Lib.hid e
 clear e
 go_wp2_with fail
 go_ret
 exact ⟨by rw [E.out];rfl,HB0.out⟩
theorem leaf_any (k:Int) (r nm:ByteArray) (d:Int) (a:Option Addr) (len cap:Nat) (w:World) (hr:r.size≤2500) :
  Calls Tryz.prog 86 #[.agg #[.int .u8 k,.string r,.string nm,.int .i64 d,.slice a len cap]] w (U8P w (lfV k r nm d len)):=by
 by_cases h1:k=1
 ·subst h1;exact leaf_1 r nm d a len cap w hr
 by_cases h2:k=2
 ·subst h2;exact leaf_2 r nm d a len cap w
 by_cases h3:k=3
 ·subst h3;exact leaf_3 r nm d a len cap w
 exact leaf_o k h1 h2 h3 r nm d a len cap w
end Go.Proofs.YtijkefflpojmhaaGreatDoor

namespace Go.Proofs.YtijkefflpojmhaaGreatDoor
open Go.RowKit Go.ChangeShapes Go.WideShapes Go.Deep
def KOk:Nat→Ex→Prop
 | 0,_ => False
 | n+1,x => (0≤x.kind∧x.kind≤255) ∧ ∀ y ∈ x.sub,KOk n y
theorem KOk.up:∀ {n m:Nat} {x:Ex},n≤m→KOk n x→KOk m x
 | 0,_,_,_,h => h.elim
 | n+1,0,_,hm,_ => absurd hm (by omega)
 | n+1,m+1,x,hm,⟨h1,h2⟩ => ⟨h1,fun y hy => KOk.up (by omega) (h2 y hy)⟩
theorem u8_range {k:Int} (h:(Lit.int .u8 k).wf=true):0≤k∧k≤255:=by
 have h0:IntKind.u8.min=0:=rfl
 have h1:IntKind.u8.max=255:=rfl
 simp [Lit.wf] at h;omega
set_option maxRecDepth 100000 in
theorem open_exprk {H:Type} {enc:TypeId × Value→H} {w:World} {base:Nat} {spare:Nat→Bool} {held:Bool}:∀ (fuel:Nat) {cs:List Value} {x:DataW H × List MemPlace},
  DataW.trod enc Tryz.prog w base spare held fuel 25 cs=some x → ∃ e,ExAt (fuel+1) w cs e∧KOk (fuel+1) e:=by
 intro fuel
 induction fuel using Nat.strongRecOn with
 | ind fuel ih =>
  intro cs x h
  obtain ⟨xs,n,hfu,_,hlen,hxl,hf⟩:=DataW.trod_struct Tryz.underlying25 h
  subst hfu
  rw [cellsEx] at hlen
  match cs,hlen with
  | [c0,c1,c2,c3,c4],_ =>
   match xs,hxl with
   | [y0,y1,y2,y3,y4],_ =>
    have h0 := hf 0 ⟨"Kind", 5, 0, false, "", "", 0⟩ rfl
    have h1 := hf 1 ⟨"Rat", 22, 1, false, "", "", 8⟩ rfl
    have h2 := hf 2 ⟨"Name", 9, 2, false, "", "", 24⟩ rfl
    have h3 := hf 3 ⟨"Date", 3, 3, false, "", "", 40⟩ rfl
    have h4 := hf 4 ⟨"Sub", 23, 4, false, "", "", 48⟩ rfl
    simp only [cellsXInt,cellsXU8,cellsXStr,cellsXRat,cellsXSub,List.drop_succ_cons,List.drop_zero,List.take_succ_cons,List.take_zero,List.getElem?_cons_succ,List.getElem?_cons_zero] at h0 h1 h2 h3 h4
    obtain ⟨k,e0,_,hwf⟩:=DataW.trod_int Tryz.underlying5 h0
    have hkr:=u8_range hwf
    obtain ⟨s1,e1,_,_⟩:=DataW.trod_string Tryz.underlying22 h1
    obtain ⟨s2,e2,_,_⟩:=DataW.trod_string Tryz.underlying9 h2
    obtain ⟨n3,e3,_,_⟩:=DataW.trod_int Tryz.underlying3 h3
    simp only [List.cons.injEq,and_true] at e0 e1 e2 e3
    subst e0 e1 e2 e3
    rcases DataW.trod_slice Tryz.underlying23 h4 with ⟨hcs,_⟩ | ⟨ad,len,cap,elems,rest,m,hfm,hcs,_,_,_,_,hel,hat,_,_⟩
    ·simp only [List.cons.injEq,and_true] at hcs
     subst hcs
     exact ⟨.mk k s1 s2 n3 [],⟨none,0,0,rfl,rfl,.inl rfl⟩,hkr,fun y hy => by cases hy⟩
    ·simp only [List.cons.injEq,and_true] at hcs
     subst hcs
     subst hfm
     rw [cellsEx] at hat
     have hone:∀ i,i < len → ∃ cs' e,(∀ j,j < 5→w.cell? ((ad.add (i*5)).add j)=cs'[j]?)∧ExAt (m+1) w cs' e∧KOk (m+1) e:=fun i hi => by
      have ha:=hat i hi
      rw [List.getElem?_eq_getElem (by omega)] at ha
      obtain ⟨cs',hc,ht⟩:=Option.bind_eq_some_iff.1 ha
      obtain ⟨_,_,hcell⟩:=World.cells?_some hc
      obtain ⟨e,he⟩:=ih m (by omega) ht
      exact ⟨cs',e,hcell,he⟩
     have hl2:∀ N,N≤len → ∃ l:List Ex,l.length=N ∧ ∀ i,i < N → ∃ cs',(∀ j,j < 5→w.cell? ((ad.add (i*5)).add j)=cs'[j]?)∧ExAt (m+1) w cs' (l[i]?.getD default)∧KOk (m+1) (l[i]?.getD default):=fun N => by
      induction N with
      | zero => exact fun _ => ⟨[],rfl,fun i hi => absurd hi (Nat.not_lt_zero _)⟩
      | succ N ihN =>
       intro hN
       obtain ⟨l,hl,hl2⟩:=ihN (by omega)
       obtain ⟨cs',e,hc,he⟩:=hone N (by omega)
       refine ⟨l ++ [e],by simp [hl],fun i hi => ?_⟩
       by_cases hiN:i=N
       ·subst hiN
        rw [List.getElem?_append_right (by omega),hl,Nat.sub_self]
        exact ⟨cs',hc,he⟩
       ·rw [List.getElem?_append_left (by omega)]
        exact hl2 i (by omega)
     obtain ⟨l,hl,hlc⟩:=hl2 len (Nat.le_refl _)
     have hks:∀ y ∈ (Ex.mk k s1 s2 n3 l).sub,KOk (m+1) y:=fun y hy => by
      obtain ⟨i,hi,rfl⟩:=List.getElem_of_mem hy
      obtain ⟨_,_,_,hk⟩:=hlc i (by rw [← hl];exact hi)
      have hi':i < l.length:=hi
      have e:l[i]?.getD default=(Ex.mk k s1 s2 n3 l).sub[i]'hi:=by rw [List.getElem?_eq_getElem hi'];rfl
      rw [e] at hk
      exact hk
     refine ⟨.mk k s1 s2 n3 l,⟨some ad,len,cap,rfl,hl,?_⟩,hkr,fun y hy => KOk.up (by omega) (hks y hy)⟩
     by_cases h0:len=0
     ·exact .inl h0
     ·right
      obtain ⟨cs0,hc0,hx0,_⟩:=hlc 0 (by omega)
      have hcell0:∃ v,w.cell? ((ad.add (0*5)).add 0)=some v:=by
       obtain ⟨_,_,_,hcs,_⟩:=hx0
       exact ⟨_,(hc0 0 (by omega)).trans (by rw [hcs];rfl)⟩
      obtain ⟨v0,hv0⟩:=hcell0
      have hsp:ad.spot=none:=addr_plainX (x:=(ad.add (0*5)).add 0) hv0
      have hbl:ad.block < w.heap.size:=cell_lt (a:=(ad.add (0*5)).add 0) hv0
      obtain ⟨g,o,sp⟩:=ad
      subst hsp
      refine ⟨g,o,rfl,hbl,fun i hi => ?_⟩
      obtain ⟨cs',hc,hx,_⟩:=hlc i (by rw [← hl];exact hi)
      refine ⟨cs',fun j hj => ?_,?_⟩
      ·have:=hc j hj
       rwa [addrX,addrX] at this
      ·have hi':i < l.length:=hi
       have e:l[i]?.getD default=(Ex.mk k s1 s2 n3 l).sub[i]'hi:=by rw [List.getElem?_eq_getElem hi'];rfl
       rw [e] at hx
       exact ExAt.up (by omega) hx
def ShpAt (w:World):Prop := ∃ bm,w.cell? ⟨1,0,none⟩=some (.map (some bm)) ∧ ∀ k:Int,0≤k→k≤255 →
 (shpL k=none → ∀ W,Below w.heap.size w W→(Instr.lookup 110 (.map (some bm)) (.int .u8 k) true).run Tryz.prog W = .ok (.tuple #[.agg #[.slice none 0 0,.int .u8 0],.bool false]) W) ∧
 (∀ ps own,shpL k=some (ps,own) → ∃ g o cap,g < w.heap.size∧(∀ W,Below w.heap.size w W→(Instr.lookup 110 (.map (some bm)) (.int .u8 k) true).run Tryz.prog W = .ok (.tuple #[.agg #[.slice (some ⟨g,o,none⟩) ps.length cap,.int .u8 own],.bool true]) W) ∧
  ∀ i,i < ps.length→w.cell? ⟨g,o+i,none⟩=some (.int .u8 (ps[i]?.getD 0)))
theorem gShapes : Tryz.prog.globalNamed "novation/observable.shapes" = some 1 := by kernel_rfl
theorem tShapes:(Tryz.prog.globals[1]?).map (·.type)=some 110:=by kernel_rfl
theorem cellsShp:Tryz.prog.cellsOf 108=2:=by kernel_rfl
theorem cellsSorts:Tryz.prog.cellsOf 106=1:=by kernel_rfl
theorem cellsSort:Tryz.prog.cellsOf 94=1:=by kernel_rfl
def shpD {H:Type} (ps:List Int) (own:Int):DataW H := .agg [.slice (ps.map fun p => .lit (.int .u8 p)) [],.lit (.int .u8 own)]
set_option maxRecDepth 100000 in
theorem shp_key {H:Type} (k:Int):(shpL k=none→(Rows.laid_novation_observable_shapes (H:=H)).atKey (.int .u8 k) .nil = .nil)∧(∀ ps own,shpL k=some (ps,own)→(Rows.laid_novation_observable_shapes (H:=H)).atKey (.int .u8 k) .nil=shpD ps own):=by
 by_cases h4:k=4
 ·subst h4
  exact ⟨fun h => by simp [shpL] at h,fun ps own h => by simp [shpL] at h;obtain ⟨rfl,rfl⟩:=h;rfl⟩
 by_cases h5:k=5
 ·subst h5
  exact ⟨fun h => by simp [shpL] at h,fun ps own h => by simp [shpL] at h;obtain ⟨rfl,rfl⟩:=h;rfl⟩
 by_cases h6:k=6
 ·subst h6
  exact ⟨fun h => by simp [shpL] at h,fun ps own h => by simp [shpL] at h;obtain ⟨rfl,rfl⟩:=h;rfl⟩
 by_cases h7:k=7
 ·subst h7
  exact ⟨fun h => by simp [shpL] at h,fun ps own h => by simp [shpL] at h;obtain ⟨rfl,rfl⟩:=h;rfl⟩
 by_cases h8:k=8
 ·subst h8
  exact ⟨fun h => by simp [shpL] at h,fun ps own h => by simp [shpL] at h;obtain ⟨rfl,rfl⟩:=h;rfl⟩
 by_cases h9:k=9
 ·subst h9
  exact ⟨fun h => by simp [shpL] at h,fun ps own h => by simp [shpL] at h;obtain ⟨rfl,rfl⟩:=h;rfl⟩
 by_cases h11:k=11
 ·subst h11
  exact ⟨fun h => by simp [shpL] at h,fun ps own h => by simp [shpL] at h;obtain ⟨rfl,rfl⟩:=h;rfl⟩
 by_cases h12:k=12
 ·subst h12
  exact ⟨fun h => by simp [shpL] at h,fun ps own h => by simp [shpL] at h;obtain ⟨rfl,rfl⟩:=h;rfl⟩
 by_cases h13:k=13
 ·subst h13
  exact ⟨fun h => by simp [shpL] at h,fun ps own h => by simp [shpL] at h;obtain ⟨rfl,rfl⟩:=h;rfl⟩
 by_cases h14:k=14
 ·subst h14
  exact ⟨fun h => by simp [shpL] at h,fun ps own h => by simp [shpL] at h;obtain ⟨rfl,rfl⟩:=h;rfl⟩
 by_cases h15:k=15
 ·subst h15
  exact ⟨fun h => by simp [shpL] at h,fun ps own h => by simp [shpL] at h;obtain ⟨rfl,rfl⟩:=h;rfl⟩
 refine ⟨fun _ => ?_,fun ps own h => ?_⟩
 ·simp [Rows.laid_novation_observable_shapes,DataW.atKey,Lit.sameKey,Ne.symm h4,Ne.symm h5,Ne.symm h6,Ne.symm h7,Ne.symm h8,Ne.symm h9,Ne.symm h11,Ne.symm h12,Ne.symm h13,Ne.symm h14,Ne.symm h15]
 ·unfold shpL at h
  rw [if_neg (by omega),if_neg (by omega),if_neg (by omega),if_neg (by omega),if_neg (by omega)] at h
  cases h
set_option maxRecDepth 100000 in
theorem open_shape {H:Type} {enc:TypeId × Value→H} {w:World} {base:Nat} {spare:Nat→Bool} {held:Bool} {fuel:Nat} {cs:List Value} {ps:List Int} {own:Int} {q:List MemPlace} (hn:ps ≠ [])
  (h:DataW.trod enc Tryz.prog w base spare held fuel 108 cs=some (shpD ps own,q)):∃ g o cap,cs=[.slice (some ⟨g,o,none⟩) ps.length cap,.int .u8 own]∧g < w.heap.size ∧ ∀ i,i < ps.length→w.cell? ⟨g,o+i,none⟩=some (.int .u8 (ps[i]?.getD 0)):=by
 obtain ⟨xs,n,_,hx,hlen,hxl,hf⟩:=DataW.trod_struct Tryz.underlying108 h
 rw [cellsShp] at hlen
 match cs,hlen with
 | [c0,c1],_ =>
  match xs,hxl with
  | [y0,y1],_ =>
   have h0 := hf 0 ⟨"parts", 106, 0, false, "", "novation/observable", 0⟩ rfl
   have h1 := hf 1 ⟨"own", 94, 1, false, "", "novation/observable", 24⟩ rfl
   simp only [cellsSorts,cellsSort,List.drop_succ_cons,List.drop_zero,List.take_succ_cons,List.take_zero,List.getElem?_cons_succ,List.getElem?_cons_zero] at h0 h1
   simp only [shpD,Prod.mk.injEq,DataW.agg.injEq,List.map_cons,List.map_nil,List.cons.injEq,and_true] at hx
   obtain ⟨⟨hy0,hy1⟩,_⟩:=hx
   obtain ⟨k,e1,e2,_⟩:=DataW.trod_int Tryz.underlying94 h1
   simp only [List.cons.injEq,and_true] at e1
   subst e1
   rw [e2] at hy1
   simp only [DataW.lit.injEq,Lit.int.injEq,true_and] at hy1
   subst hy1
   rcases DataW.trod_slice Tryz.underlying106 h0 with ⟨_,hx0⟩ | ⟨ad,len,cap,elems,rest,m,hfm,hcs,hx0,_,_,_,hel,hat,_,_⟩
   ·rw [hx0] at hy0
    cases hy0
   ·simp only [List.cons.injEq,and_true] at hcs
    subst hcs
    rw [hx0] at hy0
    simp only [DataW.slice.injEq] at hy0
    obtain ⟨hy0,_⟩:=hy0
    rw [cellsSort] at hat
    have hpl:ps.length=len:=by
     have:=congrArg List.length hy0
     simpa [hel] using this
    have hp0:0 < len:=by
     rw [← hpl];exact List.length_pos_iff.2 hn
    have hone:∀ i,i < len→w.cell? (ad.add i)=some (.int .u8 (ps[i]?.getD 0)):=fun i hi => by
     have ha:=hat i hi
     rw [List.getElem?_eq_getElem (by omega),Nat.mul_one] at ha
     obtain ⟨cs',hc,ht⟩:=Option.bind_eq_some_iff.1 ha
     obtain ⟨hl1,_,hcell⟩:=World.cells?_some hc
     obtain ⟨k,e1,e2,_⟩:=DataW.trod_int Tryz.underlying94 ht
     subst e1
     have h2:=hcell 0 (by decide)
     have hz:(ad.add i).add 0=ad.add i:=by simp [Addr.add]
     rw [hz] at h2
     rw [h2]
     have e3:(elems.map (·.1))[i]? = (ps.map fun p => (DataW.lit (.int .u8 p):DataW H))[i]? := by rw [hy0]
     rw [List.getElem?_map,List.getElem?_map,List.getElem?_eq_getElem (show i < elems.length by omega),List.getElem?_eq_getElem (show i < ps.length by omega)] at e3
     simp only [Option.map_some,Option.some.injEq] at e3
     rw [e2] at e3
     simp only [DataW.lit.injEq,Lit.int.injEq,true_and] at e3
     rw [List.getElem?_eq_getElem (show i < ps.length by omega)]
     simp [e3]
    have h00:=hone 0 hp0
    have hz:ad.add 0=ad:=by simp [Addr.add]
    rw [hz] at h00
    have hsp:ad.spot=none:=addr_plainX h00
    have hbl:ad.block < w.heap.size:=cell_lt h00
    obtain ⟨g,o,sp⟩:=ad
    subst hsp
    refine ⟨g,o,cap,by rw [hpl],hbl,fun i hi => ?_⟩
    have:=hone i (by omega)
    rwa [addrX] at this
theorem keys_apart {H:Type} {P:Program} {k:TypeId} {R:Value→Option (DataW H × List MemPlace)} {es:Array MapEntry} {clock:Nat} (F:Go.WideElems.Fit P k R es clock) {a b:MapEntry} (ha:a ∈ es.toList) (hb:b ∈ es.toList) (hne:a ≠ b):a.key ≠ b.key:=by
 have hp:=((Go.MapKept.stamped_iff es clock).1 F.stamped).2.2
 obtain ⟨i,hi,rfl⟩:=List.getElem_of_mem ha
 obtain ⟨j,hj,rfl⟩:=List.getElem_of_mem hb
 rw [List.pairwise_iff_getElem] at hp
 rcases Nat.lt_trichotomy i j with h | h | h
 ·exact hp i j hi hj h
 ·subst h;exact absurd rfl hne
 ·exact fun e => hp j i hj hi h e.symm
set_option maxRecDepth 100000 in
theorem agg_formed {v:Value} {l:List Value} (hf:v.formed Tryz.prog 108=true) (hl:v.cells.toList=l):v = .agg l.toArray:=by
 unfold Value.formed at hf
 rw [Tryz.underlying108] at hf
 cases v <;> simp at hf
 rw [← hl];rfl
theorem zeroShp (w:World):(zeroValue 108).run Tryz.prog w = .ok (.agg #[.slice none 0 0,.int .u8 0]) w:=by kernel_rfl
set_option maxRecDepth 100000 in
theorem laidShp {laid rest : List (String × DataW Unit)} (hl : laid = ("novation/observable.shapes", Rows.laid_novation_observable_shapes) :: rest) {W : World} (h : laidMet Tryz.prog laid W) : ShpAt W := by
 subst hl
 obtain ⟨ps,⟨g0,t0,cs0,f0,p0,q0,hg0,ht0,hv0,hd0,_,_⟩,_,_⟩:=h
 obtain rfl:=Option.some.inj (gShapes.symm.trans hg0)
 obtain rfl:=Option.some.inj (tShapes.symm.trans ht0)
 rcases Go.WideElems.open_map Tryz.underlying110 hd0 with ⟨_,hx⟩ | ⟨bm,es,clock,m,rfl,hcs,hb,_,F,hx⟩
 ·simp [Rows.laid_novation_observable_shapes] at hx
 simp only [Prod.mk.injEq] at hx
 have hcell:W.cell? ⟨1,0,none⟩=some (.map (some bm)):=by
  have:=World.var?_cell hg0 hv0 0
  rw [Array.eq_one_of_toList hcs] at this
  simpa using this
 have hbl:bm < W.heap.size:=(Array.getElem?_eq_some_iff.1 hb).1
 refine ⟨bm,hcell,fun k hk0 hk1 => ?_⟩
 have hkey:keyOf Tryz.prog 5 (.int .u8 k)=some (.int .u8 k):=Maps.keyOf_int_mk Tryz.underlying5 (by
  have h0:IntKind.u8.min=0:=rfl
  have h1:IntKind.u8.max=255:=rfl
  simp [Lit.wf];omega)
 have look:∀ W',Below W.heap.size W W' → _:=fun W' hW' => Maps.fit_look (w:=W') true (Maps.int_keyed Tryz.underlying5) Tryz.underlying110 (zeroShp W') ((hW'.block _ hbl).trans hb) F hkey
 refine ⟨fun hs W' hW' => ?_,fun psl own hs => ?_⟩
 ·rcases look W' hW' with ⟨hr,_,_⟩ | ⟨e0,y,_,_,_,hR,hat,_⟩
  ·simpa using hr
  ·have h2:=hat .nil
   rw [← hx.1,(shp_key k).1 hs] at h2
   unfold Go.WideElems.elemAt at hR
   split at hR
   ·obtain ⟨xs,n,_,hxy,_⟩:=DataW.trod_struct Tryz.underlying108 hR
    rw [hxy] at h2
    cases h2
   ·cases hR
 ·rcases look W (Below.refl _ _) with ⟨_,_,hat⟩ | ⟨e0,y,hm0,hk0',_,hR,hat,_⟩
  ·have h2:=hat .nil
   rw [← hx.1,(shp_key k).2 psl own hs] at h2
   cases h2
  ·have h2:=hat .nil
   rw [← hx.1,(shp_key k).2 psl own hs] at h2
   unfold Go.WideElems.elemAt at hR
   split at hR
   ·rename_i hfm
    obtain ⟨y1,y2⟩:=y
    have hy1:shpD psl own=y1:=h2
    subst hy1
    obtain ⟨g,o,cap,hcs2,hg,hcells⟩:=open_shape (by
     intro e
     subst e
     unfold shpL at hs
     (repeat' split at hs) <;> simp at hs) hR
    have hval:e0.val = .agg #[.slice (some ⟨g,o,none⟩) psl.length cap,.int .u8 own]:=by
     exact agg_formed hfm hcs2
    refine ⟨g,o,cap,hg,fun W' hW' => ?_,hcells⟩
    rcases look W' hW' with ⟨_,hne,_⟩ | ⟨e1,y1,hm1,hk1',hr,_,_,_⟩
    ·exact absurd hk0' (hne e0 hm0)
    ·have e01:e1=e0:=by
      by_cases h:e1=e0
      ·exact h
      ·exfalso
       exact keys_apart F hm1 hm0 h (hk1'.trans hk0'.symm)
     rw [e01,hval] at hr
     simpa using hr
   ·cases hR
end Go.Proofs.YtijkefflpojmhaaGreatDoor

namespace Go.Proofs.YtijkefflpojmhaaGreatDoor
open Go.RowKit Go.ChangeShapes Go.WideShapes Go.Deep
inductive Ct where
 | mk (kind:Int) (frm too name:ByteArray) (expr:Ex) (date:Int) (dates:List Int) (sub:List Ct)
namespace Ct
def kind:Ct→Int | .mk k _ _ _ _ _ _ _ => k
def frm:Ct→ByteArray | .mk _ f _ _ _ _ _ _ => f
def too:Ct→ByteArray | .mk _ _ t _ _ _ _ _ => t
def name:Ct→ByteArray | .mk _ _ _ n _ _ _ _ => n
def expr:Ct→Ex | .mk _ _ _ _ e _ _ _ => e
def date:Ct→Int | .mk _ _ _ _ _ d _ _ => d
def dates:Ct→List Int | .mk _ _ _ _ _ _ l _ => l
def sub:Ct→List Ct | .mk _ _ _ _ _ _ _ l => l
def size:Ct→Nat
 | .mk _ _ _ _ e _ _ l => 1+e.size+(l.attach.map fun x => x.1.size).sum
termination_by x => SizeOf.sizeOf x
decreasing_by
 have:=List.sizeOf_lt_of_mem x.2
 simp only [Ct.mk.sizeOf_spec]
 omega
theorem size_is (x:Ct):x.size=1+x.expr.size+(x.sub.map size).sum:=by
 cases x with
 | mk k f t n e d ds l =>
  rw [size]
  show _=1+e.size+(l.map size).sum
  rw [show (l.attach.map fun x => x.1.size)=l.map size from List.attach_map_val (l:=l) (f:=size)]
theorem size_pos (x:Ct):1≤x.size:=by rw [size_is];omega
theorem sum_ge (l:List Ct):l.length≤(l.map size).sum:=by
 induction l with
 | nil => simp
 | cons x l ih =>
  have:=size_pos x
  rw [List.map_cons,List.sum_cons,List.length_cons];omega
theorem sub_len (x:Ct):x.sub.length < x.size:=by
 rw [size_is x]
 have:=sum_ge x.sub
 omega
theorem sub_size {x y:Ct} (h:y ∈ x.sub):y.size < x.size:=by
 rw [size_is x]
 have:y.size≤(x.sub.map size).sum:=by
  obtain ⟨i,hi,rfl⟩:=List.getElem_of_mem h
  have:x.sub.map size=(x.sub.take i).map size ++ (x.sub[i].size :: (x.sub.drop (i+1)).map size):=by
   rw [← List.map_cons,← List.drop_eq_getElem_cons hi,← List.map_append,List.take_append_drop]
  rw [this,List.sum_append,List.sum_cons];omega
 omega
theorem expr_size (x:Ct):x.expr.size < x.size:=by rw [size_is x];omega
end Ct
instance:Inhabited Ct:=⟨.mk 0 ByteArray.empty ByteArray.empty ByteArray.empty default 0 [] []⟩
def ctCells (x:Ct) (ea:Option Addr) (el ec:Nat) (da:Option Addr) (dl dc:Nat) (a:Option Addr) (len cap:Nat):List Value :=
 [.int .u8 x.kind,.string x.frm,.string x.too,.string x.name,.int .u8 x.expr.kind,.string x.expr.rat,.string x.expr.name,.int .i64 x.expr.date,.slice ea el ec,.int .i64 x.date,.slice da dl dc,.slice a len cap]
def DaysAt (w:World) (da:Option Addr) (dl:Nat) (l:List Int):Prop :=
 l.length=dl∧(dl=0 ∨ ∃ g o,da=some ⟨g,o,none⟩∧g < w.heap.size ∧ ∀ i,i < dl→w.cell? ⟨g,o+i,none⟩=some (.int .i64 (l[i]?.getD 0)))
theorem DaysAt.below {w w':World} (hb:Below w.heap.size w w') {da:Option Addr} {dl:Nat} {l:List Int} (h:DaysAt w da dl l):DaysAt w' da dl l :=
 ⟨h.1,h.2.imp id fun ⟨g,o,ha,hg,hi⟩ => ⟨g,o,ha,Nat.lt_of_lt_of_le hg hb.size,fun i h => ((bcell hb).1 _ _ hg).trans (hi i h)⟩⟩
def CtAt:Nat→World→List Value→Ct→Prop
 | 0,_,_,_ => False
 | n+1,w,cs,x => ∃ ea el ec da dl dc a len cap,cs=ctCells x ea el ec da dl dc a len cap ∧
   ExAt (n+1) w [.int .u8 x.expr.kind,.string x.expr.rat,.string x.expr.name,.int .i64 x.expr.date,.slice ea el ec] x.expr∧DaysAt w da dl x.dates∧x.sub.length=len ∧
   (len=0 ∨ ∃ g o,a=some ⟨g,o,none⟩∧g < w.heap.size ∧ ∀ i (hi:i < x.sub.length),∃ cs',(∀ j,j < 12→w.cell? ⟨g,o+i*12+j,none⟩=cs'[j]?)∧CtAt n w cs' x.sub[i])
theorem CtAt.below {w w':World} (hb:Below w.heap.size w w'):∀ {n:Nat} {cs:List Value} {x:Ct},CtAt n w cs x→CtAt n w' cs x
 | 0,_,_,h => h
 | n+1,cs,x,⟨ea,el,ec,da,dl,dc,a,len,cap,h1,he,hd,h2,h3⟩ => ⟨ea,el,ec,da,dl,dc,a,len,cap,h1,ExAt.below hb he,hd.below hb,h2,h3.imp id fun ⟨g,o,ha,hg,hi⟩ => ⟨g,o,ha,Nat.lt_of_lt_of_le hg hb.size,fun i h => by
   obtain ⟨cs',hc,hx⟩:=hi i h
   exact ⟨cs',fun j hj => ((bcell hb).1 _ _ hg).trans (hc j hj),CtAt.below hb hx⟩⟩⟩
theorem CtAt.up {w:World}:∀ {n m:Nat} {cs:List Value} {x:Ct},n≤m→CtAt n w cs x→CtAt m w cs x
 | 0,_,_,_,_,h => h.elim
 | n+1,0,_,_,hm,_ => absurd hm (by omega)
 | n+1,m+1,cs,x,hm,⟨ea,el,ec,da,dl,dc,a,len,cap,h1,he,hd,h2,h3⟩ => ⟨ea,el,ec,da,dl,dc,a,len,cap,h1,ExAt.up hm he,hd,h2,h3.imp id fun ⟨g,o,ha,hg,hi⟩ => ⟨g,o,ha,hg,fun i h => by
   obtain ⟨cs',hc,hx⟩:=hi i h
   exact ⟨cs',hc,CtAt.up (by omega) hx⟩⟩⟩
theorem CtAt.shape:∀ {n:Nat} {w:World} {cs:List Value} {x:Ct},CtAt n w cs x → ∃ ea el ec da dl dc a len cap,cs=ctCells x ea el ec da dl dc a len cap∧x.dates.length=dl∧x.sub.length=len
 | 0,_,_,_,h => h.elim
 | _+1,_,_,_,⟨ea,el,ec,da,dl,dc,a,len,cap,h1,_,hd,h2,_⟩ => ⟨ea,el,ec,da,dl,dc,a,len,cap,h1,hd.1,h2⟩
def CKOk:Nat→Ct→Prop
 | 0,_ => False
 | n+1,x => (0≤x.kind∧x.kind≤255)∧KOk (n+1) x.expr ∧ ∀ y ∈ x.sub,CKOk n y
theorem CKOk.up:∀ {n m:Nat} {x:Ct},n≤m→CKOk n x→CKOk m x
 | 0,_,_,_,h => h.elim
 | n+1,0,_,hm,_ => absurd hm (by omega)
 | n+1,m+1,x,hm,⟨h1,he,h2⟩ => ⟨h1,KOk.up hm he,fun y hy => CKOk.up (by omega) (h2 y hy)⟩
theorem cellsCt:Tryz.prog.cellsOf 29=12:=by kernel_rfl
theorem cellsCSub:Tryz.prog.cellsOf 27=1:=by kernel_rfl
theorem cellsCInts:Tryz.prog.cellsOf 26=1:=by kernel_rfl
theorem open_days {H:Type} {enc:TypeId × Value→H} {w:World} {base:Nat} {spare:Nat→Bool} {held:Bool} {fuel:Nat} {cs:List Value} {x:DataW H × List MemPlace}
  (h:DataW.trod enc Tryz.prog w base spare held fuel 26 cs=some x):∃ da dl dc l,cs=[.slice da dl dc]∧DaysAt w da dl l:=by
 rcases DataW.trod_slice Tryz.underlying26 h with ⟨hcs,_⟩ | ⟨ad,len,cap,elems,rest,m,hfm,hcs,_,_,_,_,hel,hat,_,_⟩
 ·exact ⟨none,0,0,[],hcs,rfl,.inl rfl⟩
 ·rw [cellsXInt] at hat
  have hone:∀ i,i < len → ∃ k:Int,w.cell? (ad.add i)=some (.int .i64 k):=fun i hi => by
   have ha:=hat i hi
   rw [List.getElem?_eq_getElem (by omega),Nat.mul_one] at ha
   obtain ⟨cs',hc,ht⟩:=Option.bind_eq_some_iff.1 ha
   obtain ⟨_,_,hcell⟩:=World.cells?_some hc
   obtain ⟨k,e1,_,_⟩:=DataW.trod_int Tryz.underlying3 ht
   subst e1
   have h2:=hcell 0 (by decide)
   have hz:(ad.add i).add 0=ad.add i:=by simp [Addr.add]
   rw [hz] at h2
   exact ⟨k,h2⟩
  have hl2:∀ N,N≤len → ∃ l:List Int,l.length=N ∧ ∀ i,i < N→w.cell? (ad.add i)=some (.int .i64 (l[i]?.getD 0)):=fun N => by
   induction N with
   | zero => exact fun _ => ⟨[],rfl,fun i hi => absurd hi (Nat.not_lt_zero _)⟩
   | succ N ihN =>
    intro hN
    obtain ⟨l,hl,hl2⟩:=ihN (by omega)
    obtain ⟨k,hc⟩:=hone N (by omega)
    refine ⟨l ++ [k],by simp [hl],fun i hi => ?_⟩
    by_cases hiN:i=N
    ·subst hiN
     rw [List.getElem?_append_right (by omega),hl,Nat.sub_self]
     exact hc
    ·rw [List.getElem?_append_left (by omega)]
     exact hl2 i (by omega)
  obtain ⟨l,hl,hlc⟩:=hl2 len (Nat.le_refl _)
  refine ⟨some ad,len,cap,l,hcs,hl,?_⟩
  by_cases h0:len=0
  ·exact .inl h0
  ·right
   have h00:=hlc 0 (by omega)
   have hz:ad.add 0=ad:=by simp [Addr.add]
   rw [hz] at h00
   have hsp:ad.spot=none:=addr_plainX h00
   have hbl:ad.block < w.heap.size:=cell_lt h00
   obtain ⟨g,o,sp⟩:=ad
   subst hsp
   refine ⟨g,o,rfl,hbl,fun i hi => ?_⟩
   have:=hlc i hi
   rwa [addrX] at this
set_option maxRecDepth 100000 in
theorem open_ct {H:Type} {enc:TypeId × Value→H} {w:World} {base:Nat} {spare:Nat→Bool} {held:Bool}:∀ (fuel:Nat) {cs:List Value} {x:DataW H × List MemPlace},
  DataW.trod enc Tryz.prog w base spare held fuel 29 cs=some x → ∃ e,CtAt (fuel+1) w cs e∧CKOk (fuel+1) e:=by
 intro fuel
 induction fuel using Nat.strongRecOn with
 | ind fuel ih =>
  intro cs x h
  obtain ⟨xs,n,hfu,_,hlen,hxl,hf⟩:=DataW.trod_struct Tryz.underlying29 h
  subst hfu
  rw [cellsCt] at hlen
  match cs,hlen with
  | [c0,c1,c2,c3,c4,c5,c6,c7,c8,c9,ca,cb],_ =>
   match xs,hxl with
   | [y0,y1,y2,y3,y4,y5,y6,y7],_ =>
    have h0 := hf 0 ⟨"Kind", 5, 0, false, "", "", 0⟩ rfl
    have h1 := hf 1 ⟨"From", 9, 1, false, "", "", 8⟩ rfl
    have h2 := hf 2 ⟨"To", 9, 2, false, "", "", 24⟩ rfl
    have h3 := hf 3 ⟨"Name", 9, 3, false, "", "", 40⟩ rfl
    have h4 := hf 4 ⟨"Expr", 25, 4, false, "", "", 56⟩ rfl
    have h5 := hf 5 ⟨"Date", 3, 9, false, "", "", 128⟩ rfl
    have h6 := hf 6 ⟨"Dates", 26, 10, false, "", "", 136⟩ rfl
    have h7 := hf 7 ⟨"Sub", 27, 11, false, "", "", 160⟩ rfl
    simp only [cellsXInt,cellsXU8,cellsXStr,cellsEx,cellsCSub,cellsCInts,List.drop_succ_cons,List.drop_zero,List.take_succ_cons,List.take_zero,List.getElem?_cons_succ,List.getElem?_cons_zero] at h0 h1 h2 h3 h4 h5 h6 h7
    obtain ⟨k,e0,_,hwf⟩:=DataW.trod_int Tryz.underlying5 h0
    have hkr:=u8_range hwf
    obtain ⟨s1,e1,_,_⟩:=DataW.trod_string Tryz.underlying9 h1
    obtain ⟨s2,e2,_,_⟩:=DataW.trod_string Tryz.underlying9 h2
    obtain ⟨s3,e3,_,_⟩:=DataW.trod_string Tryz.underlying9 h3
    obtain ⟨n5,e5,_,_⟩:=DataW.trod_int Tryz.underlying3 h5
    simp only [List.cons.injEq,and_true] at e0 e1 e2 e3 e5
    subst e0 e1 e2 e3 e5
    obtain ⟨ex,hex,hek⟩:=open_exprk n h4
    obtain ⟨ea,el,ec,hes,_⟩:=hex.shape
    simp only [List.cons.injEq,and_true] at hes
    obtain ⟨rfl,rfl,rfl,rfl,rfl⟩:=hes
    obtain ⟨da,dl,dc,ds,hds,hday⟩:=open_days h6
    simp only [List.cons.injEq,and_true] at hds
    subst hds
    rcases DataW.trod_slice Tryz.underlying27 h7 with ⟨hcs,_⟩ | ⟨ad,len,cap,elems,rest,m,hfm,hcs,_,_,_,_,hel,hat,_,_⟩
    ·simp only [List.cons.injEq,and_true] at hcs
     subst hcs
     exact ⟨.mk k s1 s2 s3 ex n5 ds [],⟨ea,el,ec,da,dl,dc,none,0,0,rfl,ExAt.up (by omega) hex,hday,rfl,.inl rfl⟩,hkr,KOk.up (by omega) hek,fun y hy => by cases hy⟩
    ·simp only [List.cons.injEq,and_true] at hcs
     subst hcs
     subst hfm
     rw [cellsCt] at hat
     have hone:∀ i,i < len → ∃ cs' e,(∀ j,j < 12→w.cell? ((ad.add (i*12)).add j)=cs'[j]?)∧CtAt (m+1) w cs' e∧CKOk (m+1) e:=fun i hi => by
      have ha:=hat i hi
      rw [List.getElem?_eq_getElem (by omega)] at ha
      obtain ⟨cs',hc,ht⟩:=Option.bind_eq_some_iff.1 ha
      obtain ⟨_,_,hcell⟩:=World.cells?_some hc
      obtain ⟨e,he⟩:=ih m (by omega) ht
      exact ⟨cs',e,hcell,he⟩
     have hl2:∀ N,N≤len → ∃ l:List Ct,l.length=N ∧ ∀ i,i < N → ∃ cs',(∀ j,j < 12→w.cell? ((ad.add (i*12)).add j)=cs'[j]?)∧CtAt (m+1) w cs' (l[i]?.getD default)∧CKOk (m+1) (l[i]?.getD default):=fun N => by
      induction N with
      | zero => exact fun _ => ⟨[],rfl,fun i hi => absurd hi (Nat.not_lt_zero _)⟩
      | succ N ihN =>
       intro hN
       obtain ⟨l,hl,hl2⟩:=ihN (by omega)
       obtain ⟨cs',e,hc,he⟩:=hone N (by omega)
       refine ⟨l ++ [e],by simp [hl],fun i hi => ?_⟩
       by_cases hiN:i=N
       ·subst hiN
        rw [List.getElem?_append_right (by omega),hl,Nat.sub_self]
        exact ⟨cs',hc,he⟩
       ·rw [List.getElem?_append_left (by omega)]
        exact hl2 i (by omega)
     obtain ⟨l,hl,hlc⟩:=hl2 len (Nat.le_refl _)
     have hks:∀ y ∈ (Ct.mk k s1 s2 s3 ex n5 ds l).sub,CKOk (m+1) y:=fun y hy => by
      obtain ⟨i,hi,rfl⟩:=List.getElem_of_mem hy
      obtain ⟨_,_,_,hk⟩:=hlc i (by rw [← hl];exact hi)
      have hi':i < l.length:=hi
      have e:l[i]?.getD default=(Ct.mk k s1 s2 s3 ex n5 ds l).sub[i]'hi:=by rw [List.getElem?_eq_getElem hi'];rfl
      rw [e] at hk
      exact hk
     refine ⟨.mk k s1 s2 s3 ex n5 ds l,⟨ea,el,ec,da,dl,dc,some ad,len,cap,rfl,ExAt.up (by omega) hex,hday,hl,?_⟩,hkr,KOk.up (by omega) hek,fun y hy => CKOk.up (by omega) (hks y hy)⟩
     by_cases h0:len=0
     ·exact .inl h0
     ·right
      obtain ⟨cs0,hc0,hx0,_⟩:=hlc 0 (by omega)
      have hcell0:∃ v,w.cell? ((ad.add (0*12)).add 0)=some v:=by
       obtain ⟨_,_,_,_,_,_,_,_,_,hcs,_⟩:=hx0.shape
       exact ⟨_,(hc0 0 (by omega)).trans (by rw [hcs];rfl)⟩
      obtain ⟨v0,hv0⟩:=hcell0
      have hsp:ad.spot=none:=addr_plainX (x:=(ad.add (0*12)).add 0) hv0
      have hbl:ad.block < w.heap.size:=cell_lt (a:=(ad.add (0*12)).add 0) hv0
      obtain ⟨g,o,sp⟩:=ad
      subst hsp
      refine ⟨g,o,rfl,hbl,fun i hi => ?_⟩
      obtain ⟨cs',hc,hx,_⟩:=hlc i (by rw [← hl];exact hi)
      refine ⟨cs',fun j hj => ?_,?_⟩
      ·have:=hc j hj
       rwa [addrX,addrX] at this
      ·have hi':i < l.length:=hi
       have e:l[i]?.getD default=(Ct.mk k s1 s2 s3 ex n5 ds l).sub[i]'hi:=by rw [List.getElem?_eq_getElem hi'];rfl
       rw [e] at hx
       exact CtAt.up (by omega) hx
end Go.Proofs.YtijkefflpojmhaaGreatDoor
