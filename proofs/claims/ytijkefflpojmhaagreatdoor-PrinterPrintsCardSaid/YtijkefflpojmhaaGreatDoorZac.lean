/-
  The reference's Digits. No condition. The reference's Text. No condition. slices.Reverse of bytes; the program's write. No condition. The program's write. No condition. The program's groups: an iterator over the groups of digits of a text. No condition. The program's read: the magnitude of a text. No condition. The reference's Check, Both, Gcd. No condition. The reference's Check of rationals: Slash, written. No condition. The reference's Check of rationals. No condition.
-/
import Derived.Test.YtijkefflpojmhaaGreatDoorZab
import Derived.Laws.IdiomStrings
import Derived.RangeFuncBox
import Derived.RangeFuncLeaves
import Derived.RangeFuncWrites
import Derived.Shelf.Abstract
import Derived.OwnWalkIn
import Derived.TacticsInMore
import Derived.LoopNIn
import Derived.LoopIn
import Derived.Maps.AppendAt
import Derived.Outline
import Derived.RegionIn
namespace Go.Proofs.YtijkefflpojmhaaGreatDoor
open Go.RowKit
theorem rdZ_pos {l:List UInt8} (h:l.head? ≠ some 45) (hc:CanN l):rdZ l=some (dval (undig l):Int):=by
 unfold rdZ;rw [if_neg h]
 unfold rdN;rw [if_pos ((rdN_test l).2 hc)];rfl
theorem rdZ_neg {l:List UInt8} (h:l.head? = some 45) (hc:CanN l.tail) (h0:l.tail.head? ≠ some 48):∃ z:Int,rdZ l=some z∧z < 0∧z.natAbs=dval (undig l.tail):=by
 have e:=txtN_undig _ hc
 unfold rdZ;rw [if_pos h]
 unfold rdN;rw [if_pos ((rdN_test l.tail).2 hc)]
 cases hd:dval (undig l.tail) with
 | zero =>
  rw [hd] at e
  exfalso;apply h0;rw [← e];rfl
 | succ n => exact ⟨_,rfl,by omega,by omega⟩
theorem rdZ_no {l:List UInt8} (h:l.head? ≠ some 45) (hc:¬ CanN l):rdZ l=none:=by
 unfold rdZ;rw [if_neg h,rdN_none hc];rfl
theorem rdZ_nog {l:List UInt8} (h:l.head? = some 45) (hc:¬ CanN l.tail):rdZ l=none:=by
 unfold rdZ;rw [if_pos h,rdN_none hc]
theorem rdZ_no0 {l:List UInt8} (h:l.head? = some 45) (h0:l.tail.head? = some 48):rdZ l=none:=by
 unfold rdZ;rw [if_pos h]
 cases e:rdN l.tail with
 | none => rfl
 | some n =>
  cases n with
  | zero => rfl
  | succ n =>
   exfalso
   have e:=rdN_some e
   have hh:=canN_txtN (n+1)
   rw [← e] at hh
   have h1:=hh.2.2 h0
   have h2:l.tail=[48]:=by
    match hl:l.tail,h1 with
    | [c],_ => rw [hl] at h0;simp at h0;rw [h0]
   have:txtN (n+1)=txtN 0:=by rw [← e,h2];rfl
   have:=txtN_inj this
   omega
theorem undig_drop (l:List UInt8) (k:Nat) (c:UInt8) (h:l[k]? = some c):undig (l.drop (k+1)) ++ [c.toNat - 48]=undig (l.drop k):=by
 have hk:k < l.length:=(List.getElem?_eq_some_iff.1 h).1
 rw [List.drop_eq_getElem_cons hk]
 have:l[k]=c:=by rw [List.getElem?_eq_getElem hk] at h;injection h
 unfold undig
 rw [this]
 simp
theorem decN_undig {l:List UInt8} (h:CanN l):decN (dval (undig l))=undig l:=by
 have:=congrArg undig (txtN_undig l h)
 rwa [undig_txtN] at this
def DigPost (w:World) (l:List UInt8) (e:Ending) (w':World):Prop :=
 (∃ z a n c,rdZ l=some z∧e = .returned (.tuple #[.slice a n c,.bool (decide (z < 0)),.bool true])∧(decN z.natAbs).length=n∧n≤c∧Nums .i64 w' a (decN z.natAbs)∧Below w.heap.size w w') ∨
 (rdZ l=none∧e = .returned (.tuple #[.slice none 0 0,.bool false,.bool false])∧Below w.heap.size w w')
def DgR (w:World) (t:ByteArray) (n:Nat) (o iv:Value) (wr:World):Prop :=
 ∃ i:Nat,i≤n∧iv = .int .i64 ((i:Int) - 1)∧wr.ownsRow w.heap.size 3 1 o (n - i) (nums .i64 (undig (t.data.toList.drop i)))∧(∀ c ∈ t.data.toList.drop i,48≤c.toNat∧c.toNat≤57)∧Below w.heap.size w wr
theorem dgR_start (w:World) (t:ByteArray) (n:Nat) (h:t.size=n):DgR w t n (.slice none 0 0) (.int .i64 ((n:Int) - 1)) w:=by
 refine ⟨n,Nat.le_refl _,rfl,?_,?_,Below.refl _ _⟩
 ·rw [List.drop_eq_nil_of_le (by rw [data_len];omega),Nat.sub_self]
  exact World.ownsRow_nil _ _ _ _
 ·rw [List.drop_eq_nil_of_le (by rw [data_len];omega)];simp
theorem data_drop (s:ByteArray) (k:Nat) (h:k < s.size):s.data.toList.drop k=s[k] :: s.data.toList.drop (k+1):=by
 rw [List.drop_eq_getElem_cons (by rw [data_len];exact h)]
 congr 1
set_option maxHeartbeats 4000000 in
set_option maxRecDepth 100000 in
theorem digits_neg_loop (s:ByteArray) (w:World) (hs:s.size≤1000000) (h0:0 < s.size) (h1:((s[0].toNat:Int) == 45)=true)
  (h2:0 < s.size - 1) (a5:(((s.size - 1:Nat):Int) == 0)=false) (a3:(((s.extract 1 s.size)[0]'(by simp;omega)).toNat == (48:Int))=false)
  (HT:Hid ((s.extract 1 s.size).size=s.size - 1)) (HS:Hid (DgR w (s.extract 1 s.size) (s.size - 1) (.slice none 0 0) (.int .i64 (((s.size - 1:Nat):Int) - 1)) w))
  (HE:Hid (∀ c,c ∈ (s.extract 1 s.size).data.toList → ¬ (48≤c.toNat∧c.toNat≤57)→rdZ s.data.toList=none))
  (HC:Hid ((∀ c ∈ (s.extract 1 s.size).data.toList,48≤c.toNat∧c.toNat≤57) → ∃ z,rdZ s.data.toList=some z∧decN z.natAbs=undig (s.extract 1 s.size).data.toList∧decide (z < 0)=true)) :
  Calls Tryz.prog 108 #[.string s] w (DigPost w s.data.toList):=by
 obtain ⟨i0,hi,hz0,hz1,hz2⟩:=info_parts infoInt
 go_enter Tryz.func108,Tryz.ntmps108
 go_wp2_with fail
 go_loopw [7,8] (DgR w (s.extract 1 s.size) (s.size - 1)) (fun _ i _ => (intOf i+1).toNat)
 case atStart => exact HS.out
 case round =>
  obtain ⟨i,hin,rfl,ho,hd,hb⟩:=hrel
  have HD:=Lib.hid hd
  obtain ⟨D,hD⟩:∃ D,D=undig ((s.extract 1 s.size).data.toList.drop i):=⟨_,rfl⟩
  rw [← hD] at ho
  have HDD:=Lib.hid hD
  have HO:=Lib.hid ho
  have HB:=Lib.hid hb
  clear hd ho hb hD
  by_cases hi0:1≤i
  ·obtain ⟨k,rfl⟩:∃ k,i=k+1:=⟨i - 1,by omega⟩
   have hlt:k < s.size - 1:=by omega
   have hlt':k < (s.extract 1 s.size).size:=by have:=HT.out;omega
   rw [show (((k+1:Nat):Int) - 1)=(k:Int) by omega]
   by_cases hc:48≤(s.extract 1 s.size)[k].toNat∧(s.extract 1 s.size)[k].toNat≤57
   ·have HN:Hid (∀ c ∈ (s.extract 1 s.size).data.toList.drop k,48≤c.toNat∧c.toNat≤57):=by
     show ∀ c ∈ _,_
     rw [data_drop _ k hlt']
     intro c hcm
     rcases List.mem_cons.1 hcm with rfl | hcm
     ·exact hc
     ·exact HD.out c hcm
    have HU:=Lib.hid (undig_drop (s.extract 1 s.size).data.toList k _ (Lib.data_getElem? _ k hlt'))
    obtain ⟨x,hx⟩:∃ x,x=(s.extract 1 s.size)[k].toNat - 48:=⟨_,rfl⟩
    rw [← hx] at HU
    have hx1:(((s.extract 1 s.size)[k].toNat:Int) - 48)=(x:Int):=by omega
    have hx2:x < 10:=by omega
    have HX:=Lib.hid hx1
    clear hx hx1
    obtain ⟨c1,c2⟩:=hc
    go_wp2_with (at_builtin;refine wpList_append1 _ rfl (.tmp 54) (.tmp 60) 26 rfl w.heap.size 3 i0 (.int .i64 0) 8 Tryz.underlying26 hi hz0 hz1 hz2 rfl _ _ _ rfl (HO.out.alloc _) ⟨wr.heap.size,0,none⟩ 1 (.int .i64 x) rfl ?c1 rfl ?c3 ?c4 ?c5 ?_)
    case c1 => rw [← HX.out];simp
    case c3 => unfold maxLen;omega
    case c4 => omega
    case c5 => have:=HB.out.size;simp;omega
    intro v1 w1 ho1 hg1 hne1 hpl1
    have n1:Below w.heap.size w w1:=(HB.out.alloc HB.out.size _).grown hg1 (by have:=HB.out.size;simp;omega) (fun k hk => (HO.out.lt k hk).1)
    rw [nums_snoc,HDD.out,HU.out,show s.size - 1 - (k+1)+1=s.size - 1 - k by omega] at ho1
    have HO1:=Lib.hid ho1
    have N1:=Lib.hid n1
    clear ho1 n1 hg1 hne1 hpl1
    go_wp2_with fail
    go_roundw
    case rel => exact ⟨k,by omega,rfl,HO1.out,HN.out,N1.out⟩
    case measure => simp [intOf] <;> omega
   ·have e4:=Lib.hid (HE.out _ (data_mem _ k hlt') hc)
    have hc':(s.extract 1 s.size)[k].toNat < 48 ∨ 57 < (s.extract 1 s.size)[k].toNat:=by omega
    clear hc
    rcases hc' with c1 | c1
    ·go_wp2_with fail
     go_ret3
     exact .inr ⟨e4.out,rfl,HB.out⟩
    ·go_wp2_with fail
     go_ret3
     exact .inr ⟨e4.out,rfl,HB.out⟩
  ·obtain rfl:i=0:=by omega
   have e4:=HC.out (by have:=HD.out;rwa [List.drop_zero] at this)
   have ho:=HO.out
   rw [HDD.out,List.drop_zero,Nat.sub_zero] at ho
   have E4:=Lib.hid e4
   have HO2:=Lib.hid ho
   clear e4 ho
   go_wp2_with fail
   go_ret3
   obtain ⟨z,e1,e2,e3⟩:=E4.out
   obtain ⟨a,c,hv,hl,hnc,hnm⟩:=nums_of_owns HO2.out
   rw [← e2] at hl hnm
   exact .inl ⟨z,a,s.size - 1,c,e1,by rw [hv,e3];rfl,hl,hnc,hnm,HB.out⟩
set_option maxHeartbeats 4000000 in
set_option maxRecDepth 100000 in
theorem digits_pos_loop (s:ByteArray) (w:World) (hs:s.size≤1000000) (h0:0 < s.size) (h1:((s[0].toNat:Int) == 45)=false)
  (a5:((s.size:Int) == 0)=false) (a3:((s[0].toNat:Int) == 48)=false)
  (HT:Hid ((s).size=s.size)) (HS:Hid (DgR w (s) (s.size) (.slice none 0 0) (.int .i64 (((s.size:Nat):Int) - 1)) w))
  (HE:Hid (∀ c,c ∈ (s).data.toList → ¬ (48≤c.toNat∧c.toNat≤57)→rdZ s.data.toList=none))
  (HC:Hid ((∀ c ∈ (s).data.toList,48≤c.toNat∧c.toNat≤57) → ∃ z,rdZ s.data.toList=some z∧decN z.natAbs=undig (s).data.toList∧decide (z < 0)=false)) :
  Calls Tryz.prog 108 #[.string s] w (DigPost w s.data.toList):=by
 obtain ⟨i0,hi,hz0,hz1,hz2⟩:=info_parts infoInt
 go_enter Tryz.func108,Tryz.ntmps108
 go_wp2_with fail
 go_loopw [7,8] (DgR w (s) (s.size)) (fun _ i _ => (intOf i+1).toNat)
 case atStart => exact HS.out
 case round =>
  obtain ⟨i,hin,rfl,ho,hd,hb⟩:=hrel
  have HD:=Lib.hid hd
  obtain ⟨D,hD⟩:∃ D,D=undig ((s).data.toList.drop i):=⟨_,rfl⟩
  rw [← hD] at ho
  have HDD:=Lib.hid hD
  have HO:=Lib.hid ho
  have HB:=Lib.hid hb
  clear hd ho hb hD
  by_cases hi0:1≤i
  ·obtain ⟨k,rfl⟩:∃ k,i=k+1:=⟨i - 1,by omega⟩
   have hlt:k < s.size:=by omega
   have hlt':k < (s).size:=by have:=HT.out;omega
   rw [show (((k+1:Nat):Int) - 1)=(k:Int) by omega]
   by_cases hc:48≤(s)[k].toNat∧(s)[k].toNat≤57
   ·have HN:Hid (∀ c ∈ (s).data.toList.drop k,48≤c.toNat∧c.toNat≤57):=by
     show ∀ c ∈ _,_
     rw [data_drop _ k hlt']
     intro c hcm
     rcases List.mem_cons.1 hcm with rfl | hcm
     ·exact hc
     ·exact HD.out c hcm
    have HU:=Lib.hid (undig_drop (s).data.toList k _ (Lib.data_getElem? _ k hlt'))
    obtain ⟨x,hx⟩:∃ x,x=(s)[k].toNat - 48:=⟨_,rfl⟩
    rw [← hx] at HU
    have hx1:(((s)[k].toNat:Int) - 48)=(x:Int):=by omega
    have hx2:x < 10:=by omega
    have HX:=Lib.hid hx1
    clear hx hx1
    obtain ⟨c1,c2⟩:=hc
    go_wp2_with (at_builtin;refine wpList_append1 _ rfl (.tmp 54) (.tmp 60) 26 rfl w.heap.size 3 i0 (.int .i64 0) 8 Tryz.underlying26 hi hz0 hz1 hz2 rfl _ _ _ rfl (HO.out.alloc _) ⟨wr.heap.size,0,none⟩ 1 (.int .i64 x) rfl ?c1 rfl ?c3 ?c4 ?c5 ?_)
    case c1 => rw [← HX.out];simp
    case c3 => unfold maxLen;omega
    case c4 => omega
    case c5 => have:=HB.out.size;simp;omega
    intro v1 w1 ho1 hg1 hne1 hpl1
    have n1:Below w.heap.size w w1:=(HB.out.alloc HB.out.size _).grown hg1 (by have:=HB.out.size;simp;omega) (fun k hk => (HO.out.lt k hk).1)
    rw [nums_snoc,HDD.out,HU.out,show s.size - (k+1)+1=s.size - k by omega] at ho1
    have HO1:=Lib.hid ho1
    have N1:=Lib.hid n1
    clear ho1 n1 hg1 hne1 hpl1
    go_wp2_with fail
    go_roundw
    case rel => exact ⟨k,by omega,rfl,HO1.out,HN.out,N1.out⟩
    case measure => simp [intOf] <;> omega
   ·have e4:=Lib.hid (HE.out _ (data_mem _ k hlt') hc)
    have hc':(s)[k].toNat < 48 ∨ 57 < (s)[k].toNat:=by omega
    clear hc
    rcases hc' with c1 | c1
    ·go_wp2_with fail
     go_ret3
     exact .inr ⟨e4.out,rfl,HB.out⟩
    ·go_wp2_with fail
     go_ret3
     exact .inr ⟨e4.out,rfl,HB.out⟩
  ·obtain rfl:i=0:=by omega
   have e4:=HC.out (by have:=HD.out;rwa [List.drop_zero] at this)
   have ho:=HO.out
   rw [HDD.out,List.drop_zero,Nat.sub_zero] at ho
   have E4:=Lib.hid e4
   have HO2:=Lib.hid ho
   clear e4 ho
   go_wp2_with fail
   go_ret3
   obtain ⟨z,e1,e2,e3⟩:=E4.out
   obtain ⟨a,c,hv,hl,hnc,hnm⟩:=nums_of_owns HO2.out
   rw [← e2] at hl hnm
   exact .inl ⟨z,a,s.size,c,e1,by rw [hv,e3];rfl,hl,hnc,hnm,HB.out⟩
set_option maxHeartbeats 4000000 in
set_option maxRecDepth 100000 in
theorem digits_zero_loop (s:ByteArray) (w:World) (hs:s.size≤1) (h0:0 < s.size) (h1:((s[0].toNat:Int) == 45)=false)
  (a3:((s[0].toNat:Int) == 48)=true)
  (HT:Hid ((s).size=s.size)) (HS:Hid (DgR w (s) (s.size) (.slice none 0 0) (.int .i64 (((s.size:Nat):Int) - 1)) w))
  (HE:Hid (∀ c,c ∈ (s).data.toList → ¬ (48≤c.toNat∧c.toNat≤57)→rdZ s.data.toList=none))
  (HC:Hid ((∀ c ∈ (s).data.toList,48≤c.toNat∧c.toNat≤57) → ∃ z,rdZ s.data.toList=some z∧decN z.natAbs=undig (s).data.toList∧decide (z < 0)=false)) :
  Calls Tryz.prog 108 #[.string s] w (DigPost w s.data.toList):=by
 obtain ⟨i0,hi,hz0,hz1,hz2⟩:=info_parts infoInt
 have a5:((s.size:Int) == 0)=false:=by rw [beq_eq_false_iff_ne];omega
 have a4:decide ((1:Int) < (s.size:Int))=false:=by simp;omega
 go_enter Tryz.func108,Tryz.ntmps108
 go_wp2_with fail
 go_loopw [7,8] (DgR w (s) (s.size)) (fun _ i _ => (intOf i+1).toNat)
 case atStart => exact HS.out
 case round =>
  obtain ⟨i,hin,rfl,ho,hd,hb⟩:=hrel
  have HD:=Lib.hid hd
  obtain ⟨D,hD⟩:∃ D,D=undig ((s).data.toList.drop i):=⟨_,rfl⟩
  rw [← hD] at ho
  have HDD:=Lib.hid hD
  have HO:=Lib.hid ho
  have HB:=Lib.hid hb
  clear hd ho hb hD
  by_cases hi0:1≤i
  ·obtain ⟨k,rfl⟩:∃ k,i=k+1:=⟨i - 1,by omega⟩
   have hlt:k < s.size:=by omega
   have hlt':k < (s).size:=by have:=HT.out;omega
   rw [show (((k+1:Nat):Int) - 1)=(k:Int) by omega]
   by_cases hc:48≤(s)[k].toNat∧(s)[k].toNat≤57
   ·have HN:Hid (∀ c ∈ (s).data.toList.drop k,48≤c.toNat∧c.toNat≤57):=by
     show ∀ c ∈ _,_
     rw [data_drop _ k hlt']
     intro c hcm
     rcases List.mem_cons.1 hcm with rfl | hcm
     ·exact hc
     ·exact HD.out c hcm
    have HU:=Lib.hid (undig_drop (s).data.toList k _ (Lib.data_getElem? _ k hlt'))
    obtain ⟨x,hx⟩:∃ x,x=(s)[k].toNat - 48:=⟨_,rfl⟩
    rw [← hx] at HU
    have hx1:(((s)[k].toNat:Int) - 48)=(x:Int):=by omega
    have hx2:x < 10:=by omega
    have HX:=Lib.hid hx1
    clear hx hx1
    obtain ⟨c1,c2⟩:=hc
    go_wp2_with (at_builtin;refine wpList_append1 _ rfl (.tmp 54) (.tmp 60) 26 rfl w.heap.size 3 i0 (.int .i64 0) 8 Tryz.underlying26 hi hz0 hz1 hz2 rfl _ _ _ rfl (HO.out.alloc _) ⟨wr.heap.size,0,none⟩ 1 (.int .i64 x) rfl ?c1 rfl ?c3 ?c4 ?c5 ?_)
    case c1 => rw [← HX.out];simp
    case c3 => unfold maxLen;omega
    case c4 => omega
    case c5 => have:=HB.out.size;simp;omega
    intro v1 w1 ho1 hg1 hne1 hpl1
    have n1:Below w.heap.size w w1:=(HB.out.alloc HB.out.size _).grown hg1 (by have:=HB.out.size;simp;omega) (fun k hk => (HO.out.lt k hk).1)
    rw [nums_snoc,HDD.out,HU.out,show s.size - (k+1)+1=s.size - k by omega] at ho1
    have HO1:=Lib.hid ho1
    have N1:=Lib.hid n1
    clear ho1 n1 hg1 hne1 hpl1
    go_wp2_with fail
    go_roundw
    case rel => exact ⟨k,by omega,rfl,HO1.out,HN.out,N1.out⟩
    case measure => simp [intOf] <;> omega
   ·have e4:=Lib.hid (HE.out _ (data_mem _ k hlt') hc)
    have hc':(s)[k].toNat < 48 ∨ 57 < (s)[k].toNat:=by omega
    clear hc
    rcases hc' with c1 | c1
    ·go_wp2_with fail
     go_ret3
     exact .inr ⟨e4.out,rfl,HB.out⟩
    ·go_wp2_with fail
     go_ret3
     exact .inr ⟨e4.out,rfl,HB.out⟩
  ·obtain rfl:i=0:=by omega
   have e4:=HC.out (by have:=HD.out;rwa [List.drop_zero] at this)
   have ho:=HO.out
   rw [HDD.out,List.drop_zero,Nat.sub_zero] at ho
   have E4:=Lib.hid e4
   have HO2:=Lib.hid ho
   clear e4 ho
   go_wp2_with fail
   go_ret3
   obtain ⟨z,e1,e2,e3⟩:=E4.out
   obtain ⟨a,c,hv,hl,hnc,hnm⟩:=nums_of_owns HO2.out
   rw [← e2] at hl hnm
   exact .inl ⟨z,a,s.size,c,e1,by rw [hv,e3];rfl,hl,hnc,hnm,HB.out⟩
set_option maxHeartbeats 4000000 in
set_option maxRecDepth 100000 in
theorem digits_empty (s:ByteArray) (w:World) (h0:s.size=0) (_a5:((s.size:Int) == 0)=true) (HE:Hid (rdZ s.data.toList=none)):Calls Tryz.prog 108 #[.string s] w (DigPost w s.data.toList):=by
 go_enter Tryz.func108,Tryz.ntmps108
 go_wp2_with fail
 go_ret3
 exact .inr ⟨HE.out,rfl,Below.refl _ _⟩
set_option maxHeartbeats 4000000 in
set_option maxRecDepth 100000 in
theorem digits_long_zero (s:ByteArray) (w:World) (h0:1 < s.size) (h1:((s[0].toNat:Int) == 45)=false) (a3:((s[0].toNat:Int) == 48)=true) (HE:Hid (rdZ s.data.toList=none)):Calls Tryz.prog 108 #[.string s] w (DigPost w s.data.toList):=by
 have a5:((s.size:Int) == 0)=false:=by rw [beq_eq_false_iff_ne];omega
 go_enter Tryz.func108,Tryz.ntmps108
 go_wp2_with fail
 go_ret3
 exact .inr ⟨HE.out,rfl,Below.refl _ _⟩
set_option maxHeartbeats 4000000 in
set_option maxRecDepth 100000 in
theorem digits_neg_empty (s:ByteArray) (w:World) (h0:0 < s.size) (_h2:s.size - 1 < 1) (a5:(((s.size - 1:Nat):Int) == 0)=true) (h1:((s[0].toNat:Int) == 45)=true) (HE:Hid (rdZ s.data.toList=none)):Calls Tryz.prog 108 #[.string s] w (DigPost w s.data.toList):=by
 go_enter Tryz.func108,Tryz.ntmps108
 go_wp2_with fail
 go_ret3
 exact .inr ⟨HE.out,rfl,Below.refl _ _⟩
set_option maxHeartbeats 4000000 in
set_option maxRecDepth 100000 in
theorem digits_neg_zero (s:ByteArray) (w:World) (h0:0 < s.size) (h1:((s[0].toNat:Int) == 45)=true)
  (h2:0 < s.size - 1) (a5:(((s.size - 1:Nat):Int) == 0)=false) (a3:(((s.extract 1 s.size)[0]'(by simp;omega)).toNat == (48:Int))=true) (HE:Hid (rdZ s.data.toList=none)):Calls Tryz.prog 108 #[.string s] w (DigPost w s.data.toList):=by
 go_enter Tryz.func108,Tryz.ntmps108
 go_wp2_with fail
 all_goals
  go_ret3
  exact .inr ⟨HE.out,rfl,Below.refl _ _⟩
theorem digits_any (s:ByteArray) (w:World) (hs:s.size≤1000000):Calls Tryz.prog 108 #[.string s] w (DigPost w s.data.toList):=by
 by_cases h0:s.size=0
 ·refine digits_empty s w h0 (by rw [h0];rfl) ?_
  have:s.data.toList=[]:=List.eq_nil_of_length_eq_zero (by rw [data_len];exact h0)
  show _=_
  rw [this];rfl
 ·have h0:0 < s.size:=by omega
  cases h1:((s[0].toNat:Int) == 45) with
  | true =>
   have H45:=head_of h0 (n:=45) (by omega) h1
   have HT:(s.extract 1 s.size).size=s.size - 1:=by simp
   have ht:=tail_data s
   by_cases h2:s.size=1
   ·refine digits_neg_empty s w h0 (by omega) (by rw [h2];rfl) h1 (rdZ_nog H45 ?_)
    have:s.data.toList.tail=[]:=List.eq_nil_of_length_eq_zero (by rw [List.length_tail,data_len];omega)
    rw [this];exact fun h => h.1 rfl
   ·have h2:0 < s.size - 1:=by omega
    have a5:(((s.size - 1:Nat):Int) == 0)=false:=by rw [beq_eq_false_iff_ne];omega
    have h2':0 < (s.extract 1 s.size).size:=by omega
    cases a3:(((s.extract 1 s.size)[0].toNat:Int) == 48) with
    | true =>
     have hd:=head_of h2' (n:=48) (by omega) a3
     exact digits_neg_zero s w h0 h1 h2 a5 a3 (rdZ_no0 H45 (by rw [← ht];exact hd))
    | false =>
     have hd:=head_not h2' (n:=48) (by omega) a3
     have hne:(s.extract 1 s.size).data.toList ≠ []:=fun h => by have:=data_len (s.extract 1 s.size);rw [h] at this;simp at this;omega
     refine digits_neg_loop s w hs h0 h1 h2 a5 a3 HT (dgR_start w _ _ HT) (fun c hc hn => rdZ_nog H45 (fun h => hn (h.2.1 c (by rw [← ht];exact hc)))) (fun h => ?_)
     have hcan:CanN s.data.toList.tail:=by rw [← ht];exact ⟨hne,h,fun h48 => absurd h48 hd⟩
     obtain ⟨z,e1,e2,e3⟩:=rdZ_neg H45 hcan (by rw [← ht];exact hd)
     exact ⟨z,e1,by rw [e3,ht,decN_undig hcan],by simpa using e2⟩
  | false =>
   have hh:=head_not h0 (n:=45) (by omega) h1
   have hne:s.data.toList ≠ []:=fun h => by have:=data_len s;rw [h] at this;simp at this;omega
   have hfin:∀ (h:CanN s.data.toList),∃ z,rdZ s.data.toList=some z∧decN z.natAbs=undig s.data.toList∧decide (z < 0)=false:=fun h =>
    ⟨_,rdZ_pos hh h,by rw [Int.natAbs_natCast,decN_undig h],by simp⟩
   have hbad:∀ c,c ∈ s.data.toList → ¬ (48≤c.toNat∧c.toNat≤57)→rdZ s.data.toList=none:=fun c hc hn => rdZ_no hh (fun h => hn (h.2.1 c hc))
   cases a3:((s[0].toNat:Int) == 48) with
   | true =>
    have hd:=head_of h0 (n:=48) (by omega) a3
    by_cases h2:1 < s.size
    ·exact digits_long_zero s w h2 h1 a3 (rdZ_no hh (fun h => by have:=h.2.2 hd;rw [data_len] at this;omega))
    ·exact digits_zero_loop s w (by omega) h0 h1 a3 rfl (dgR_start w _ _ rfl) hbad (fun h => hfin ⟨hne,h,fun _ => by rw [data_len];omega⟩)
   | false =>
    have hd:=head_not h0 (n:=48) (by omega) a3
    exact digits_pos_loop s w hs h0 h1 (by rw [beq_eq_false_iff_ne];omega) a3 rfl (dgR_start w _ _ rfl) hbad (fun h => hfin ⟨hne,h,fun h48 => absurd h48 hd⟩)
end Go.Proofs.YtijkefflpojmhaaGreatDoor

namespace Go.Proofs.YtijkefflpojmhaaGreatDoor
open Go.RowKit
theorem txtZ_neg {n:Nat} (h:0 < n):txtZ (-(n:Int))=45 :: txtN n:=by
 unfold txtZ;rw [if_pos (by omega),Int.natAbs_neg,Int.natAbs_natCast]
theorem txtZ_pos (n:Nat):txtZ (n:Int)=txtN n:=by
 unfold txtZ;rw [if_neg (by omega),Int.natAbs_natCast]
theorem top_dig (l:List Nat) (k:Nat) (hk:k+1≤l.length) (d:∀ x ∈ l,x < 10) (h:dval (l.take (k+1))=dval l) (h0:l.getD k 0 ≠ 0):decN (dval l)=l.take (k+1)∧0 < dval l:=by
 have hD:Dig (l.take (k+1)):=by
  refine ⟨fun x hx => d x (List.mem_of_mem_take hx),?_⟩
  rw [List.take_add_one,List.getElem?_eq_getElem (by omega)]
  simp only [Option.toList_some,List.getLast?_concat]
  rw [List.getD_eq_getElem?_getD,List.getElem?_eq_getElem (by omega)] at h0
  simpa using h0
 have e:=decL_dval _ hD
 rw [h] at e
 have hne:dval l ≠ 0:=by
  intro hz
  rw [hz,decL_zero] at e
  have:=congrArg List.length e
  rw [List.length_take] at this
  simp at this;omega
 exact ⟨by unfold decN;rw [if_neg hne,e],by omega⟩
def txtP (neg:Bool) (l:List Nat) (i:Nat):List UInt8:=(if neg then [45] else []) ++ (l.drop i).reverse.map dgB
theorem txtP_start (neg:Bool) (l:List Nat):txtP neg l l.length=if neg then [45] else []:=by simp [txtP]
theorem txtP_step (neg:Bool) (l:List Nat) (i:Nat) (h:i < l.length):txtP neg l (i+1) ++ [dgB (l.getD i 0)]=txtP neg l i:=by
 unfold txtP
 have:l.drop i=l.getD i 0 :: l.drop (i+1):=by
  rw [List.drop_eq_getElem_cons h,List.getD_eq_getElem?_getD,List.getElem?_eq_getElem h];rfl
 rw [this];simp
theorem txtP_end (neg:Bool) (V:Nat) (h:0 < V):txtP neg (decN V) 0=txtZ (if neg then -(V:Int) else (V:Int)):=by
 unfold txtP
 cases neg
 ·simp [txtZ_pos,txtN]
 ·simp [txtZ_neg h,txtN]
theorem txtP_len (neg:Bool) (l:List Nat) (i:Nat) (h:i≤l.length):(txtP neg l i).length≤l.length+1 - i:=by
 unfold txtP;cases neg <;> simp <;> omega
theorem infoU8:(Tryz.prog.info? 5).map (fun i => (i.zero,i.size,i.bytes))=some (some (.int .u8 0),1,1):=by kernel_rfl
def bytesV (l:List UInt8):List Value:=l.map fun b:UInt8 => Value.int .u8 (b.toNat:Int)
theorem bytesV_length (l:List UInt8):(bytesV l).length=l.length:=by simp [bytesV]
theorem bytesV_snoc (l:List UInt8) (b:UInt8):bytesV l ++ [.int .u8 (b.toNat:Int)]=bytesV (l ++ [b]):=by simp [bytesV]
theorem bytesV_get (l:List UInt8) (i:Nat) (h:i < l.length):(bytesV l)[i]? = some (.int .u8 (l[i].toNat:Int)):=by
 simp [bytesV,List.getElem?_eq_getElem h]
theorem conv_own {w:World} {B:Nat} {v:Value} {n:Nat} {l:List UInt8} (h:w.ownsRow B 5 1 v n (bytesV l)) (dst:TypeId) (hd:Tryz.prog.underlying dst=some .string) :
  (convert 45 dst v).run Tryz.prog w = .ok (.string ⟨l.toArray⟩) w:=by
 have hn:l.length=n:=by have:=h.1;rw [bytesV_length] at this;omega
 rcases rowAt_of_owns h with ⟨rfl,hz,_⟩ | ⟨g,c,rfl,_,hc,_,_,hr⟩
 ·rw [run_convert_bytes_nil w 45 5 Tryz.underlying45 Tryz.underlying5 0 0 dst hd]
  rw [List.eq_nil_of_length_eq_zero (hn.trans hz)];rfl
 ·have:=run_convert_bytes_back (P:=Tryz.prog) w 45 dst 5 ⟨g,0,none⟩ c l Tryz.underlying45 Tryz.underlying5 hd (fun j hj => by
   rw [add_plain,Nat.zero_add,hr.cell (by rw [bytesV_length];exact hj),bytesV_get l j hj])
  rw [hn] at this
  exact this
def StrPost (w:World) (l:List UInt8) (e:Ending) (w':World):Prop:=e = .returned (.string ⟨l.toArray⟩)∧Below w.heap.size w w'
def TrimT (la:List Nat) (n:Nat) (v:Value):Prop := ∃ k:Nat,k≤n∧v = .int .i64 (k:Int)∧dval (la.take k)=dval la
def TxtR (w:World) (neg:Bool) (D:List Nat) (o iv:Value) (wr:World):Prop :=
 ∃ i:Nat,i≤D.length∧iv = .int .i64 ((i:Int) - 1)∧wr.ownsRow w.heap.size 5 1 o (txtP neg D i).length (bytesV (txtP neg D i))∧Below w.heap.size w wr
set_option maxHeartbeats 4000000 in
set_option maxRecDepth 100000 in
theorem text_any (a:Option Addr) (n c:Nat) (la:List Nat) (neg:Bool) (w:World) (hla:la.length=n) (hn:n≤900000) (da:∀ x ∈ la,x < 10) (ha:Nums .i64 w a la) :
  Calls Tryz.prog 121 #[.slice a n c,.bool neg] w (StrPost w (txtZ (if neg then -(dval la:Int) else (dval la:Int)))):=by
 obtain ⟨i0,hi,hz0,hz1,hz2⟩:=info_parts infoU8
 have HLA:=Lib.hid hla
 have HA:=Lib.hid ha
 have DA:=Lib.hid da
 clear hla ha da
 obtain ⟨Z,hZ⟩:∃ Z,Z=txtZ (if neg then -(dval la:Int) else (dval la:Int)):=⟨_,rfl⟩
 rw [← hZ]
 have HZ:=Lib.hid hZ
 clear hZ
 go_enter Tryz.func121,Tryz.ntmps121
 go_wp2_with fail
 go_loop [5] (TrimT la n) (fun v => (intOf v).toNat)
 case atStart => exact ⟨n,Nat.le_refl _,rfl,by rw [List.take_of_length_le (by have:=HLA.out;omega)]⟩
 case round =>
  obtain ⟨k,hk,rfl,hv⟩:=hrel
  have HV:=Lib.hid hv
  clear hv
  by_cases hk0:1≤k
  ·obtain ⟨j,rfl⟩:∃ j,k=j+1:=⟨k - 1,by omega⟩
   obtain ⟨g,o,rfl,hg,hc⟩:=HA.out j (by have:=HLA.out;omega)
   obtain ⟨y,hy⟩:∃ y,y=la.getD j 0:=⟨_,rfl⟩
   rw [← hy] at hc
   rw [show ((j+1:Nat):Int)=(j:Int)+1 by omega]
   by_cases hy0:y=0
   ·have hn:=dtrim_step la j HV.out (by rw [← hy];exact hy0)
    have t1:((y:Int) == 0)=true:=by rw [beq_iff_eq];omega
    have HN:=Lib.hid hn
    clear hn hy hy0
    go_wp2_with fail
    go_round
    case rel => exact ⟨j,by omega,rfl,HN.out⟩
    case measure => simp [intOf] <;> omega
   ·have htop:=top_dig la j (by have:=HLA.out;omega) DA.out HV.out (by rw [← hy];exact hy0)
    obtain ⟨V,hV⟩:∃ V,V=dval la:=⟨_,rfl⟩
    rw [← hV] at htop
    have t1:((y:Int) == 0)=false:=by rw [beq_eq_false_iff_ne];omega
    obtain ⟨D,hD⟩:∃ D,D=decN V:=⟨_,rfl⟩
    have hDl:D.length=j+1:=by rw [hD,htop.1,List.length_take];have:=HLA.out;omega
    have hDc:∀ e,e < j+1→w.cell? ⟨g,o+e,none⟩=some (.int .i64 ((D.getD e 0:Nat):Int)):=fun e he => by
     obtain ⟨g',o',ee,_,hce⟩:=HA.out e (by have:=HLA.out;omega)
     injection ee with ee;injection ee with e1 e2
     subst e1 e2
     rw [hce,hD,htop.1,List.getD_eq_getElem?_getD,List.getD_eq_getElem?_getD,List.getElem?_take_of_lt he]
    have hD10:∀ x ∈ D,x < 10:=by rw [hD];exact decN_lt V
    have HVP:=Lib.hid htop.2
    have HDD:=Lib.hid hD
    have HDL:=Lib.hid hDl
    have HDC:=Lib.hid hDc
    have HD10:=Lib.hid hD10
    have hfin:=txtP_end neg V htop.2
    rw [← hD,hV,← HZ.out] at hfin
    have HFIN:=Lib.hid hfin
    have t2:((((j:Nat):Int)+1) == 0)=false:=by rw [beq_eq_false_iff_ne];omega
    have hs0:TxtR w false D (.slice none 0 0) (.int .i64 (j:Int)) w:=⟨D.length,Nat.le_refl _,by rw [hDl];congr 1;omega,by rw [txtP_start];exact World.ownsRow_nil _ _ _ _,Below.refl _ _⟩
    have HS0:=Lib.hid hs0
    clear htop hV hD hDl hDc hD10 hfin hs0 hy0 hy
    go_upto_if 24 with (fail)
    go_cut [6] (fun v wx => TxtR w neg D v (.int .i64 (j:Int)) wx)
    case first => as_aux_lemma =>
     cases neg with
     | false =>
      go_wp2_with fail
      go_meet
      exact HS0.out
     | true =>
      go_wp2_with (at_builtin;refine wpList_append1 _ rfl (.tmp 25) (.tmp 26) 45 rfl w.heap.size 5 i0 (.int .u8 0) 1 Tryz.underlying45 hi hz0 hz1 hz2 rfl _ _ _ rfl (World.ownsRow_nil _ _ _ _) ⟨w.heap.size,0,none⟩ 1 (.int .u8 45) rfl ?c1 rfl ?c3 ?c4 ?c5 ?_)
      case c3 => unfold maxLen;omega
      intro v1 w1 ho1 hg1 hne1 hpl1
      have n1:Hid (Below w.heap.size w w1):=((Below.refl _ _).alloc (Nat.le_refl _) _).grown hg1 (by simp) (fun k hk => by simp [Value.ownBlock] at hk)
      have HO1:=Lib.hid ho1
      clear ho1 hg1 hne1 hpl1
      go_wp2_with fail
      go_meet
      exact ⟨D.length,Nat.le_refl _,by rw [HDL.out];congr 1;omega,by rw [txtP_start];exact HO1.out,n1.out⟩
    case rest => as_aux_lemma =>
     have HST:=Lib.hid hcut
     clear hcut HS0
     go_wp2_with fail
     go_loopw [6,7] (TxtR w neg D) (fun _ i _ => (intOf i+1).toNat)
     case atStart => exact HST.out
     case round =>
      obtain ⟨i,hin,rfl,ho,hb⟩:=hrel
      have HO:=Lib.hid ho
      have HB:=Lib.hid hb
      clear ho hb
      by_cases hi0:1≤i
      ·obtain ⟨e,rfl⟩:∃ e,i=e+1:=⟨i - 1,by omega⟩
       rw [show (((e+1:Nat):Int) - 1)=(e:Int) by omega]
       have hel:e < j+1:=by have:=HDL.out;omega
       have hce:=(HB.out.cell (p:=⟨g,o+e,none⟩) hg).trans (HDC.out e hel)
       obtain ⟨x,hx⟩:∃ x,x=D.getD e 0:=⟨_,rfl⟩
       rw [← hx] at hce
       have hx10:x < 10:=by rw [hx];exact digD_lt D e HD10.out
       have hst:=txtP_step neg D e (by omega)
       rw [← hx] at hst
       have HSTP:=Lib.hid hst
       have hdg:((dgB x).toNat:Int)=48+(x:Int):=by rw [dgB_toNat hx10];omega
       have HDG:=Lib.hid hdg
       have hlen:=txtP_len neg D (e+1) hin
       clear hx hst hdg
       obtain ⟨Q,hQ⟩:∃ Q,Q=txtP neg D (e+1):=⟨_,rfl⟩
       have HO':=HO.out
       rw [← hQ] at HO' hlen HSTP
       have HO2:=Lib.hid HO'
       clear HO' HO hQ
       have hq2:Q.length≤900001:=by have:=HDL.out;omega
       go_wp2_with (at_builtin;refine wpList_append1 _ rfl (.tmp 34) (.tmp 41) 45 rfl w.heap.size 5 i0 (.int .u8 0) 1 Tryz.underlying45 hi hz0 hz1 hz2 rfl _ _ _ rfl (HO2.out.alloc _) ⟨wr.heap.size,0,none⟩ 1 (.int .u8 ((dgB x).toNat:Int)) rfl ?d1 rfl ?d3 ?d4 ?d5 ?_)
       case d1 => rw [HDG.out];simp
       case d3 => unfold maxLen;omega
       case d4 => omega
       case d5 => have:=HB.out.size;simp;omega
       intro v1 w1 ho1 hg1 hne1 hpl1
       have n1:Below w.heap.size w w1:=(HB.out.alloc HB.out.size _).grown hg1 (by have:=HB.out.size;simp;omega) (fun k hk => (HO2.out.lt k hk).1)
       rw [bytesV_snoc,HSTP.out] at ho1
       have hl2:Q.length+1=(txtP neg D e).length:=by rw [← HSTP.out];simp
       rw [hl2] at ho1
       have HO1:=Lib.hid ho1
       have N1:=Lib.hid n1
       clear ho1 n1 hg1 hne1 hpl1 hl2
       go_wp2_with fail
       go_roundw
       case rel => exact ⟨e,by omega,rfl,HO1.out,N1.out⟩
       case measure => simp [intOf] <;> omega
      ·obtain rfl:i=0:=by omega
       have hcv:=conv_own HO.out 129 Tryz.underlying129
       rw [HFIN.out] at hcv
       go_wp2_with fail
       go_ret
       exact ⟨rfl,HB.out⟩
  ·obtain rfl:k=0:=by omega
   have hz:dval la=0:=by have:=HV.out;simpa [dval] using this.symm
   have e0:txtZ (if neg then -(dval la:Int) else (dval la:Int))=[48]:=by rw [hz];cases neg <;> rfl
   have HE0:Hid (Z=[48]):=by show _=_;rw [HZ.out,e0]
   clear hz e0
   go_wp2_with fail
   go_ret
   exact ⟨by rw [HE0.out];rfl,Below.refl _ _⟩
end Go.Proofs.YtijkefflpojmhaaGreatDoor

namespace Go.Proofs.YtijkefflpojmhaaGreatDoor
open Go.RowKit
def revAt (l:List UInt8) (i:Nat):List UInt8:=(List.range l.length).map fun k => if k < i ∨ l.length≤k+i then l.getD (l.length - 1 - k) 0 else l.getD k 0
theorem revAt_length (l:List UInt8) (i:Nat):(revAt l i).length=l.length:=by simp [revAt]
theorem revAt_get (l:List UInt8) (i k:Nat) (h:k < l.length):(revAt l i)[k]? = some (if k < i ∨ l.length≤k+i then l.getD (l.length - 1 - k) 0 else l.getD k 0):=by
 simp [revAt,h]
theorem revAt_start (l:List UInt8):revAt l 0=l:=by
 apply List.ext_getElem?
 intro k
 by_cases h:k < l.length
 ·rw [revAt_get l 0 k h,if_neg (by omega),List.getD_eq_getElem?_getD,List.getElem?_eq_getElem h];rfl
 ·rw [List.getElem?_eq_none (by rw [revAt_length];omega),List.getElem?_eq_none (by omega)]
theorem revAt_end (l:List UInt8) (i:Nat) (hi:l.length≤i+i+1):revAt l i=l.reverse:=by
 apply List.ext_getElem?
 intro k
 by_cases h:k < l.length
 ·rw [revAt_get l i k h,List.getElem?_reverse h]
  by_cases hk:k < i ∨ l.length≤k+i
  ·rw [if_pos hk,List.getD_eq_getElem?_getD,List.getElem?_eq_getElem (by omega)];rfl
  ·rw [if_neg hk,List.getD_eq_getElem?_getD,show l.length - 1 - k=k by omega,List.getElem?_eq_getElem h];rfl
 ·rw [List.getElem?_eq_none (by rw [revAt_length];omega),List.getElem?_eq_none (by rw [List.length_reverse];omega)]
theorem revAt_step (l:List UInt8) (i:Nat) (hi:i+i+1 < l.length):((revAt l i).set i (l.getD (l.length - 1 - i) 0)).set (l.length - 1 - i) (l.getD i 0)=revAt l (i+1):=by
 apply List.ext_getElem?
 intro k
 by_cases h:k < l.length
 ·rw [revAt_get l (i+1) k h,List.getElem?_set,List.getElem?_set,List.length_set,revAt_length]
  by_cases h1:l.length - 1 - i=k
  ·rw [if_pos h1,if_pos (by omega),if_pos (by omega),show l.length - 1 - k=i by omega]
  ·rw [if_neg h1]
   by_cases h2:i=k
   ·subst h2
    rw [if_pos rfl,if_pos (by omega),if_pos (by omega)]
   ·rw [if_neg h2,revAt_get l i k h]
    by_cases h3:k < i ∨ l.length≤k+i
    ·rw [if_pos h3,if_pos (by omega)]
    ·rw [if_neg h3,if_neg (by omega)]
 ·rw [List.getElem?_eq_none (by simp [revAt_length];omega),List.getElem?_eq_none (by rw [revAt_length];omega)]
theorem revAt_mid (l:List UInt8) (i:Nat) (hi:i+i+1 < l.length):(revAt l i)[i]? = some (l.getD i 0)∧(revAt l i)[l.length - 1 - i]? = some (l.getD (l.length - 1 - i) 0):=by
 rw [revAt_get _ _ _ (by omega),revAt_get _ _ _ (by omega),if_neg (by omega),if_neg (by omega)]
 exact ⟨rfl,rfl⟩
def WrAt (l ds:List Nat) (k:Nat):Prop:=ds.length=9*k∧(∀ x ∈ ds,x < 10)∧dval ds=val (l.take k)
def WrIn (l ds:List Nat) (k i t:Nat):Prop:=ds.length=9*k+i∧(∀ x ∈ ds,x < 10)∧t < 10 ^ (9 - i)∧dval ds+10 ^ (9*k+i)*t=val (l.take (k+1))
theorem wr_start (l:List Nat):WrAt l [] 0:=⟨rfl,by simp,by simp [dval,val]⟩
theorem Bs_pow (k:Nat):Bs ^ k=10 ^ (9*k):=by rw [Bs_eq,show 1000000000=10 ^ 9 by rfl,← Nat.pow_mul]
theorem wr_in (l ds:List Nat) (k:Nat) (hl:∀ x ∈ l,x < Bs) (h:WrAt l ds k):WrIn l ds k 0 (l.getD k 0):=by
 obtain ⟨h1,h2,h3⟩:=h
 refine ⟨h1,h2,?_,?_⟩
 ·have:=getD_lt l k hl;rw [Bs_eq] at this;exact this
 ·rw [h3,val_take,Bs_pow];rfl
theorem wr_step (l ds:List Nat) (k i t:Nat) (hi:i < 9) (h:WrIn l ds k i t):WrIn l (ds ++ [t % 10]) k (i+1) (t / 10):=by
 obtain ⟨h1,h2,h3,h4⟩:=h
 refine ⟨by simp [h1];omega,?_,?_,?_⟩
 ·intro x hx
  rcases List.mem_append.1 hx with hx | hx
  ·exact h2 x hx
  ·rw [List.mem_singleton.1 hx];omega
 ·rw [show 9 - i=(9 - (i+1))+1 by omega,Nat.pow_succ] at h3;omega
 ·rw [dval_snoc,h1,← h4,← Nat.add_assoc,Nat.pow_succ]
  have:=Nat.div_add_mod t 10
  generalize 10 ^ (9*k+i)=P at *
  generalize t / 10=q at *
  generalize t % 10=r at *
  generalize dval ds=D at *
  grind
theorem wr_out (l ds:List Nat) (k t:Nat) (h:WrIn l ds k 9 t):WrAt l ds (k+1):=by
 obtain ⟨h1,h2,h3,h4⟩:=h
 have:t=0:=by simpa using h3
 subst this
 exact ⟨by omega,h2,by simpa using h4⟩
theorem bytesV_set (l:List UInt8) (i:Nat) (b:UInt8):(bytesV l).set i (.int .u8 (b.toNat:Int))=bytesV (l.set i b):=by simp [bytesV,List.map_set]
theorem bytesV_at (l:List UInt8) (i:Nat) (b:UInt8) (h:l[i]? = some b):(bytesV l)[i]? = some (.int .u8 (b.toNat:Int)):=by
 unfold bytesV;rw [List.getElem?_map,h];rfl
def RevR (w:World) (g n:Nat) (l:List UInt8) (iv jv:Value) (wr:World):Prop :=
 ∃ i:Nat,i+i≤n∧iv = .int .i64 i∧jv = .int .i64 ((n:Int) - 1 - i)∧RowAt wr g 5 (bytesV (revAt l i))∧w.grownBy wr (some g)
def RevPost (w:World) (g:Nat) (l:List UInt8) (e:Ending) (w':World):Prop :=
 (∃ v,e = .returned v)∧RowAt w' g 5 (bytesV l.reverse)∧w.grownBy w' (some g)
set_option maxHeartbeats 1000000 in
set_option maxRecDepth 100000 in
theorem reverse_any (g n c:Nat) (l:List UInt8) (w:World) (hl:l.length=n) (hn:n≤1000000) (h:RowAt w g 5 (bytesV l)) :
  Calls Tryz.prog 137 #[.slice (some ⟨g,0,none⟩) n c] w (RevPost w g l):=by
 have hst:RevR w g n l (.int .i64 0) (.int .i64 ((n:Int) - 1)) w:=⟨0,Nat.zero_le _,rfl,by simp,by rw [revAt_start];exact h,only_refl _ _⟩
 have HST:=Lib.hid hst
 have HL:=Lib.hid hl
 clear h hl hst
 go_enter Tryz.func137,Tryz.ntmps137
 go_wp2_with fail
 go_loopw [2,3] (RevR w g n l) (fun i _ _ => n - (intOf i).toNat)
 case atStart => exact HST.out
 case round =>
  obtain ⟨w1,rfl⟩:∃ w1:World,w1=wr:=⟨_,rfl⟩
  obtain ⟨i,hin,rfl,rfl,hr,hg⟩:=hrel
  by_cases hlt:i+i+1 < n
  ·obtain ⟨k,hk⟩:∃ k:Nat,k=n - 1 - i:=⟨_,rfl⟩
   have hkI:(n:Int) - 1 - (i:Int)=(k:Int):=by omega
   have hmid:=revAt_mid l i (by rw [HL.out];exact hlt)
   have hstp:=revAt_step l i (by rw [HL.out];exact hlt)
   rw [HL.out,← hk] at hmid hstp
   obtain ⟨x,hx⟩:∃ x,x=l.getD i 0:=⟨_,rfl⟩
   obtain ⟨y,hy⟩:∃ y,y=l.getD k 0:=⟨_,rfl⟩
   rw [← hx,← hy] at hmid hstp
   have hlen:(bytesV (revAt l i)).length=n:=by rw [bytesV_length,revAt_length];exact HL.out
   have hki:i < k:=by omega
   have hkn:k < n:=by omega
   have c1:w1.cell? ⟨g,i,none⟩=some (.int .u8 (x.toNat:Int)):=by rw [hr.cell (by omega)];exact bytesV_at _ _ _ hmid.1
   have c2:w1.cell? ⟨g,k,none⟩=some (.int .u8 (y.toNat:Int)):=by rw [hr.cell (by omega)];exact bytesV_at _ _ _ hmid.2
   have f1:∀ e,w1.frozen? ⟨g,e,none⟩=false:=fun e => hr.frozen e
   have HR:=Lib.hid hr
   have HG:=Lib.hid hg
   have HS:=Lib.hid hstp
   have hk1:n - 1 - i≤k:=by omega
   rw [hkI]
   have hkI2:(k:Int)=(n:Int) - 1 - i:=hkI.symm
   have HKI:=Lib.hid hkI2
   clear hr hg hstp hmid hk hx hy hlen hkI hkI2
   go_wp2_with fail
   go_region
   all_goals
    go_wp2_with fail
    go_roundw
    case measure => simp [intOf] <;> omega
    case rel =>
     refine ⟨i+1,by omega,by go_num,by rw [HKI.out];congr 1;omega,?_,?_⟩
     ·have h1:=(HR.out.set i (.int .u8 (y.toNat:Int))).set k (.int .u8 (x.toNat:Int))
      rw [bytesV_set,bytesV_set,HS.out] at h1
      exact h1
     ·exact only_drewN (only_setCell (only_setCell HG.out (.inl rfl) _) (.inl rfl) _) 1
  ·have he:=revAt_end l i (by rw [HL.out];omega)
   rw [he] at hr
   have HR:=Lib.hid hr
   have HG:=Lib.hid hg
   clear hr hg he
   have hij:(n:Int) - 1 - (i:Int)≤i:=by omega
   go_wp2_with fail
   go_end0
   exact ⟨⟨_,rfl⟩,HR.out,HG.out⟩
end Go.Proofs.YtijkefflpojmhaaGreatDoor

namespace Go.Proofs.YtijkefflpojmhaaGreatDoor
open Go.RowKit
def WritePost (w:World) (z:Int) (e:Ending) (w':World):Prop :=
 ((bigZ z=true∧e = .returned (.tuple #[.string ByteArray.empty,.int .i64 14])) ∨ (bigZ z=false∧e = .returned (.tuple #[.string ⟨(txtZ z).toArray⟩,.int .i64 0])))∧Below w.heap.size w w'
def bytesD (ds:List Nat):List Value:=bytesV (ds.map dgB)
theorem bytesD_length (ds:List Nat):(bytesD ds).length=ds.length:=by simp [bytesD,bytesV]
theorem bytesD_snoc (ds:List Nat) (d:Nat) (h:d < 10):bytesD ds ++ [.int .u8 ((48:Int)+(d:Int))]=bytesD (ds ++ [d]):=by
 have:((dgB d).toNat:Int)=(48:Int)+(d:Int):=by rw [dgB_toNat h];omega
 unfold bytesD bytesV
 simp [this]
theorem bytesD_get (ds:List Nat) (i:Nat) (hi:i < ds.length) (h:∀ x ∈ ds,x < 10):(bytesD ds)[i]? = some (.int .u8 ((48:Int)+((ds.getD i 0:Nat):Int))):=by
 unfold bytesD bytesV
 have h1:ds.getD i 0 < 10:=digD_lt ds i h
 have:((dgB (ds.getD i 0)).toNat:Int)=(48:Int)+((ds.getD i 0:Nat):Int):=by rw [dgB_toNat h1];omega
 rw [← this,List.getD_eq_getElem?_getD,List.getElem?_eq_getElem hi]
 simp [hi]
theorem bytesD_take (ds:List Nat) (k:Nat):(bytesD ds).take k=bytesD (ds.take k):=by simp [bytesD,bytesV,List.map_take]
def WrO (w W0:World) (l:List Nat) (n:Nat) (bv iv:Value) (wr:World):Prop :=
 ∃ (k:Nat) (ds:List Nat),k≤n∧iv = .int .i64 k∧wr.ownsRow W0.heap.size 5 1 bv ds.length (bytesD ds)∧WrAt l ds k∧Below W0.heap.size W0 wr∧Below w.heap.size w wr
def WrJ (w W0:World) (l:List Nat) (k:Nat) (bv tv jv:Value) (wr:World):Prop :=
 ∃ (i t:Nat) (ds:List Nat),i≤9∧jv = .int .i64 i∧tv = .int .u32 t∧t < 1000000000∧wr.ownsRow W0.heap.size 5 1 bv ds.length (bytesD ds)∧WrIn l ds k i t∧Below W0.heap.size W0 wr∧Below w.heap.size w wr
def WrT (g c:Nat) (ds:List Nat) (bv:Value):Prop := ∃ k:Nat,1≤k∧k≤ds.length∧bv = .slice (some ⟨g,0,none⟩) k c∧dval (ds.take k)=dval ds
def WrC (w:World) (z:Int) (v:Value) (wx:World):Prop :=
 ∃ g c bs,v = .slice (some ⟨g,0,none⟩) (bs:List UInt8).length c∧RowAt wx g 5 (bytesV bs)∧bs.reverse=txtZ z∧bs.length≤460000∧w.heap.size≤g∧Below w.heap.size w wx
theorem conv_row {w:World} {g c:Nat} {l:List UInt8} (h:RowAt w g 5 (bytesV l)) (dst:TypeId) (hd:Tryz.prog.underlying dst=some .string) :
  (convert 45 dst (.slice (some ⟨g,0,none⟩) l.length c)).run Tryz.prog w = .ok (.string ⟨l.toArray⟩) w :=
 run_convert_bytes_back (P:=Tryz.prog) w 45 dst 5 ⟨g,0,none⟩ c l Tryz.underlying45 Tryz.underlying5 hd (fun j hj => by
  rw [add_plain,Nat.zero_add,h.cell (by rw [bytesV_length];exact hj),bytesV_get l j hj])
set_option maxHeartbeats 2000000 in
set_option maxRecDepth 100000 in
theorem write_any (neg:Bool) (a:Option Addr) (n c N:Nat) (l:List Nat) (w:World) (hl:l.length=n) (hn:n≤50000) (hr:Rep l N) (ha:Nums .u32 w a l) :
  Calls Tryz.prog 125 #[.agg #[.bool neg,.slice a n c]] w (WritePost w (if neg=true then -(N:Int) else (N:Int))):=by
 obtain ⟨i0,hi,hz0,hz1,hz2⟩:=info_parts infoU8
 obtain ⟨z,hz⟩:∃ z,z=(if neg=true then -(N:Int) else (N:Int)):=⟨_,rfl⟩
 rw [← hz]
 have HZ:=Lib.hid hz
 have HL:=Lib.hid hl
 have HR:=Lib.hid hr
 have HA:=Lib.hid ha
 clear hz hl hr ha
 by_cases h0:n < 1
 ·have hz0':z=0:=by
   have hN:N=0:=by
    have h1:=HR.out.2.2
    rw [List.eq_nil_of_length_eq_zero (l:=l) (by have:=HL.out;omega)] at h1
    simpa [val] using h1.symm
   rw [HZ.out,hN];cases neg <;> rfl
  have t1:((n:Int) == 0)=true:=by rw [beq_iff_eq];omega
  have hzb:bigZ z=false:=by rw [hz0'];rfl
  have HZB:=Lib.hid hzb
  have HZ0:=Lib.hid hz0'
  clear hz0' hzb
  go_enter Tryz.func125,Tryz.ntmps125
  go_wp2_with fail
  go_ret2
  exact ⟨.inr ⟨HZB.out,by rw [HZ0.out];rfl⟩,(Below.refl _ _).alloc (Nat.le_refl _) _⟩
 ·have t1:((n:Int) == 0)=false:=by rw [beq_eq_false_iff_ne];omega
  obtain ⟨W0,hW0⟩:∃ W0,W0=w.alloc (.cells #[.bool neg,.slice a n c] 151):=⟨_,rfl⟩
  have hbx:=rowAt_alloc (w:=w) (c := #[.bool neg,.slice a n c]) (t:=151) rfl rfl
  rw [← hW0] at hbx
  have hsz:w.heap.size < W0.heap.size:=hbx.lt
  have hb0:Below w.heap.size w W0:=by rw [hW0];exact (Below.refl _ _).alloc (Nat.le_refl _) _
  have hNp:0 < N:=by
   have h1:=HR.out
   rw [← h1.2.2]
   refine val_pos l h1.2.1 (fun h => ?_)
   have:=HL.out
   rw [h] at this;simp at this;omega
  have hst:WrO w W0 l n (.slice none 0 0) (.int .i64 0) W0:=⟨0,[],Nat.zero_le _,rfl,World.ownsRow_nil _ _ _ _,wr_start l,Below.refl _ _,hb0⟩
  have HST:=Lib.hid hst
  have HBX:=Lib.hid hbx
  have HB0:=Lib.hid hb0
  have HW0:=Lib.hid hW0
  have HNP:=Lib.hid hNp
  clear hst hbx hb0 hW0 hNp
  go_enter Tryz.func125,Tryz.ntmps125
  go_wp2_with fail
  rw [← HW0.out]
  go_loopw [4,14] (WrO w W0 l n) (fun _ i _ => n - (intOf i).toNat)
  case atStart => exact HST.out
  case round =>
   obtain ⟨w1,rfl⟩:∃ w1:World,w1=wr:=⟨_,rfl⟩
   obtain ⟨k,ds,hkn,rfl,ho,hat,hb1,hb2⟩:=hrel
   have HO:=Lib.hid ho
   have HT:=Lib.hid hat
   have HB1:=Lib.hid hb1
   have HB2:=Lib.hid hb2
   clear ho hat hb1 hb2 HST
   by_cases hlt:k < n
   ·obtain ⟨g,og,rfl,hg,hc⟩:=HA.out.below HB2.out k (by have:=HL.out;omega)
    obtain ⟨x,hx⟩:∃ x,x=l.getD k 0:=⟨_,rfl⟩
    rw [← hx] at hc
    have hxb:x < 1000000000:=by rw [hx];exact getD_lt l k HR.out.1
    have hst:WrJ w W0 l k u4 (.int .u32 x) (.int .i64 0) w1:=⟨0,x,ds,by omega,rfl,rfl,hxb,HO.out,by rw [hx];exact wr_in l ds k HR.out.1 HT.out,HB1.out,HB2.out⟩
    have HST2:=Lib.hid hst
    clear hst hx HO HT
    go_wp2_with fail
    go_loopw [4,6,18] (WrJ w W0 l k) (fun _ _ j _ => 9 - (intOf j).toNat)
    case atStart => exact HST2.out
    case round =>
     obtain ⟨w2,rfl⟩:∃ w2:World,w2=wr:=⟨_,rfl⟩
     obtain ⟨i,t,ds,hi9,rfl,rfl,htb,ho,hat,hb1,hb2⟩:=hrel
     have HO:=Lib.hid ho
     have HT:=Lib.hid hat
     have HB3:=Lib.hid hb1
     have HB4:=Lib.hid hb2
     have hdl:ds.length≤450009:=by have:=hat.1;omega
     clear ho hat hb1 hb2 HST2
     by_cases hlt2:i < 9
     ·have hstp:=wr_step l ds k i t hlt2 HT.out
      obtain ⟨d,hd⟩:∃ d,d=t % 10:=⟨_,rfl⟩
      obtain ⟨q,hq⟩:∃ q,q=t / 10:=⟨_,rfl⟩
      rw [← hd,← hq] at hstp
      have hdI:(t:Int) % 10=(d:Int):=by omega
      have hqI:(t:Int) / 10=(q:Int):=by omega
      have hdb:d < 10:=by omega
      have hqb:q < 1000000000:=by omega
      have HSTP:=Lib.hid hstp
      have HDI:=Lib.hid hdI
      have HQI:=Lib.hid hqI
      obtain ⟨m,hm⟩:∃ m,m=ds.length:=⟨_,rfl⟩
      have HO':=HO.out
      rw [← hm] at HO' hdl
      have HO2:=Lib.hid HO'
      have HM:=Lib.hid hm
      clear hstp hd hq hqI HO' HO hm
      go_wp2_with (at_builtin;refine wpList_append1 _ rfl (.tmp 20) (.tmp 25) 45 rfl W0.heap.size 5 i0 (.int .u8 0) 1 Tryz.underlying45 hi hz0 hz1 hz2 rfl _ _ _ rfl (HO2.out.alloc _) ⟨w2.heap.size,0,none⟩ 1 (.int .u8 ((48:Int)+(d:Int))) rfl ?c1 rfl ?c3 ?c4 ?c5 ?_)
      case c1 => simp
      case c3 => unfold maxLen;omega
      case c4 => omega
      case c5 => have:=HB3.out.size;simp;omega
      intro v3 w3 ho3 hg3 hne3 hpl3
      have n3:Below W0.heap.size W0 w3:=(HB3.out.alloc HB3.out.size _).grown hg3 (by have:=HB3.out.size;simp;omega) (fun k hk => (HO2.out.lt k hk).1)
      have n4:Below w.heap.size w w3:=(HB4.out.alloc HB4.out.size _).grown hg3 (by have:=HB4.out.size;simp;omega) (fun k hk => by have:=(HO2.out.lt k hk).1;omega)
      rw [bytesD_snoc ds d hdb] at ho3
      have HO3:=Lib.hid ho3
      have N3:=Lib.hid n3
      have N4:=Lib.hid n4
      clear ho3 hg3 hne3 hpl3 n3 n4 hdI
      go_wp2_with fail
      go_roundw
      case rel => exact ⟨i+1,q,ds ++ [d],by omega,by go_num,by rw [HQI.out],by omega,by rw [List.length_append,← HM.out];exact HO3.out,HSTP.out,N3.out,N4.out⟩
      case measure => simp [intOf] <;> omega
     ·obtain rfl:i=9:=by omega
      have hout:=wr_out l ds k t HT.out
      have HOUT:=Lib.hid hout
      clear hout
      go_wp2_with fail
      go_roundw
      case rel => exact ⟨k+1,ds,by omega,by go_num,HO.out,HOUT.out,HB3.out,HB4.out⟩
      case measure => simp [intOf] <;> omega
   ·obtain rfl:k=n:=by omega
    have hdv:dval ds=N:=by rw [HT.out.2.2,List.take_of_length_le (by have:=HL.out;omega)];exact HR.out.2.2
    have hdl:ds.length=9*k:=HT.out.1
    have hd10:=HT.out.2.1
    rcases rowAt_of_owns HO.out with ⟨_,hz,_⟩ | ⟨g,cb,rfl,hg,hcb,hcm,_,hrow⟩
    ·omega
    obtain ⟨m,hm⟩:∃ m,m=ds.length:=⟨_,rfl⟩
    rw [← hm] at hdl
    have HO':=HO.out
    rw [← hm] at HO' hcb ⊢
    have HO2:=Lib.hid HO'
    have HROW:=Lib.hid hrow
    have HDV:=Lib.hid hdv
    have HD10:=Lib.hid hd10
    have HM:=Lib.hid hm
    have hm1:1≤m:=by omega
    have hm2:m≤450000:=by omega
    clear HO HO' hrow hdv hd10 hdl hm
    go_wp2_with fail
    go_loop [4] (WrT g cb ds) (fun v => match v with | .slice _ k _ => k | _ => 0)
    case atStart => exact ⟨m,hm1,by rw [HM.out];omega,rfl,by rw [HM.out,List.take_of_length_le (Nat.le_refl _)]⟩
    case round =>
     obtain ⟨e,he1,he2,rfl,hv⟩:=hrel
     rw [← HM.out] at he2
     obtain ⟨j,rfl⟩:∃ j,e=j+1:=⟨e - 1,by omega⟩
     have HV:=Lib.hid hv
     have hce:w1.cell? ⟨g,j,none⟩=some (.int .u8 ((48:Int)+((ds.getD j 0:Nat):Int))):=by
      rw [HROW.out.cell (by rw [bytesD_length,← HM.out];omega)]
      exact bytesD_get ds j (by rw [← HM.out];omega) HD10.out
     obtain ⟨y,hy⟩:∃ y,y=ds.getD j 0:=⟨_,rfl⟩
     rw [← hy] at hce
     have hyb:y < 10:=by rw [hy];exact digD_lt ds j HD10.out
     have HY:=Lib.hid hy
     clear hv hy
     by_cases hy0:y < 1
     ·have hst:=dtrim_step ds j HV.out (by rw [← HY.out];omega)
      have t2:(((48:Int)+(y:Int)) == 48)=true:=by rw [beq_iff_eq];omega
      have hj1:1≤j:=by
       rcases Nat.eq_zero_or_pos j with h | h
       ·exfalso
        rw [h] at hst
        have:=HNP.out
        rw [HDV.out] at hst
        simp [dval] at hst;omega
       ·exact h
      have HSTP:=Lib.hid hst
      clear hst
      go_wp2_with fail
      go_round
      case rel => exact ⟨j,hj1,by rw [← HM.out];omega,rfl,HSTP.out⟩
      case measure => simp
     ·have t2:(((48:Int)+(y:Int)) == 48)=false:=by rw [beq_eq_false_iff_ne];omega
      have htop:=(top_dig ds j (by rw [← HM.out];omega) HD10.out HV.out (by rw [← HY.out];omega)).1
      rw [HDV.out] at htop
      have hlen:(decN N).length=j+1:=by rw [htop,List.length_take,← HM.out];omega
      have hbz:bigZ z=decide (1000 < j+1):=by
       unfold bigZ
       rw [HZ.out]
       cases neg
       ·simp [hlen]
       ·simp [hlen]
      have HTOP:=Lib.hid htop
      have HBZ:=Lib.hid hbz
      clear htop hlen hbz
      by_cases hbig:1000 < j+1
      ·have e:bigZ z=true:=by rw [HBZ.out];simpa using hbig
       have E:=Lib.hid e
       have t3:decide ((1000:Int) < (j:Int)+1)=true:=by simp;omega
       clear e
       go_wp2_with fail
       go_ret2
       exact ⟨.inl ⟨E.out,rfl⟩,HB2.out⟩
      ·have e:bigZ z=false:=by rw [HBZ.out];simpa using hbig
       have E:=Lib.hid e
       have t3:decide ((1000:Int) < (j:Int)+1)=false:=by simp;omega
       have hneg:w1.cell? ⟨w.heap.size,0,none⟩=some (.bool neg):=(HB1.out.cell (p:=⟨w.heap.size,0,none⟩) hsz).trans (HBX.out.cell (i:=0) (by simp))
       have hown:=ownsRow_take HO2.out (show j+1≤m by omega)
       rw [bytesD_take,← HTOP.out] at hown
       have HOWN:=Lib.hid hown
       clear e hown
       go_upto_if 47 with (fail)
       go_cut [4] (fun v wx => WrC w z v wx)
       case first => as_aux_lemma =>
        have hjl:(decN N).length=j+1:=by rw [HTOP.out,List.length_take,← HM.out];omega
        cases neg with
        | false =>
         have hfin:WrC w z (.slice (some ⟨g,0,none⟩) (j+1) cb) w1:=by
          refine ⟨g,cb,(decN N).map dgB,by rw [List.length_map,hjl],?_,?_,by rw [List.length_map,hjl];omega,by omega,HB2.out⟩
          ·rcases rowAt_of_owns HOWN.out with ⟨h,_⟩ | ⟨g',c',h,_,_,_,_,hr⟩
           ·injection h with h;cases h
           ·injection h with h;injection h with h;injection h with h
            subst h;exact hr
          ·rw [HZ.out];simp [txtZ_pos,txtN]
         have HF:=Lib.hid hfin
         clear hfin hjl
         go_wp2_with fail
         go_meet
         exact HF.out
        | true =>
         go_wp2_with (at_builtin;refine wpList_append1 _ rfl (.tmp 48) (.tmp 49) 45 rfl W0.heap.size 5 i0 (.int .u8 0) 1 Tryz.underlying45 hi hz0 hz1 hz2 rfl _ _ _ rfl (HOWN.out.alloc _) ⟨w1.heap.size,0,none⟩ 1 (.int .u8 45) rfl ?d1 rfl ?d3 ?d4 ?d5 ?_)
         case d3 => unfold maxLen;omega
         case d4 => omega
         case d5 => have:=HB1.out.size;simp;omega
         intro v4 w4 ho4 hg4 hne4 hpl4
         have n4:Below w.heap.size w w4:=(HB2.out.alloc HB2.out.size _).grown hg4 (by have:=HB2.out.size;simp;omega) (fun k hk => by have:=(HOWN.out.lt k hk).1;omega)
         have hfin:WrC w z v4 w4:=by
          rcases rowAt_of_owns ho4 with ⟨_,h,_⟩ | ⟨g',c',h,hgB,_,_,_,hr⟩
          ·omega
          ·refine ⟨g',c',(decN N).map dgB ++ [45],by rw [h,List.length_append,List.length_map,hjl];rfl,?_,?_,by rw [List.length_append,List.length_map,hjl];simp;omega,by omega,n4⟩
           ·have:bytesD (decN N) ++ [.int .u8 45]=bytesV ((decN N).map dgB ++ [45]):=by simp [bytesD,bytesV]
            rw [this] at hr;exact hr
           ·have hzn:z = -(N:Int):=by have:=HZ.out;simpa using this
            rw [hzn,txtZ_neg HNP.out];simp [txtN]
         have HF:=Lib.hid hfin
         clear ho4 hg4 hne4 hpl4 n4 hfin hjl
         go_wp2_with fail
         go_meet
         exact HF.out
       case rest => as_aux_lemma =>
        obtain ⟨g5,c5,bs,rfl,hr5,htx,hbl,hg5,hb5⟩:=hcut
        have HR5:=Lib.hid hr5
        have HTX:=Lib.hid htx
        have HB5:=Lib.hid hb5
        have hlt5:=hr5.lt
        obtain ⟨w5,hw5⟩:∃ w5:World,w5=wc:=⟨_,rfl⟩
        subst hw5
        have hrev:=reverse_any g5 bs.length c5 bs w5 rfl (by omega) hr5
        have HREV:=Lib.hid hrev
        clear hr5 htx hb5 hrev hlt5
        go_wp2_with fail
        refine HREV.out.mono ?_
        rintro e w6 ⟨⟨v6,rfl⟩,hr6,hg6⟩
        have hcv:=conv_row (c:=c5) hr6 129 Tryz.underlying129
        rw [List.length_reverse,HTX.out] at hcv
        have hb6:Below w.heap.size w w6:=below_only HB5.out hg6 HB5.out.size hg5
        have HB6:=Lib.hid hb6
        clear hr6 hg6 hb6
        go_wp2_with fail
        go_ret2
        exact ⟨.inr ⟨E.out,rfl⟩,HB6.out⟩
end Go.Proofs.YtijkefflpojmhaaGreatDoor

namespace Go.Proofs.YtijkefflpojmhaaGreatDoor
open Go.RowKit Go.Shelf
attribute [local go_sem] Oper.semAt_some
def chunk (t:ByteArray) (k:Nat):ByteArray:=t.extract (t.size - 9*(k+1)) (t.size - 9*k)
def KeepBox (B:Nat) (W W':World):Prop:=W'.heap[B]? = W.heap[B]?
theorem keepBox_t {B:Nat} {W1 W2 W3:World} (h:KeepBox B W1 W2) (k:KeepBox B W2 W3):KeepBox B W1 W3:=k.trans h
theorem keepBox_b {B:Nat} {w:World} (hB:B < w.heap.size) (W:World) (l:Nat) (o o':Obj) (hl:w.heap.size≤l) (h:W.heap[l]? = some o) (_ho:o.isCells=false) (_:o.isWalk=false):KeepBox B W (W.putObj l o'):=by
 have hlt:=(Array.getElem?_eq_some_iff.1 h).1
 by_cases hb:B < W.heap.size
 ·exact (grownBy_putObj' W l o').block B hb (by intro e;injection e with e;omega)
 ·unfold KeepBox
  rw [Array.getElem?_eq_none (by omega),Array.getElem?_eq_none (by have:=(grownBy_putObj' W l o').size;omega)]
theorem range_succ' (k:Nat):List.range k ++ [k]=List.range (k+1):=List.range_succ.symm
theorem range_prefix {k m:Nat} (h:k≤m):List.range k <+: List.range m:=by
 refine ⟨(List.range' k (m - k)),?_⟩
 rw [List.range_eq_range',List.range_eq_range']
 have:=List.range'_append (s:=0) (m:=k) (n:=m - k) (step:=1)
 simp only [Nat.zero_add,Nat.one_mul] at this
 rw [this];congr 1;omega
set_option maxRecDepth 100000 in
set_option maxHeartbeats 2000000 in
theorem groups1_in (F:Fence) (n:Nat) (hF:F.fn 145) (hro:F.round=none) (hn:1≤n) (l Bs m:Nat) (t:ByteArray) (hs:t.size≤1000000) (hm1:t.size≤9*m) (hm2:9*m < t.size+9) (J Jx:List Nat→World→Prop)
  (hY:∀ pre x W,J pre W→pre.length < m→YieldAt F (n - 1) Tryz.prog l #[.string (chunk t x)] W fun e W' =>
   (e = .returned (.bool true)∧J (pre ++ [x]) W' ∧ KeepBox Bs W W') ∨ (e = .returned (.bool false)∧Jx (pre ++ [x]) W'))
  (W:World) (hBs:Boxed W Bs 9 (.string t)) (h0:J [] W) :
  CallsIn F n Tryz.prog 145 #[.func (.yield l) #[] #[],.pointer (some ⟨Bs,0,none⟩)] W fun e W' => (∃ v,e = .returned v) ∧
   ((∃ ys,ys=List.range m∧J ys W') ∨ (∃ pre,pre <+: List.range m∧Jx pre W')):=by
 refine callsIn_of_wp Tryz.func145 rfl hF ?_ hro
 simp only [Tryz.ntmps145,List.size_toArray,List.length_cons,List.length_nil,Nat.reduceAdd,Nat.reduceSub,Array.replicate_succ,Array.replicate_zero,List.push_toArray,List.append_toArray,List.nil_append,List.cons_append]
 have hc0:=hBs.cell
 gi_wp2
 clear hc0
 gi_loopw [3] (fun i wr => ∃ k:Nat,k≤m∧i = .int .i64 ((t.size:Int) - 9*(k:Int))∧J (List.range k) wr∧Boxed wr Bs 9 (.string t))
  (fun i _ => (intOf i+9).toNat)
 case atStart => exact ⟨0,Nat.zero_le _,by simp,h0,hBs⟩
 case round =>
  obtain ⟨k,hk,rfl,hJs,hnx⟩:=hrel
  have hcx:wr.cell? ⟨Bs,0,none⟩=some (.string t):=hnx.cell
  by_cases hlt:k < m
  ·obtain ⟨e,he⟩:∃ e,e=t.size - 9*k:=⟨_,rfl⟩
   have he1:1≤e:=by omega
   have heI:((t.size:Int) - 9*(k:Int))=(e:Int):=by omega
   have hes:e≤t.size:=by omega
   obtain ⟨fn,tmps,assign,body,hy,hR⟩:=hY _ k wr hJs (by simpa using hlt)
   have hch:chunk t k=t.extract (e - 9) e:=by unfold chunk;rw [he];congr 1
   rw [hch] at hy
   rw [heI]
   have HCH:=Lib.hid hch
   have HE:=Lib.hid he
   have HEI:=Lib.hid heI
   clear hch he heI hJs
   by_cases h9:10≤e
   ·obtain ⟨f,rfl⟩:∃ f,e=f+9:=⟨e - 9,by omega⟩
    rw [Nat.add_sub_cancel] at hy
    have hf:((f+9:Nat):Int)=(f:Int)+9:=by omega
    have hf1:1≤f:=by omega
    rw [hf]
    clear hf h9
    gi_wp2
    refine hR.mono ?_
    rintro ee W3 (⟨rfl,hJ3,hk3⟩ | ⟨rfl,hJx3⟩)
    ·gi_wp2
     go_roundw
     case rel => exact ⟨k+1,by omega,by congr 1;have:=HEI.out;omega,by rw [← range_succ'];exact hJ3,hk3.trans hnx⟩
     case measure => simp [intOf] <;> omega
    ·gi_wp2
     refine bodyPost_ret (results_none rfl _ _ _) rfl ?_
     exact ⟨⟨_,rfl⟩,.inr ⟨_,by rw [range_succ'];exact range_prefix (by omega),hJx3⟩⟩
   ·rw [show e - 9=0 by omega] at hy
    gi_wp2
    refine hR.mono ?_
    rintro ee W3 (⟨rfl,hJ3,hk3⟩ | ⟨rfl,hJx3⟩)
    ·gi_wp2
     go_roundw
     case rel => exact ⟨k+1,by omega,by congr 1;have:=HEI.out;omega,by rw [← range_succ'];exact hJ3,hk3.trans hnx⟩
     case measure => simp [intOf] <;> omega
    ·gi_wp2
     refine bodyPost_ret (results_none rfl _ _ _) rfl ?_
     exact ⟨⟨_,rfl⟩,.inr ⟨_,by rw [range_succ'];exact range_prefix (by omega),hJx3⟩⟩
  ·obtain rfl:k=m:=by omega
   have hle:((t.size:Int) - 9*(k:Int))≤0:=by omega
   gi_wp2
   go_end0
   exact ⟨⟨_,rfl⟩,.inl ⟨_,rfl,hJs⟩⟩
set_option maxHeartbeats 1000000 in
theorem groups_in (F:Fence) (n:Nat) (hF:F.fn 140) (hro:F.round=none) (t:ByteArray) (w:World) :
  CallsIn F n Tryz.prog 140 #[.string t] w fun e w' => e = .returned (.func (.func 145) #[] #[.pointer (some ⟨w.heap.size,0,none⟩)])∧w' = w.alloc (.cells #[.string t] 9):=by
 refine callsIn_of_wp Tryz.func140 rfl hF ?_ hro
 simp only [Tryz.ntmps140,List.size_toArray,List.length_cons,List.length_nil,Nat.reduceAdd,Nat.reduceSub,Array.replicate_succ,Array.replicate_zero,List.push_toArray,List.append_toArray,List.nil_append,List.cons_append]
 gi_wp2
 go_ret
 exact ⟨rfl,rfl⟩
theorem groups_stops (F:Fence) (n:Nat) (hF:F.fn 145) (hro:F.round=none) (hn:1≤n) (Bs m:Nat) (t:ByteArray) (hs:t.size≤1000000) (hm1:t.size≤9*m) (hm2:9*m < t.size+9) (w:World) (hc:Boxed w Bs 9 (.string t)) :
  SeqStopsK F n Tryz.prog 145 #[.pointer (some ⟨Bs,0,none⟩)] (fun x:Nat => #[Value.string (chunk t x)]) (KeepBox Bs) (fun ys => ys=List.range m) (fun pre => pre <+: List.range m) m w:=fun l J Jx W hW _ _ hY h0 =>
 groups1_in F n hF hro hn l Bs m t hs hm1 hm2 J Jx hY W ((hW.block Bs hc.lt).trans hc) h0
end Go.Proofs.YtijkefflpojmhaaGreatDoor

namespace Go.Proofs.YtijkefflpojmhaaGreatDoor
open Go.RowKit Go.Shelf
attribute [local go_sem] Oper.semAt_some
theorem dval_undig_snoc (l:List UInt8) (c:UInt8):dval (undig (l ++ [c]))=(c.toNat - 48)+10*dval (undig l):=by
 unfold undig;simp [dval]
theorem groups_val (D:List Nat) (m:Nat):val ((List.range m).map fun k => dval ((D.drop (9*k)).take 9))+Bs ^ m*dval (D.drop (9*m))=dval D:=by
 induction m with
 | zero => simp [val]
 | succ m ih =>
  rw [List.range_succ,List.map_append,List.map_cons,List.map_nil,val_snoc,List.length_map,List.length_range]
  have h1:=dval_split (D.drop (9*m)) 9
  rw [List.drop_drop,show 9*m+9=9*(m+1) by omega] at h1
  rw [h1] at ih
  rw [Nat.pow_succ]
  have hB:Bs=10 ^ 9:=rfl
  rw [← hB] at ih
  generalize val ((List.range m).map fun k => dval ((D.drop (9*k)).take 9))=V at *
  generalize dval ((D.drop (9*m)).take 9)=x at *
  generalize dval (D.drop (9*(m+1)))=y at *
  generalize Bs ^ m=P at *
  generalize Bs=b at *
  grind
theorem undig_extract (T:List UInt8) (k:Nat) (h:9*k≤T.length):undig ((T.drop (T.length - 9*(k+1))).take (T.length - 9*k - (T.length - 9*(k+1))))=((undig T).drop (9*k)).take 9:=by
 unfold undig
 rw [← List.map_drop,← List.map_take]
 congr 1
 apply List.ext_getElem?
 intro i
 have hlen:((T.drop (T.length - 9*(k+1))).take (T.length - 9*k - (T.length - 9*(k+1)))).length=T.length - 9*k - (T.length - 9*(k+1)):=by
  rw [List.length_take,List.length_drop];omega
 by_cases hi:i < T.length - 9*k - (T.length - 9*(k+1))
 ·rw [List.getElem?_reverse (by omega),hlen,List.getElem?_take_of_lt (by omega),List.getElem?_drop,List.getElem?_take_of_lt (by omega),List.getElem?_drop,List.getElem?_reverse (by omega)]
  congr 1;omega
 ·rw [List.getElem?_eq_none (by rw [List.length_reverse,hlen];omega),List.getElem?_eq_none]
  rw [List.length_take,List.length_drop,List.length_reverse];omega
def grp (t:ByteArray) (k:Nat):Nat:=dval (undig (chunk t k).data.toList)
def Box2 (W:World) (B:Nat) (neg:Bool) (v:Value):Prop:=W.heap[B]? = some (.cells #[.bool neg,v] 151 (0,0))
theorem Box2.lt {W:World} {B:Nat} {neg:Bool} {v:Value} (h:Box2 W B neg v):B < W.heap.size:=(Array.getElem?_eq_some_iff.1 h).1
theorem Box2.cell0 {W:World} {B:Nat} {neg:Bool} {v:Value} (h:Box2 W B neg v):W.cell? ⟨B,0,none⟩=some (.bool neg):=by
 simp [World.cell?,show W.heap[B]? = _ from h]
theorem Box2.cell1 {W:World} {B:Nat} {neg:Bool} {v:Value} (h:Box2 W B neg v):W.cell? ⟨B,1,none⟩=some v:=by
 simp [World.cell?,show W.heap[B]? = _ from h]
theorem Box2.frozen {W:World} {B:Nat} {neg:Bool} {v:Value} (h:Box2 W B neg v) (i:Nat):W.frozen? ⟨B,i,none⟩=false:=by
 simp [World.frozen?,show W.heap[B]? = _ from h]
theorem Box2.kept {W W':World} {row:Option Nat} {B:Nat} {neg:Bool} {v:Value} (h:Box2 W B neg v) (hg:W.grownBy W' row) (hne:some B ≠ row):Box2 W' B neg v:=(hg.block B h.lt hne).trans h
theorem Box2.alloc {W:World} {B:Nat} {neg:Bool} {v:Value} (h:Box2 W B neg v) (o:Obj):Box2 (W.alloc o) B neg v:=h.kept (World.grownBy_alloc W o none) (by simp)
theorem Box2.set1 {W:World} {B:Nat} {neg:Bool} {v:Value} (v':Value) (h:Box2 W B neg v):Box2 (W.setCell ⟨B,1,none⟩ v') B neg v':=by
 unfold Box2 at h ⊢
 simp only [World.setCell,Array.getElem?_modify]
 simp [h]
theorem Box2.set0 {W:World} {B:Nat} {neg:Bool} {v:Value} (b:Bool) (h:Box2 W B neg v):Box2 (W.setCell ⟨B,0,none⟩ (.bool b)) B b v:=by
 unfold Box2 at h ⊢
 simp only [World.setCell,Array.getElem?_modify]
 simp [h]
theorem Box2.other {W:World} {B:Nat} {neg:Bool} {v:Value} (h:Box2 W B neg v) {a:Addr} (ha:B ≠ a.block) (u:Value):Box2 (W.setCell a u) B neg v:=(Below.heap_setCell W a u B ha).trans h
theorem chunk_list (t:ByteArray) (k:Nat) (h:9*k≤t.size):undig (chunk t k).data.toList=((undig t.data.toList).drop (9*k)).take 9:=by
 unfold chunk
 rw [Lib.extract_data]
 have:=undig_extract t.data.toList k (by rw [data_len];exact h)
 rw [data_len] at this
 exact this
theorem grp_lt (t:ByteArray) (k:Nat) (h:∀ c ∈ t.data.toList,48≤c.toNat∧c.toNat≤57):grp t k < Bs:=by
 have hd:∀ c ∈ (chunk t k).data.toList,48≤c.toNat∧c.toNat≤57:=fun c hc => by
  unfold chunk at hc
  rw [Lib.extract_data] at hc
  exact h c (List.mem_of_mem_drop (List.mem_of_mem_take hc))
 have h1:=dval_lt (undig (chunk t k).data.toList) (undig_lt _ hd)
 have h2:(undig (chunk t k).data.toList).length≤9:=by
  unfold undig chunk;rw [List.length_map,List.length_reverse,data_len];simp;omega
 have h3:10 ^ (undig (chunk t k).data.toList).length≤10 ^ 9:=Nat.pow_le_pow_right (by omega) h2
 have h4:Bs=10 ^ 9:=rfl
 unfold grp;omega
theorem groups_sum (t:ByteArray) (N m:Nat) (hN:t.data.toList=txtN N) (h1:t.size≤9*m) (h2:9*m < t.size+9):val ((List.range m).map (grp t))=N:=by
 have h:=groups_val (undig t.data.toList) m
 have hl:(undig t.data.toList).length=t.size:=by unfold undig;rw [List.length_map,List.length_reverse,data_len]
 rw [List.drop_eq_nil_of_le (by omega)] at h
 have e:(List.range m).map (grp t)=(List.range m).map fun k => dval (((undig t.data.toList).drop (9*k)).take 9):=by
  refine List.map_congr_left fun k hk => ?_
  have:=List.mem_range.1 hk
  unfold grp
  rw [chunk_list t k (by omega)]
 rw [e]
 have hv:dval (undig t.data.toList)=N:=by rw [hN,undig_txtN,dval_decN]
 rw [hv] at h
 simpa [dval] using h
def ReadPost (w:World) (z:Int) (e:Ending) (w':World):Prop :=
 ∃ a c l,e = .returned (.agg #[.bool (decide (z < 0)),.slice a (l:List Nat).length c])∧l.length≤c∧w'.ownsRow w.heap.size 123 1 (.slice a l.length c) l.length (nums .u32 l)∧Rep l z.natAbs∧Below w.heap.size w w'
theorem owns_base {w:World} {B B' e n:Nat} {v:Value} {xs:List Value} (h:w.ownsRow B e 1 v n xs) (hB:B' ≤ B):w.ownsRow B' e 1 v n xs:=by
 obtain ⟨h1,h2⟩:=h
 refine ⟨h1,?_⟩
 rcases h2 with h | ⟨g,cap,cur,e1,e2,e3⟩
 ·exact .inl h
 ·exact .inr ⟨g,cap,cur,e1,Nat.le_trans hB e2,e3⟩
def ReadI (w:World) (neg:Bool) (t:ByteArray) (pre:List Nat) (W:World):Prop :=
 (∃ v,Box2 W (w.heap.size+1) neg v∧W.ownsRow (w.heap.size+3) 123 1 v pre.length (nums .u32 (pre.map (grp t))))∧Box2 W w.heap.size false (.slice none 0 0)∧Below w.heap.size w W∧w.heap.size+3≤W.heap.size
theorem readI_start (w:World) (neg:Bool) (t:ByteArray) (W0:World) (h1:Box2 W0 w.heap.size false (.slice none 0 0)) (h2:Box2 W0 (w.heap.size+1) neg (.slice none 0 0)) (h3:Below w.heap.size w W0) (h4:w.heap.size+3≤W0.heap.size):ReadI w neg t [] W0 :=
 ⟨⟨_,h2,World.ownsRow_nil _ _ _ _⟩,h1,h3,h4⟩
theorem box2_row {W:World} {B:Nat} {neg:Bool} {v:Value} (h:Box2 W B neg v) {row:Option Nat} {C:Nat} (hr:∀ r,row=some r→C≤r ∧ ∃ o:Obj,W.heap[r]? = some o∧o.isCells=false):some B ≠ row:=by
 intro e
 obtain ⟨_,o,ho,hc⟩:=hr B e.symm
 rw [show W.heap[B]? = _ from h] at ho
 injection ho with ho
 subst ho
 cases hc
theorem owns_row {W:World} {base e n:Nat} {v:Value} {xs:List Value} (h:W.ownsRow base e 1 v n xs) {row:Option Nat} {C:Nat} (hr:∀ r,row=some r→C≤r ∧ ∃ o:Obj,W.heap[r]? = some o∧o.isCells=false):v.ownBlock=none ∨ v.ownBlock ≠ row:=by
 rcases h.2 with ⟨rfl,_⟩ | ⟨g,cap,cur,rfl,_,hg,_⟩
 ·exact .inl rfl
 ·right
  intro e
  obtain ⟨_,o,ho,hc⟩:=hr g e.symm
  rw [hg] at ho
  injection ho with ho
  subst ho
  cases hc
theorem readI_own (w:World) (neg:Bool) (t:ByteArray) (W0:World) (hB:w.heap.size≤W0.heap.size):OwnFrom W0.heap.size (ReadI w neg t):=by
 intro s W W' row ⟨⟨v,h1,h2⟩,h3,h4,h5⟩ hg hr
 exact ⟨⟨v,h1.kept hg (box2_row h1 hr),h2.kept hg (owns_row h2 hr)⟩,h3.kept hg (box2_row h3 hr),h4.grown hg h4.size (fun k hk => by have:=(hr k hk).1;omega),Nat.le_trans h5 hg.size⟩
set_option maxHeartbeats 4000000 in
set_option maxRecDepth 100000 in
theorem read_pos (s:ByteArray) (w:World) (hs:s.size≤100000) (N:Nat) (hN:s.data.toList=txtN N) (h0:0 < s.size) (h1:((s[0].toNat:Int) == 45)=false) :
  Calls Tryz.prog 130 #[.string s] w (ReadPost w N):=by
 refine (callsIn_wide (n:=6)).1 ?_
 refine callsIn_of_wp_marks Tryz.func130 rfl trivial ?_ rfl
 simp only [Tryz.ntmps130,List.size_toArray,List.length_cons,List.length_nil,Nat.reduceAdd,Nat.reduceSub,Array.replicate_succ,Array.replicate_zero,List.push_toArray,List.append_toArray,List.nil_append,List.cons_append]
 have hT:∀ f,Fence.wide.fn f:=fun _ => trivial
 gi_wp2_with (gi_at_call 140;refine (groups_in Fence.wide _ trivial rfl _ _).mono ?_;rintro e w' ⟨rfl,rfl⟩)
 obtain ⟨W0,hW0⟩:∃ W0,W0=((w.alloc (.cells #[.bool false,.slice none 0 0] 151)).alloc (.cells #[.bool false,.slice none 0 0] 151)).alloc (.cells #[.string s] 9):=⟨_,rfl⟩
 have hsz:W0.heap.size=w.heap.size+3:=by rw [hW0];simp
 have hR0:Box2 W0 w.heap.size false (.slice none 0 0):=by rw [hW0];exact Box2.alloc (Box2.alloc (show Box2 (w.alloc (.cells #[.bool false,.slice none 0 0] 151)) w.heap.size false (.slice none 0 0) from World.alloc_heap_new w _) _) _
 have hB0:Box2 W0 (w.heap.size+1) false (.slice none 0 0):=by
  rw [hW0]
  refine Box2.alloc ?_ _
  have:=World.alloc_heap_new (w.alloc (.cells #[.bool false,.slice none 0 0] 151)) (.cells #[.bool false,.slice none 0 0] 151)
  rw [World.size_alloc] at this
  exact this
 have hS0:Boxed W0 (w.heap.size+2) 9 (.string s):=by
  rw [hW0]
  have:=Boxed.new ((w.alloc (.cells #[.bool false,.slice none 0 0] 151)).alloc (.cells #[.bool false,.slice none 0 0] 151)) 9 (.string s)
  rw [World.size_alloc,World.size_alloc] at this
  exact this
 have hbel:Below w.heap.size w W0:=by rw [hW0];exact (((Below.refl _ w).alloc (Nat.le_refl _) _).alloc (by simp) _).alloc (by simp;omega) _
 rw [← hW0]
 clear hW0
 have HDG:Hid (∀ c ∈ s.data.toList,48≤c.toNat∧c.toNat≤57):=by show ∀ c ∈ _,_;rw [hN];exact txtN_dig N
 have hsz2:=Lib.hid hsz
 obtain ⟨i0,hi,hz0,hz1,hz2⟩:=info_parts infoU32
 obtain ⟨m,hm1,hm2⟩:∃ m,s.size≤9*m∧9*m < s.size+9:=⟨(s.size+8) / 9,by omega,by omega⟩
 refine wpIn_rangeFunc_ownG rfl (by omega) (gf:=145) (lb := #[.pointer (some ⟨w.heap.size+2,0,none⟩)]) rfl trivial (enters_of Tryz.func145 (by kernel_rfl) rfl)
  (groups_stops Fence.wide _ trivial rfl (by omega) (w.heap.size+2) m s (by omega) hm1 hm2 W0 hS0) keepBox_t (keepBox_b (by omega)) (Below.refl _ _) (fun _ => rfl)
  (ReadI w false s) (fun _ _ _ => False) (readI_own w false s W0 (by omega)) (fun _ _ _ _ _ hs _ _ => hs) (readI_start w false s W0 hR0 hB0 hbel (by omega)) ?a1 ?assign ?body ?done ?stop
 case assign =>
  intro l x W K hK
  gi_wp2
  exact hK
 case body =>
  rintro l pre x W ⟨⟨v,hbx,hrow⟩,hres,hbl,hbs⟩ hlt
  have hch:∀ c ∈ (chunk s x).data.toList,48≤c.toNat∧c.toNat≤57:=fun c hc => by
   unfold chunk at hc
   rw [Lib.extract_data] at hc
   exact HDG.out c (List.mem_of_mem_drop (List.mem_of_mem_take hc))
  have hcs:(chunk s x).size≤9:=by unfold chunk;simp;omega
  obtain ⟨g,hg⟩:∃ g,g=chunk s x:=⟨_,rfl⟩
  have hgv:grp s x=dval (undig g.data.toList):=by rw [hg];rfl
  rw [← hg] at hch hcs ⊢
  have HCH:=Lib.hid hch
  have HGV:=Lib.hid hgv
  have HRES:=Lib.hid hres
  have HBL:=Lib.hid hbl
  have HROW:=Lib.hid hrow
  have HBX:=Lib.hid hbx
  have hT2:∀ f,(Fence.wide.inRound l).fn f:=fun _ => trivial
  clear hg hgv hch hres hbl hrow hbx hT
  gi_wp2
  gi_loopw [6,20] (fun vv iv wr => (∃ k:Nat,k≤g.size∧iv = .int .i64 k∧vv = .int .u32 (dval (undig (g.data.toList.take k)):Nat))∧wr=W) (fun _ iv _ => g.size - (intOf iv).toNat)
  case atStart => exact ⟨⟨0,Nat.zero_le _,rfl,by simp [undig,dval]⟩,rfl⟩
  case round =>
   obtain ⟨⟨k,hk,rfl,rfl⟩,rfl⟩:=hrel
   obtain ⟨vv,hvv⟩:∃ vv,vv=dval (undig (g.data.toList.take k)):=⟨_,rfl⟩
   rw [← hvv]
   have HVV:=Lib.hid hvv
   by_cases hltk:k < g.size
   ·have hvb:vv < 100000000:=by
     rw [hvv]
     have h1:=dval_lt (undig (g.data.toList.take k)) (undig_lt _ (fun c hc => HCH.out c (List.mem_of_mem_take hc)))
     have h2:(undig (g.data.toList.take k)).length≤8:=by unfold undig;rw [List.length_map,List.length_reverse,List.length_take];omega
     have h3:10 ^ (undig (g.data.toList.take k)).length≤10 ^ 8:=Nat.pow_le_pow_right (by omega) h2
     omega
    have hcd:=HCH.out _ (data_mem g k hltk)
    obtain ⟨y,hy⟩:∃ y,y=g[k].toNat - 48:=⟨_,rfl⟩
    have hyI:((g[k].toNat:Int) - 48)=(y:Int):=by omega
    have hyb:y < 10:=by omega
    have hnx:dval (undig (g.data.toList.take (k+1)))=vv*10+y:=by
     rw [data_take g k hltk,dval_undig_snoc,← HVV.out,← hy];omega
    have HNX:=Lib.hid hnx
    obtain ⟨c1,c2⟩:=hcd
    clear hvv hy hnx
    gi_wp2
    go_roundw
    case rel => exact ⟨⟨k+1,by omega,by go_num,by rw [HNX.out];congr 1⟩,trivial⟩
    case measure => simp [intOf] <;> omega
   ·have hkg:k=g.size:=by omega
    have hval:vv=grp s x:=by rw [hvv,hkg,List.take_of_length_le (by rw [data_len];omega)];exact HGV.out.symm
    have HVAL:=Lib.hid hval
    have hcell:=HBX.out.cell1
    clear hvv hkg hval
    have hpm:pre.length < 100000:=by omega
    obtain ⟨pl,hpl⟩:∃ pl,pl=pre.length:=⟨_,rfl⟩
    have HROW1:=HROW.out
    rw [← hpl] at hpm HROW1
    have HROW2:=Lib.hid HROW1
    have HPL:=Lib.hid hpl
    clear HROW1 hpl
    gi_wp2_with (gi_at_builtin;refine wpListIn_append_own _ rfl (.tmp 33) (.tmp 35) 149 rfl (w.heap.size+3) 123 i0 (.int .u32 0) 1 4 Tryz.underlying149 hi hz0 hz1 hz2 rfl (by decide) _ _ _ rfl (HROW2.out.alloc _) ⟨wr.heap.size,0,none⟩ 1 1 [.int .u32 (vv:Int)] rfl rfl (cell_one_new _ _ _) (by simp [Value.oneCell']) ?c3 ?c4 ?c5 ?_)
    case c3 => unfold maxLen;omega
    case c4 => omega
    case c5 => simp;omega
    intro v' w1 hown' hgrow _
    obtain ⟨g',cap',rfl⟩:=ownsRow_succ hown'
    have hnb:∀ B,B < w.heap.size+3→some B ≠ v.ownBlock:=fun B hB e => by have:=(HROW2.out.lt B e.symm).1;omega
    have bx1:Box2 w1 (w.heap.size+1) false v:=(HBX.out.alloc _).kept hgrow (hnb _ (by omega))
    have hc1:=bx1.cell1
    have hf1:=bx1.frozen 1
    have hnb2:w1.grownBy (w1.setCell ⟨w.heap.size+1,1,none⟩ (.slice (some ⟨g',0,none⟩) (pl+1) cap')) (some (w.heap.size+1)):=only_setCell (only_refl _ _) (.inl rfl) _
    have BX2:=Lib.hid (bx1.set1 (.slice (some ⟨g',0,none⟩) (pl+1) cap'))
    have ho2:=hown'.kept hnb2 (.inr (fun e => by have:=(hown'.lt _ e).1;omega))
    rw [nums_snoc,HVAL.out,show List.map (grp s) pre ++ [grp s x]=List.map (grp s) (pre ++ [x]) by simp,HPL.out] at ho2
    have HO2:=Lib.hid ho2
    have RES2:Hid (Box2 (w1.setCell ⟨w.heap.size+1,1,none⟩ (.slice (some ⟨g',0,none⟩) (pl+1) cap')) w.heap.size false (.slice none 0 0)):=((HRES.out.alloc _).kept hgrow (hnb _ (by omega))).other (by show w.heap.size ≠ w.heap.size+1;omega) _
    have BL1:Below w.heap.size w w1:=(HBL.out.alloc HBL.out.size _).grown hgrow (by simp;omega) (fun k hk => by have:=(HROW2.out.lt k hk).1;omega)
    have BL2:Hid (Below w.heap.size w (w1.setCell ⟨w.heap.size+1,1,none⟩ (.slice (some ⟨g',0,none⟩) (pl+1) cap'))):=BL1.setCell (p:=⟨w.heap.size+1,1,none⟩) (by show w.heap.size≤w.heap.size+1;omega) _
    have SZ2:Hid (w.heap.size+3≤(w1.setCell ⟨w.heap.size+1,1,none⟩ (.slice (some ⟨g',0,none⟩) (pl+1) cap')).heap.size):=by
     have:=hgrow.size;simp at this;show _≤_;simp [World.setCell];omega
    have KF2:Hid (KeepsFrom W0.heap.size wr (w1.setCell ⟨w.heap.size+1,1,none⟩ (.slice (some ⟨g',0,none⟩) (pl+1) cap'))):=by
     refine KeepsOthers.from (((KeepsOthers.alloc wr _).trans (KeepsOthers.of_grownBy hgrow fun j o ej hj => ?_)).trans (KeepsOthers.setCell _ _ _)) _
     rcases (HROW2.out.alloc (.cells #[.int .u32 (vv:Int)] 123)).2 with ⟨rfl,_⟩ | ⟨g,cap,cur,rfl,_,hgb,_⟩
     ·simp [Value.ownBlock] at ej
     ·obtain rfl:g=j:=by simpa [Value.ownBlock] using ej
      rw [hgb] at hj;cases hj;rfl
    have KB2:Hid (KeepBox (w.heap.size+2) wr (w1.setCell ⟨w.heap.size+1,1,none⟩ (.slice (some ⟨g',0,none⟩) (pl+1) cap'))):=by
     show _=_
     rw [Below.heap_setCell w1 ⟨w.heap.size+1,1,none⟩ _ (w.heap.size+2) (by show w.heap.size+2 ≠ w.heap.size+1;omega),hgrow.block (w.heap.size+2) (by simp;omega) (hnb _ (by omega)),Below.heap_alloc wr _ _ (by omega)]
    clear hown' hgrow bx1 hnb hnb2 ho2 BL1
    gi_wp2
    refine ⟨KF2.out,KB2.out,⟨⟨_,BX2.out,?_⟩,RES2.out,BL2.out,SZ2.out⟩⟩
    rw [List.length_append,← HPL.out]
    have:=HO2.out
    rw [← HPL.out] at this
    exact this
 case done =>
  rintro D ys W hD rfl ⟨⟨v,hbx,hrow⟩,hres,hbl,hbs⟩ hK
  rw [List.length_range] at hrow
  have hval:val ((List.range m).map (grp s))=N:=groups_sum s N m hN (by omega) (by omega)
  have htr:=trim_own hrow (by omega) (by
   intro x hx
   obtain ⟨k,_,rfl⟩:=List.mem_map.1 hx
   exact grp_lt s k HDG.out)
  rw [hval] at htr
  have HTR:=Lib.hid htr
  have hc1:=hbx.cell1
  have hf1:=hbx.frozen 1
  have HBX:=Lib.hid hbx
  have HRES:=Lib.hid hres
  have HBL:=Lib.hid hbl
  have HK:=Lib.hid hK
  clear htr hval hrow hbx hres hbl hK
  gi_wp2_with (gi_at_call 133;refine (callsIn_wide.2 HTR.out).mono ?_;rintro e w' ⟨⟨v2,l2,rfl,ho2,hr2⟩,rfl⟩;obtain ⟨a2,c2,rfl,hl2,hlc2,hn2⟩:=nums_of_owns ho2;obtain ⟨k2,hk2⟩:∃ k2,k2=l2.length:=⟨_,rfl⟩;rw [← hk2] at ho2 hlc2 ⊢;have HO2:=Lib.hid ho2;have HR2:=Lib.hid hr2;have HN2:=Lib.hid hn2;have HK2:=Lib.hid hk2;have hx2:Box2 (W.setCell ⟨w.heap.size+1,1,none⟩ (.slice a2 k2 c2)) (w.heap.size+1) false (.slice a2 k2 c2):=HBX.out.set1 _;have hy2:Box2 (W.setCell ⟨w.heap.size+1,1,none⟩ (.slice a2 k2 c2)) w.heap.size false (.slice none 0 0):=HRES.out.other (by show w.heap.size ≠ w.heap.size+1;omega) _;have e0:=hx2.cell0;have e1:=hx2.cell1;have e2:=hy2.cell0;have e3:=hy2.cell1;have e4:=hy2.frozen 0;have e5:=hy2.frozen 1;have HY2:=Lib.hid hy2;clear ho2 hr2 hn2 hl2 hk2 hx2 hy2)
  have hr3:Box2 (((W.setCell ⟨w.heap.size+1,1,none⟩ (.slice a2 k2 c2)).setCell ⟨w.heap.size,0,none⟩ (.bool false)).setCell ⟨w.heap.size,1,none⟩ (.slice a2 k2 c2)) w.heap.size false (.slice a2 k2 c2):=(HY2.out.set0 false).set1 _
  obtain ⟨FW,hFW⟩:∃ FW,FW=((W.setCell ⟨w.heap.size+1,1,none⟩ (.slice a2 k2 c2)).setCell ⟨w.heap.size,0,none⟩ (.bool false)).setCell ⟨w.heap.size,1,none⟩ (.slice a2 k2 c2):=⟨_,rfl⟩
  have hKf:FW.heap[D]? = some (.deferred (some [])):=by
   rw [hFW,Below.heap_setCell _ ⟨w.heap.size,1,none⟩ _ D (by show D ≠ w.heap.size;omega),Below.heap_setCell _ ⟨w.heap.size,0,none⟩ _ D (by show D ≠ w.heap.size;omega),Below.heap_setCell _ ⟨w.heap.size+1,1,none⟩ _ D (by show D ≠ w.heap.size+1;omega)]
   exact HK.out
  have hbF:Below w.heap.size w FW:=by rw [hFW];exact ((HBL.out.setCell (p:=⟨w.heap.size+1,1,none⟩) (by show w.heap.size≤w.heap.size+1;omega) _).setCell (p:=⟨w.heap.size,0,none⟩) (Nat.le_refl _) _).setCell (p:=⟨w.heap.size,1,none⟩) (Nat.le_refl _) _
  have hoF:FW.ownsRow (w.heap.size+3) 123 1 (.slice a2 k2 c2) k2 (nums .u32 l2):=by
   have hne:∀ B,B < w.heap.size+3→(Value.slice a2 k2 c2).ownBlock=none ∨ (Value.slice a2 k2 c2).ownBlock ≠ some B:=fun B hB => .inr (fun e => by have:=(HO2.out.lt B e).1;omega)
   rw [hFW]
   exact ((HO2.out.kept (only_setCell (only_refl _ (some (w.heap.size+1))) (.inl rfl) _) (hne _ (by omega))).kept (only_setCell (only_refl _ (some w.heap.size)) (.inl rfl) _) (hne _ (by omega))).kept (only_setCell (only_refl _ (some w.heap.size)) (.inl rfl) _) (hne _ (by omega))
  rw [← hFW] at hr3 ⊢
  have hrP:Box2 (FW.putObj D (.deferred none)) w.heap.size false (.slice a2 k2 c2):=hr3.kept (grownBy_putObj' FW D (.deferred none)) (fun e => by injection e with e;omega)
  have hoP:=ownsRow_putObj hoF (.deferred none) hKf rfl
  have hbP:Below w.heap.size w (FW.putObj D (.deferred none)):=hbF.grown (grownBy_putObj' FW D (.deferred none)) hbF.size (fun k e => by injection e with e;omega)
  refine ⟨by simp,.inl ⟨_,_,rfl,run_takeDeferred hKf,?_⟩⟩
  have q0:=hrP.cell0
  have q1:=hrP.cell1
  refine ⟨.agg #[.bool false,.slice a2 k2 c2],?_,a2,c2,l2,?_,by have:=HK2.out;omega,by rw [← HK2.out];exact owns_base hoP (by omega),HR2.out,hbP⟩
  ·simp [results,Tryz.results130,go_sem,q0,q1]
  ·rw [HK2.out];simp
 case stop =>
  rintro D c pre W _ _ h _
  exact h.elim
set_option maxHeartbeats 4000000 in
set_option maxRecDepth 100000 in
theorem read_neg (s t:ByteArray) (w:World) (hs:t.size≤100000) (N:Nat) (hN:t.data.toList=txtN N) (hNp:0 < N) (h0:0 < s.size) (h1:((s[0].toNat:Int) == 45)=true) (HTS:Hid (s.extract 1 s.size=t)) :
  Calls Tryz.prog 130 #[.string s] w (ReadPost w (-(N:Int))):=by
 refine (callsIn_wide (n:=6)).1 ?_
 refine callsIn_of_wp_marks Tryz.func130 rfl trivial ?_ rfl
 simp only [Tryz.ntmps130,List.size_toArray,List.length_cons,List.length_nil,Nat.reduceAdd,Nat.reduceSub,Array.replicate_succ,Array.replicate_zero,List.push_toArray,List.append_toArray,List.nil_append,List.cons_append]
 have hT:∀ f,Fence.wide.fn f:=fun _ => trivial
 have hT:∀ f,Fence.wide.fn f:=fun _ => trivial
 gi_wp2
 gi_region
 rw [HTS.out]
 gi_wp2_with (gi_at_call 140;refine (groups_in Fence.wide _ trivial rfl _ _).mono ?_;rintro e w' ⟨rfl,rfl⟩)
 obtain ⟨U0,hU0⟩:∃ U0,U0=((w.alloc (.cells #[.bool false,.slice none 0 0] 151)).alloc (.cells #[.bool true,.slice none 0 0] 151)).alloc (.cells #[.string t] 9):=⟨_,rfl⟩
 have usz:U0.heap.size=w.heap.size+3:=by rw [hU0];simp
 have uR0:Box2 U0 w.heap.size false (.slice none 0 0):=by rw [hU0];exact Box2.alloc (Box2.alloc (show Box2 (w.alloc (.cells #[.bool false,.slice none 0 0] 151)) w.heap.size false (.slice none 0 0) from World.alloc_heap_new w _) _) _
 have uB0:Box2 U0 (w.heap.size+1) true (.slice none 0 0):=by
  rw [hU0]
  refine Box2.alloc ?_ _
  have:=World.alloc_heap_new (w.alloc (.cells #[.bool false,.slice none 0 0] 151)) (.cells #[.bool true,.slice none 0 0] 151)
  rw [World.size_alloc] at this
  exact this
 have uS0:Boxed U0 (w.heap.size+2) 9 (.string t):=by
  rw [hU0]
  have:=Boxed.new ((w.alloc (.cells #[.bool false,.slice none 0 0] 151)).alloc (.cells #[.bool true,.slice none 0 0] 151)) 9 (.string t)
  rw [World.size_alloc,World.size_alloc] at this
  exact this
 have ubel:Below w.heap.size w U0:=by rw [hU0];exact (((Below.refl _ w).alloc (Nat.le_refl _) _).alloc (by simp) _).alloc (by simp;omega) _
 rw [← hU0]
 obtain ⟨W0,hW0⟩:∃ W0,W0=U0.drew:=⟨_,rfl⟩
 have hsz:W0.heap.size=w.heap.size+3:=by rw [hW0];exact usz
 have hR0:Box2 W0 w.heap.size false (.slice none 0 0):=by rw [hW0];exact uR0
 have hB0:Box2 W0 (w.heap.size+1) true (.slice none 0 0):=by rw [hW0];exact uB0
 have hS0:Boxed W0 (w.heap.size+2) 9 (.string t):=by rw [hW0];exact uS0
 have hbel:Below w.heap.size w W0:=by rw [hW0];exact ubel.drew
 rw [← hW0]
 clear hW0 hU0 usz uR0 uB0 uS0 ubel
 have HDG:Hid (∀ c ∈ t.data.toList,48≤c.toNat∧c.toNat≤57):=by show ∀ c ∈ _,_;rw [hN];exact txtN_dig N
 have hsz2:=Lib.hid hsz
 obtain ⟨i0,hi,hz0,hz1,hz2⟩:=info_parts infoU32
 obtain ⟨m,hm1,hm2⟩:∃ m,t.size≤9*m∧9*m < t.size+9:=⟨(t.size+8) / 9,by omega,by omega⟩
 refine wpIn_rangeFunc_ownG rfl (by omega) (gf:=145) (lb := #[.pointer (some ⟨w.heap.size+2,0,none⟩)]) rfl trivial (enters_of Tryz.func145 (by kernel_rfl) rfl)
  (groups_stops Fence.wide _ trivial rfl (by omega) (w.heap.size+2) m t (by omega) hm1 hm2 W0 hS0) keepBox_t (keepBox_b (by omega)) (Below.refl _ _) (fun _ => rfl)
  (ReadI w true t) (fun _ _ _ => False) (readI_own w true t W0 (by omega)) (fun _ _ _ _ _ hs _ _ => hs) (readI_start w true t W0 hR0 hB0 hbel (by omega)) ?a1 ?assign ?body ?done ?stop
 case assign =>
  intro l x W K hK
  gi_wp2
  exact hK
 case body =>
  rintro l pre x W ⟨⟨v,hbx,hrow⟩,hres,hbl,hbs⟩ hlt
  have hch:∀ c ∈ (chunk t x).data.toList,48≤c.toNat∧c.toNat≤57:=fun c hc => by
   unfold chunk at hc
   rw [Lib.extract_data] at hc
   exact HDG.out c (List.mem_of_mem_drop (List.mem_of_mem_take hc))
  have hcs:(chunk t x).size≤9:=by unfold chunk;simp;omega
  obtain ⟨g,hg⟩:∃ g,g=chunk t x:=⟨_,rfl⟩
  have hgv:grp t x=dval (undig g.data.toList):=by rw [hg];rfl
  rw [← hg] at hch hcs ⊢
  have HCH:=Lib.hid hch
  have HGV:=Lib.hid hgv
  have HRES:=Lib.hid hres
  have HBL:=Lib.hid hbl
  have HROW:=Lib.hid hrow
  have HBX:=Lib.hid hbx
  have hT2:∀ f,(Fence.wide.inRound l).fn f:=fun _ => trivial
  clear hg hgv hch hres hbl hrow hbx hT
  gi_wp2
  gi_loopw [6,20] (fun vv iv wr => (∃ k:Nat,k≤g.size∧iv = .int .i64 k∧vv = .int .u32 (dval (undig (g.data.toList.take k)):Nat))∧wr=W) (fun _ iv _ => g.size - (intOf iv).toNat)
  case atStart => exact ⟨⟨0,Nat.zero_le _,rfl,by simp [undig,dval]⟩,rfl⟩
  case round =>
   obtain ⟨⟨k,hk,rfl,rfl⟩,rfl⟩:=hrel
   obtain ⟨vv,hvv⟩:∃ vv,vv=dval (undig (g.data.toList.take k)):=⟨_,rfl⟩
   rw [← hvv]
   have HVV:=Lib.hid hvv
   by_cases hltk:k < g.size
   ·have hvb:vv < 100000000:=by
     rw [hvv]
     have h1:=dval_lt (undig (g.data.toList.take k)) (undig_lt _ (fun c hc => HCH.out c (List.mem_of_mem_take hc)))
     have h2:(undig (g.data.toList.take k)).length≤8:=by unfold undig;rw [List.length_map,List.length_reverse,List.length_take];omega
     have h3:10 ^ (undig (g.data.toList.take k)).length≤10 ^ 8:=Nat.pow_le_pow_right (by omega) h2
     omega
    have hcd:=HCH.out _ (data_mem g k hltk)
    obtain ⟨y,hy⟩:∃ y,y=g[k].toNat - 48:=⟨_,rfl⟩
    have hyI:((g[k].toNat:Int) - 48)=(y:Int):=by omega
    have hyb:y < 10:=by omega
    have hnx:dval (undig (g.data.toList.take (k+1)))=vv*10+y:=by
     rw [data_take g k hltk,dval_undig_snoc,← HVV.out,← hy];omega
    have HNX:=Lib.hid hnx
    obtain ⟨c1,c2⟩:=hcd
    clear hvv hy hnx
    gi_wp2
    go_roundw
    case rel => exact ⟨⟨k+1,by omega,by go_num,by rw [HNX.out];congr 1⟩,trivial⟩
    case measure => simp [intOf] <;> omega
   ·have hkg:k=g.size:=by omega
    have hval:vv=grp t x:=by rw [hvv,hkg,List.take_of_length_le (by rw [data_len];omega)];exact HGV.out.symm
    have HVAL:=Lib.hid hval
    have hcell:=HBX.out.cell1
    clear hvv hkg hval
    have hpm:pre.length < 100000:=by omega
    obtain ⟨pl,hpl⟩:∃ pl,pl=pre.length:=⟨_,rfl⟩
    have HROW1:=HROW.out
    rw [← hpl] at hpm HROW1
    have HROW2:=Lib.hid HROW1
    have HPL:=Lib.hid hpl
    clear HROW1 hpl
    gi_wp2_with (gi_at_builtin;refine wpListIn_append_own _ rfl (.tmp 33) (.tmp 35) 149 rfl (w.heap.size+3) 123 i0 (.int .u32 0) 1 4 Tryz.underlying149 hi hz0 hz1 hz2 rfl (by decide) _ _ _ rfl (HROW2.out.alloc _) ⟨wr.heap.size,0,none⟩ 1 1 [.int .u32 (vv:Int)] rfl rfl (cell_one_new _ _ _) (by simp [Value.oneCell']) ?c3 ?c4 ?c5 ?_)
    case c3 => unfold maxLen;omega
    case c4 => omega
    case c5 => simp;omega
    intro v' w1 hown' hgrow _
    obtain ⟨g',cap',rfl⟩:=ownsRow_succ hown'
    have hnb:∀ B,B < w.heap.size+3→some B ≠ v.ownBlock:=fun B hB e => by have:=(HROW2.out.lt B e.symm).1;omega
    have bx1:Box2 w1 (w.heap.size+1) true v:=(HBX.out.alloc _).kept hgrow (hnb _ (by omega))
    have hc1:=bx1.cell1
    have hf1:=bx1.frozen 1
    have hnb2:w1.grownBy (w1.setCell ⟨w.heap.size+1,1,none⟩ (.slice (some ⟨g',0,none⟩) (pl+1) cap')) (some (w.heap.size+1)):=only_setCell (only_refl _ _) (.inl rfl) _
    have BX2:=Lib.hid (bx1.set1 (.slice (some ⟨g',0,none⟩) (pl+1) cap'))
    have ho2:=hown'.kept hnb2 (.inr (fun e => by have:=(hown'.lt _ e).1;omega))
    rw [nums_snoc,HVAL.out,show List.map (grp t) pre ++ [grp t x]=List.map (grp t) (pre ++ [x]) by simp,HPL.out] at ho2
    have HO2:=Lib.hid ho2
    have RES2:Hid (Box2 (w1.setCell ⟨w.heap.size+1,1,none⟩ (.slice (some ⟨g',0,none⟩) (pl+1) cap')) w.heap.size false (.slice none 0 0)):=((HRES.out.alloc _).kept hgrow (hnb _ (by omega))).other (by show w.heap.size ≠ w.heap.size+1;omega) _
    have BL1:Below w.heap.size w w1:=(HBL.out.alloc HBL.out.size _).grown hgrow (by simp;omega) (fun k hk => by have:=(HROW2.out.lt k hk).1;omega)
    have BL2:Hid (Below w.heap.size w (w1.setCell ⟨w.heap.size+1,1,none⟩ (.slice (some ⟨g',0,none⟩) (pl+1) cap'))):=BL1.setCell (p:=⟨w.heap.size+1,1,none⟩) (by show w.heap.size≤w.heap.size+1;omega) _
    have SZ2:Hid (w.heap.size+3≤(w1.setCell ⟨w.heap.size+1,1,none⟩ (.slice (some ⟨g',0,none⟩) (pl+1) cap')).heap.size):=by
     have:=hgrow.size;simp at this;show _≤_;simp [World.setCell];omega
    have KF2:Hid (KeepsFrom W0.heap.size wr (w1.setCell ⟨w.heap.size+1,1,none⟩ (.slice (some ⟨g',0,none⟩) (pl+1) cap'))):=by
     refine KeepsOthers.from (((KeepsOthers.alloc wr _).trans (KeepsOthers.of_grownBy hgrow fun j o ej hj => ?_)).trans (KeepsOthers.setCell _ _ _)) _
     rcases (HROW2.out.alloc (.cells #[.int .u32 (vv:Int)] 123)).2 with ⟨rfl,_⟩ | ⟨g,cap,cur,rfl,_,hgb,_⟩
     ·simp [Value.ownBlock] at ej
     ·obtain rfl:g=j:=by simpa [Value.ownBlock] using ej
      rw [hgb] at hj;cases hj;rfl
    have KB2:Hid (KeepBox (w.heap.size+2) wr (w1.setCell ⟨w.heap.size+1,1,none⟩ (.slice (some ⟨g',0,none⟩) (pl+1) cap'))):=by
     show _=_
     rw [Below.heap_setCell w1 ⟨w.heap.size+1,1,none⟩ _ (w.heap.size+2) (by show w.heap.size+2 ≠ w.heap.size+1;omega),hgrow.block (w.heap.size+2) (by simp;omega) (hnb _ (by omega)),Below.heap_alloc wr _ _ (by omega)]
    clear hown' hgrow bx1 hnb hnb2 ho2 BL1
    gi_wp2
    refine ⟨KF2.out,KB2.out,⟨⟨_,BX2.out,?_⟩,RES2.out,BL2.out,SZ2.out⟩⟩
    rw [List.length_append,← HPL.out]
    have:=HO2.out
    rw [← HPL.out] at this
    exact this
 case done =>
  rintro D ys W hD rfl ⟨⟨v,hbx,hrow⟩,hres,hbl,hbs⟩ hK
  rw [List.length_range] at hrow
  have hval:val ((List.range m).map (grp t))=N:=groups_sum t N m hN (by omega) (by omega)
  have htr:=trim_own hrow (by omega) (by
   intro x hx
   obtain ⟨k,_,rfl⟩:=List.mem_map.1 hx
   exact grp_lt t k HDG.out)
  rw [hval] at htr
  have HTR:=Lib.hid htr
  have hc1:=hbx.cell1
  have hf1:=hbx.frozen 1
  have HBX:=Lib.hid hbx
  have HRES:=Lib.hid hres
  have HBL:=Lib.hid hbl
  have HK:=Lib.hid hK
  clear htr hval hrow hbx hres hbl hK
  gi_wp2_with (gi_at_call 133;refine (callsIn_wide.2 HTR.out).mono ?_;rintro e w' ⟨⟨v2,l2,rfl,ho2,hr2⟩,rfl⟩;obtain ⟨a2,c2,rfl,hl2,hlc2,hn2⟩:=nums_of_owns ho2;obtain ⟨k2,hk2⟩:∃ k2,k2=l2.length:=⟨_,rfl⟩;rw [← hk2] at ho2 hlc2 ⊢;have HO2:=Lib.hid ho2;have HR2:=Lib.hid hr2;have HN2:=Lib.hid hn2;have HK2:=Lib.hid hk2;have hx2:Box2 (W.setCell ⟨w.heap.size+1,1,none⟩ (.slice a2 k2 c2)) (w.heap.size+1) true (.slice a2 k2 c2):=HBX.out.set1 _;have hy2:Box2 (W.setCell ⟨w.heap.size+1,1,none⟩ (.slice a2 k2 c2)) w.heap.size false (.slice none 0 0):=HRES.out.other (by show w.heap.size ≠ w.heap.size+1;omega) _;have e0:=hx2.cell0;have e1:=hx2.cell1;have e2:=hy2.cell0;have e3:=hy2.cell1;have e4:=hy2.frozen 0;have e5:=hy2.frozen 1;have HY2:=Lib.hid hy2;clear ho2 hr2 hn2 hl2 hk2 hx2 hy2)
  have hr3:Box2 (((W.setCell ⟨w.heap.size+1,1,none⟩ (.slice a2 k2 c2)).setCell ⟨w.heap.size,0,none⟩ (.bool true)).setCell ⟨w.heap.size,1,none⟩ (.slice a2 k2 c2)) w.heap.size true (.slice a2 k2 c2):=(HY2.out.set0 true).set1 _
  obtain ⟨FW,hFW⟩:∃ FW,FW=((W.setCell ⟨w.heap.size+1,1,none⟩ (.slice a2 k2 c2)).setCell ⟨w.heap.size,0,none⟩ (.bool true)).setCell ⟨w.heap.size,1,none⟩ (.slice a2 k2 c2):=⟨_,rfl⟩
  have hKf:FW.heap[D]? = some (.deferred (some [])):=by
   rw [hFW,Below.heap_setCell _ ⟨w.heap.size,1,none⟩ _ D (by show D ≠ w.heap.size;omega),Below.heap_setCell _ ⟨w.heap.size,0,none⟩ _ D (by show D ≠ w.heap.size;omega),Below.heap_setCell _ ⟨w.heap.size+1,1,none⟩ _ D (by show D ≠ w.heap.size+1;omega)]
   exact HK.out
  have hbF:Below w.heap.size w FW:=by rw [hFW];exact ((HBL.out.setCell (p:=⟨w.heap.size+1,1,none⟩) (by show w.heap.size≤w.heap.size+1;omega) _).setCell (p:=⟨w.heap.size,0,none⟩) (Nat.le_refl _) _).setCell (p:=⟨w.heap.size,1,none⟩) (Nat.le_refl _) _
  have hoF:FW.ownsRow (w.heap.size+3) 123 1 (.slice a2 k2 c2) k2 (nums .u32 l2):=by
   have hne:∀ B,B < w.heap.size+3→(Value.slice a2 k2 c2).ownBlock=none ∨ (Value.slice a2 k2 c2).ownBlock ≠ some B:=fun B hB => .inr (fun e => by have:=(HO2.out.lt B e).1;omega)
   rw [hFW]
   exact ((HO2.out.kept (only_setCell (only_refl _ (some (w.heap.size+1))) (.inl rfl) _) (hne _ (by omega))).kept (only_setCell (only_refl _ (some w.heap.size)) (.inl rfl) _) (hne _ (by omega))).kept (only_setCell (only_refl _ (some w.heap.size)) (.inl rfl) _) (hne _ (by omega))
  rw [← hFW] at hr3 ⊢
  have hrP:Box2 (FW.putObj D (.deferred none)) w.heap.size true (.slice a2 k2 c2):=hr3.kept (grownBy_putObj' FW D (.deferred none)) (fun e => by injection e with e;omega)
  have hoP:=ownsRow_putObj hoF (.deferred none) hKf rfl
  have hbP:Below w.heap.size w (FW.putObj D (.deferred none)):=hbF.grown (grownBy_putObj' FW D (.deferred none)) hbF.size (fun k e => by injection e with e;omega)
  refine ⟨by simp,.inl ⟨_,_,rfl,run_takeDeferred hKf,?_⟩⟩
  have q0:=hrP.cell0
  have q1:=hrP.cell1
  refine ⟨.agg #[.bool true,.slice a2 k2 c2],?_,a2,c2,l2,?_,by have:=HK2.out;omega,by rw [← HK2.out];exact owns_base hoP (by omega),by rw [Int.natAbs_neg,Int.natAbs_natCast];exact HR2.out,hbP⟩
  ·simp [results,Tryz.results130,go_sem,q0,q1]
  ·rw [HK2.out];simp;exact hNp
 case stop =>
  rintro D c pre W _ _ h _
  exact h.elim
theorem read_any (s:ByteArray) (z:Int) (w:World) (hs:s.size≤100000) (hz:s.data.toList=txtZ z):Calls Tryz.prog 130 #[.string s] w (ReadPost w z):=by
 by_cases h:z < 0
 ·have e:txtZ z=45 :: txtN z.natAbs:=by unfold txtZ;rw [if_pos h]
  have h0:0 < s.size:=by rw [← data_len,hz,e];simp
  have h1:((s[0].toNat:Int) == 45)=true:=by
   have:=data_head s h0
   rw [hz,e] at this
   injection this with this
   rw [← this];rfl
  have ht:(s.extract 1 s.size).data.toList=txtN z.natAbs:=by rw [tail_data,hz,e];rfl
  have:=read_neg s (s.extract 1 s.size) w (by simp;omega) z.natAbs ht (by omega) h0 h1 rfl
  rwa [show -((z.natAbs:Nat):Int)=z by omega] at this
 ·have e:txtZ z=txtN z.natAbs:=by unfold txtZ;rw [if_neg h]
  have h0:0 < s.size:=by rw [← data_len,hz,e];exact List.length_pos_iff.2 (txtN_ne _)
  have h1:((s[0].toNat:Int) == 45)=false:=by
   have:=data_head s h0
   rw [hz,e] at this
   rw [beq_eq_false_iff_ne]
   intro h2
   have h3:=u8_eq (c:=s[0]) (n:=45) h2 (by omega)
   rw [h3] at this
   exact txtN_head _ this
  have:=read_pos s w hs z.natAbs (by rw [hz,e]) h0 h1
  rwa [show ((z.natAbs:Nat):Int)=z by omega] at this
end Go.Proofs.YtijkefflpojmhaaGreatDoor

namespace Go.Proofs.YtijkefflpojmhaaGreatDoor
open Go.RowKit
theorem decN_mono {a b:Nat} (h:a≤b):(decN a).length≤(decN b).length:=by
 have h1:1≤(decN b).length:=List.length_pos_iff.2 (decN_ne b)
 exact (decN_len_le a _ h1).2 (Nat.lt_of_le_of_lt h ((decN_len_le b _ h1).1 (Nat.le_refl _)))
def ErrPost (w:World) (n:Int) (e:Ending) (w':World):Prop:=e = .returned (.int .i64 n)∧Below w.heap.size w w'
set_option maxHeartbeats 1000000 in
set_option maxRecDepth 100000 in
theorem rcheck_any (s:ByteArray) (w:World) (hs:s.size≤1000000) :
  Calls Tryz.prog 126 #[.string s] w (ErrPost w (chkZ s.data.toList)):=by
 have hd:=digits_any s w hs
 obtain ⟨l,hl⟩:∃ l,l=s.data.toList:=⟨_,rfl⟩
 rw [← hl] at hd ⊢
 obtain ⟨E,hE⟩:∃ E,E=chkZ l:=⟨_,rfl⟩
 rw [← hE]
 have HE:=Lib.hid hE
 have HD:=Lib.hid hd
 have HL:=Lib.hid hl
 clear hd hE hl
 go_enter Tryz.func126,Tryz.ntmps126
 go_wp2_with fail
 refine HD.out.mono ?_
 rintro e w1 (⟨z,a,n,c,e1,rfl,e2,e3,e4,e5⟩ | ⟨e1,rfl,e2⟩)
 ·have hE2:=HE.out
  rw [rdZ_some e1,chkZ_txtZ] at hE2
  unfold bigZ at hE2
  rw [e2] at hE2
  have HB:=Lib.hid e5
  clear e1 e2 e3 e4 e5
  by_cases hb:1000 < n
  ·have e:E=14:=by rw [hE2];simp [hb]
   have HX:=Lib.hid e
   clear e hE2
   go_wp2_with fail
   go_ret
   exact ⟨ret_int HX.out.symm,HB.out⟩
  ·have e:E=0:=by rw [hE2];simp [hb]
   have HX:=Lib.hid e
   clear e hE2
   go_wp2_with fail
   go_ret
   exact ⟨ret_int HX.out.symm,HB.out⟩
 ·have e:E=12:=by rw [HE.out];exact chkZ_none e1
  have HX:=Lib.hid e
  have HB:=Lib.hid e2
  clear e e1 e2
  go_wp2_with fail
  go_ret
  exact ⟨ret_int HX.out.symm,HB.out⟩
def bothZ (a b:List UInt8):Int:=if chkZ a=0 then chkZ b else chkZ a
set_option maxHeartbeats 1000000 in
set_option maxRecDepth 100000 in
theorem rboth_any (s t:ByteArray) (w:World) (hs:s.size≤1000000) (ht:t.size≤1000000) :
  Calls Tryz.prog 118 #[.string s,.string t] w (ErrPost w (bothZ s.data.toList t.data.toList)):=by
 have hcs:=fun W => rcheck_any s W hs
 have hct:=fun W => rcheck_any t W ht
 obtain ⟨E,hE⟩:∃ E,E=bothZ s.data.toList t.data.toList:=⟨_,rfl⟩
 obtain ⟨a,ha⟩:∃ a,a=chkZ s.data.toList:=⟨_,rfl⟩
 obtain ⟨b,hb⟩:∃ b,b=chkZ t.data.toList:=⟨_,rfl⟩
 rw [← hE]
 unfold bothZ at hE
 rw [← ha,← hb] at hE
 rw [← ha] at hcs
 rw [← hb] at hct
 have HCS:=Lib.hid hcs
 have HCT:=Lib.hid hct
 have HE:=Lib.hid hE
 clear hcs hct hE ha hb
 by_cases h:a=0
 ·have t1:(a != 0)=false:=by simpa using h
  have hx:E=b:=by rw [HE.out,if_pos h]
  have HX:=Lib.hid hx
  clear hx h
  go_enter Tryz.func118,Tryz.ntmps118
  go_wp2_with fail
  refine (HCS.out _).mono ?_
  rintro e w1 ⟨rfl,b1⟩
  have B1:=Lib.hid b1
  clear b1
  go_wp2_with fail
  refine (HCT.out _).mono ?_
  rintro e w2 ⟨rfl,b2⟩
  have B2:=Lib.hid b2
  clear b2
  go_wp2_with fail
  go_ret
  exact ⟨ret_int HX.out.symm,B1.out.trans (B2.out.mono B1.out.size)⟩
 ·have t1:(a != 0)=true:=by simpa using h
  have hx:E=a:=by rw [HE.out,if_neg h]
  have HX:=Lib.hid hx
  clear hx h
  go_enter Tryz.func118,Tryz.ntmps118
  go_wp2_with fail
  refine (HCS.out _).mono ?_
  rintro e w1 ⟨rfl,b1⟩
  have B1:=Lib.hid b1
  clear b1
  go_wp2_with fail
  refine (HCS.out _).mono ?_
  rintro e w2 ⟨rfl,b2⟩
  have B2:=Lib.hid b2
  clear b2
  go_wp2_with fail
  go_ret
  exact ⟨ret_int HX.out.symm,B1.out.trans (B2.out.mono B1.out.size)⟩
def SEPost (w:World) (l:List UInt8) (n:Int) (e:Ending) (w':World):Prop:=e = .returned (.tuple #[.string ⟨l.toArray⟩,.int .i64 n])∧Below w.heap.size w w'
def GcR (w:World) (G:Nat) (gk:Nat) (xv yv:Value) (wr:World):Prop :=
 ∃ (a b:Option Addr) (n m c d:Nat) (X Y:List Nat),gk=dval Y∧xv = .slice a n c∧yv = .slice b m d∧X.length=n∧Y.length=m∧n≤5000∧m≤5000∧n≤c∧m≤d ∧
  (∀ x ∈ X,x < 10)∧(∀ x ∈ Y,x < 10)∧Nums .i64 wr a X∧Nums .i64 wr b Y∧Nat.gcd (dval X) (dval Y)=G∧(decN (dval Y)).length≤1000∧Below w.heap.size w wr
set_option maxHeartbeats 1000000 in
set_option maxRecDepth 100000 in
theorem rgcd_good (s t:ByteArray) (x y:Int) (w:World) (hx:s.data.toList=txtZ x) (hy:t.data.toList=txtZ y) (bx:bigZ x=false) (byy:bigZ y=false) (hs:s.size≤1000000) (ht:t.size≤1000000) :
  Calls Tryz.prog 110 #[.string s,.string t] w (SEPost w (txtZ (Nat.gcd x.natAbs y.natAbs:Int)) 0):=by
 have hb:=rboth_any s t w hs ht
 have hz:bothZ s.data.toList t.data.toList=0:=by
  unfold bothZ;rw [hx,hy,chkZ_txtZ,chkZ_txtZ,bx,byy];rfl
 rw [hz] at hb
 have hcs:=fun W => digits_any s W hs
 have hct:=fun W => digits_any t W ht
 rw [hx] at hcs
 rw [hy] at hct
 have lx:(decN x.natAbs).length≤1000:=by unfold bigZ at bx;simpa using bx
 have ly:(decN y.natAbs).length≤1000:=by unfold bigZ at byy;simpa using byy
 obtain ⟨G,hG⟩:∃ G,G=Nat.gcd x.natAbs y.natAbs:=⟨_,rfl⟩
 rw [← hG]
 have HG:=Lib.hid hG
 have HB:=Lib.hid hb
 have HCS:=Lib.hid hcs
 have HCT:=Lib.hid hct
 clear hb hcs hct hx hy hz bx byy hG
 go_enter Tryz.func110,Tryz.ntmps110
 go_wp2_with fail
 refine HB.out.mono ?_
 rintro e w1 ⟨rfl,b1⟩
 have B1:=Lib.hid b1
 clear b1
 go_wp2_with fail
 refine (HCS.out _).mono ?_
 rintro e w2 (⟨z,a,n,c,e1,rfl,e2,e3,e4,e5⟩ | ⟨e1,_⟩)
 case inr => rw [rdZ_txtZ] at e1;cases e1
 rw [rdZ_txtZ] at e1
 injection e1 with e1
 subst e1
 have B2:=Lib.hid e5
 have N2:=Lib.hid e4
 have L2:=Lib.hid e2
 clear e2 e4 e5
 go_wp2_with fail
 refine (HCT.out _).mono ?_
 rintro e w3 (⟨z,b,m,d,e1,rfl,e2,e4,e5,e6⟩ | ⟨e1,_⟩)
 case inr => rw [rdZ_txtZ] at e1;cases e1
 rw [rdZ_txtZ] at e1
 injection e1 with e1
 subst e1
 have st:GcR w G y.natAbs (.slice a n c) (.slice b m d) w3 :=
  ⟨a,b,n,m,c,d,decN x.natAbs,decN y.natAbs,(dval_decN _).symm,rfl,rfl,L2.out,e2,by rw [← L2.out];omega,by omega,e3,e4,decN_lt _,decN_lt _,N2.out.below e6,e5,by rw [dval_decN,dval_decN];exact HG.out.symm,by rw [dval_decN];exact ly,
   (B1.out.trans (B2.out.mono B1.out.size)).trans (e6.mono (by have:=B1.out.size;have:=B2.out.size;omega))⟩
 have ST:=Lib.hid st
 clear st e2 e5 e6 N2 L2 B1 B2 e3 e4 HB HCS HCT
 go_wp2_with fail
 go_loopg [7,10] y.natAbs (fun k xv yv wr => GcR w G k xv yv wr)
 case atStart => exact ST.out
 case round =>
  obtain ⟨w4,rfl⟩:∃ w4:World,w4=wr:=⟨_,rfl⟩
  obtain ⟨a,b,n,m,c,d,X,Y,rfl,rfl,rfl,h1,h2,h3,h4,h5,h6,h7,h8,h9,h10,h11,h12,h13⟩:=hrel
  have hz:=zero_any b m d Y w4 h2 (by omega) h8 h10
  have N1:=Lib.hid h9
  have N2:=Lib.hid h10
  have D1:=Lib.hid h7
  have D2:=Lib.hid h8
  have L1:=Lib.hid h1
  have L2:=Lib.hid h2
  have GG:=Lib.hid h11
  have BB:=Lib.hid h13
  by_cases hy0:dval Y=0
  ·have e:decide (dval Y=0)=true:=by simpa using hy0
   rw [e] at hz
   have HZ:=Lib.hid hz
   have hG2:dval X=G:=by rw [← h11,hy0,Nat.gcd_zero_right]
   have htx:=text_any a n c X false w4 h1 (by omega) h7 h9
   have e2:(if false=true then -(dval X:Int) else (dval X:Int))=(G:Int):=by simp [hG2]
   rw [e2] at htx
   have HT:=Lib.hid htx
   clear h1 h2 h7 h8 h9 h10 h11 h13 hz e hy0 hG2 htx e2
   go_wp2_with fail
   refine HZ.out.mono ?_
   rintro e w' ⟨rfl,rfl⟩
   go_wp2_with fail
   refine HT.out.mono ?_
   rintro e w5 ⟨rfl,b5⟩
   have B5:=Lib.hid b5
   clear b5
   go_wp2_with fail
   go_ret2
   exact ⟨rfl,BB.out.trans (B5.out.mono BB.out.size)⟩
  ·have e:decide (dval Y=0)=false:=by simpa using hy0
   rw [e] at hz
   have HZ:=Lib.hid hz
   have hdv:=ddivide_any a b n m c d X Y w4 h1 h2 (by omega) (by omega) h6 h7 h8 (by omega) h9 h10
   have HDV:=Lib.hid hdv
   have hyp:0 < dval Y:=by omega
   have HYP:=Lib.hid hyp
   clear h1 h2 h7 h8 h9 h10 h11 h13 hz e hy0 hdv hyp
   go_wp2_with fail
   refine HZ.out.mono ?_
   rintro e w' ⟨rfl,rfl⟩
   go_wp2_with fail
   refine HDV.out.mono ?_
   rintro e w5 ⟨a1,c1,q,a2,c2,r,rfl,q1,q2,q3,q4,q5,q6,q7,q8,q9,q10,q11⟩
   have hst:GcR w G (dval r) (.slice b m d) (.slice a2 r.length c2) w5:=by
    have hlt:dval r < dval Y:=by rw [q9];exact Nat.mod_lt _ HYP.out
    refine ⟨b,a2,m,r.length,d,c2,Y,r,rfl,rfl,rfl,L2.out,rfl,h4,by omega,h6,q2,D2.out,q7,N2.out.below q11,q5,?_,?_,BB.out.trans (q11.mono BB.out.size)⟩
    ·rw [q9,Nat.gcd_comm,← Nat.gcd_rec,Nat.gcd_comm];exact GG.out
    ·have:=decN_mono (Nat.le_of_lt hlt);omega
   have hms:dval r < dval Y:=by rw [q9];exact Nat.mod_lt _ HYP.out
   have HST:=Lib.hid hst
   have HMS:=Lib.hid hms
   clear q1 q2 q3 q4 q5 q6 q7 q8 q9 q10 q11 hst hms
   go_wp2_with fail
   go_roundg (dval r)
   case measure => exact HMS.out
   case rel => exact HST.out
end Go.Proofs.YtijkefflpojmhaaGreatDoor

namespace Go.Proofs.YtijkefflpojmhaaGreatDoor
open Go.RowKit
def slN (l:List UInt8):Nat:=(l.takeWhile (fun c => c != 47)).length
theorem slN_le (l:List UInt8):slN l≤l.length:=(List.takeWhile_sublist _).length_le
theorem slN_at {l:List UInt8} {k:Nat} (hk:k < l.length) (h0:∀ j,j < k→l[j]? ≠ some 47) (h:l[k]? = some 47):slN l=k:=by
 induction l generalizing k with
 | nil => simp at hk
 | cons c l ih =>
  cases k with
  | zero => simp at h;subst h;rfl
  | succ k =>
   have hc:c ≠ 47:=by have:=h0 0 (by omega);simpa using this
   have:=ih (k:=k) (by simpa using hk) (fun j hj => by have:=h0 (j+1) (by omega);simpa using this) (by simpa using h)
   unfold slN at this ⊢
   rw [List.takeWhile_cons,if_pos (by simpa using hc)]
   simp [this]
theorem slN_none {l:List UInt8} (h0:∀ j,j < l.length→l[j]? ≠ some 47):slN l=l.length:=by
 induction l with
 | nil => rfl
 | cons c l ih =>
  have hc:c ≠ 47:=by have:=h0 0 (by simp);simpa using this
  have:=ih (fun j hj => by have:=h0 (j+1) (by simpa using hj);simpa using this)
  unfold slN at this ⊢
  rw [List.takeWhile_cons,if_pos (by simpa using hc)]
  simp [this]
theorem slN_spec {l:List UInt8} (h:slN l < l.length):l[slN l]? = some 47 ∧ ∀ j,j < slN l→l[j]? ≠ some 47:=by
 induction l with
 | nil => simp at h
 | cons c l ih =>
  by_cases hc:c=47
  ·subst hc
   have e:slN (47 :: l)=0:=rfl
   rw [e];exact ⟨rfl,fun j hj => by omega⟩
  ·have e:slN (c :: l)=slN l+1:=by unfold slN;rw [List.takeWhile_cons,if_pos (by simpa using hc)];rfl
   rw [e] at h ⊢
   obtain ⟨h1,h2⟩:=ih (by simpa using h)
   refine ⟨by simpa using h1,fun j hj => ?_⟩
   cases j with
   | zero => simpa using hc
   | succ j => have:=h2 j (by omega);simpa using this
def gcdB (n d:List UInt8):Nat:=match rdZ n,rdZ d with
 | some x,some y => Nat.gcd x.natAbs y.natAbs
 | _,_ => 0
def chkF (n d:List UInt8):Int :=
 if chkZ n=12 ∨ chkZ d=12 ∨ d.head? = some 45 ∨ d=[48] ∨ d=[49] then 12
 else if chkZ n=14 ∨ chkZ d=14 then 14 else if gcdB n d=1 then 0 else 12
def chkR (l:List UInt8):Int:=if slN l < l.length then chkF (l.take (slN l)) (l.drop (slN l+1)) else chkZ l
theorem chkR_int {l:List UInt8} (h:slN l=l.length):chkR l=chkZ l:=by unfold chkR;rw [if_neg (by omega)]
theorem chkR_frac {l:List UInt8} {k:Nat} (h:slN l=k) (hk:k < l.length):chkR l=chkF (l.take k) (l.drop (k+1)):=by subst h;unfold chkR;rw [if_pos hk]
theorem chkF_12 {n d:List UInt8} (h:chkZ n=12 ∨ chkZ d=12 ∨ d.head? = some 45 ∨ d=[48] ∨ d=[49]):chkF n d=12:=by unfold chkF;rw [if_pos h]
theorem chkZ_cases (l:List UInt8):(chkZ l=12∧rdZ l=none) ∨ ∃ z,rdZ l=some z∧l=txtZ z∧chkZ l=if bigZ z=true then 14 else 0:=by
 cases e:rdZ l with
 | none => exact .inl ⟨chkZ_none e,rfl⟩
 | some z => right;have:=rdZ_some e;exact ⟨z,rfl,this,by rw [this];exact chkZ_txtZ z⟩
theorem chkZ_ne12 {z:Int}:chkZ (txtZ z) ≠ 12:=by rw [chkZ_txtZ];split <;> decide
theorem txtZ_head (z:Int):(txtZ z).head? = some 45 ↔ z < 0:=by
 unfold txtZ
 split
 ·simp [*]
 ·simp [*,txtN_head]
theorem chkF_some (x y:Int) (hy:0≤y) (h0:txtZ y ≠ [48]) (h1:txtZ y ≠ [49]) :
  chkF (txtZ x) (txtZ y)=if bigZ x=true ∨ bigZ y=true then 14 else if Nat.gcd x.natAbs y.natAbs=1 then 0 else 12:=by
 unfold chkF gcdB
 rw [if_neg,chkZ_txtZ,chkZ_txtZ,rdZ_txtZ,rdZ_txtZ]
 ·cases bigZ x <;> cases bigZ y <;> simp
 ·rintro (h | h | h | h | h)
  ·exact chkZ_ne12 h
  ·exact chkZ_ne12 h
  ·rw [txtZ_head] at h;omega
  ·exact h0 h
  ·exact h1 h
theorem txtZ_1:txtZ 1=[49]:=by
 have:decN 1=[1]:=by unfold decN;rw [if_neg (by decide),decL_pos (by decide)];show _ :: decL 0=_;rw [decL_zero]
 show txtZ ((1:Nat):Int)=_
 rw [txtZ_pos];unfold txtN;rw [this];rfl
theorem txtZ_one (n:Nat):txtZ (n:Int)=[49] ↔ n=1:=by
 constructor
 ·intro h
  have:txtZ (n:Int)=txtZ 1:=h.trans txtZ_1.symm
  have:=txtZ_inj this;omega
 ·rintro rfl;exact txtZ_1
theorem chkZ_one:chkZ [49]=0:=by
 rw [← txtZ_1,chkZ_txtZ]
 have:decN 1=[1]:=by unfold decN;rw [if_neg (by decide),decL_pos (by decide)];show _ :: decL 0=_;rw [decL_zero]
 unfold bigZ;rw [show (1:Int).natAbs=1 from rfl,this];rfl
theorem bigZ_one:bigZ 1=false:=by
 have:=chkZ_one
 rw [← txtZ_1,chkZ_txtZ] at this
 cases h:bigZ 1 with
 | false => rfl
 | true => rw [h] at this;cases this
def slI (l:List UInt8):Int:=if slN l < l.length then (slN l:Int) else -1
theorem slI_at {l:List UInt8} {k:Nat} (h:slN l=k) (hk:k < l.length):slI l=k:=by subst h;unfold slI;rw [if_pos hk]
theorem slI_none {l:List UInt8} (h:slN l=l.length):slI l = -1:=by unfold slI;rw [if_neg (by omega)]
set_option maxHeartbeats 400000 in
theorem slash_any (s:ByteArray) (w:World) (hs:s.size≤1000000) :
  Calls Tryz.prog 109 #[.string s] w fun e w' => e = .returned (.int .i64 (slI s.data.toList))∧w=w':=by
 go_enter Tryz.func109,Tryz.ntmps109
 go_wp2_with fail
 go_loop [3] (fun i => ∃ k:Nat,k≤s.size∧i = .int .i64 k∧Hid (∀ j,j < k→s.data.toList[j]? ≠ some 47)) (fun i => s.size - (intOf i).toNat)
 case atStart => exact ⟨0,Nat.zero_le _,rfl,fun j hj => absurd hj (Nat.not_lt_zero _)⟩
 case round =>
  obtain ⟨k,hk,rfl,hd⟩:=hrel
  by_cases hlt:k < s.size
  ·by_cases hc:((s[k].toNat:Int) == 47)=true
   ·have e:Hid (slI s.data.toList=k):=slI_at (slN_at (by rw [data_len];exact hlt) hd.out (by rw [Lib.data_getElem? s k hlt,u8_eq (c:=s[k]) (n:=47) (by simpa using hc) (by omega)];rfl)) (by rw [data_len];exact hlt)
    go_wp2
    go_ret
    exact ⟨ret_int e.out.symm,rfl⟩
   ·have hc:((s[k].toNat:Int) == 47)=false:=by simpa using hc
    have HN:Hid (∀ j,j < k+1→s.data.toList[j]? ≠ some 47):=fun j hj => by
     by_cases e:j=k
     ·subst e
      rw [Lib.data_getElem? s j hlt]
      intro h;injection h with h
      rw [h] at hc;cases hc
     ·exact hd.out j (by omega)
    go_wp2
    go_round
    case rel => exact ⟨k+1,by omega,by go_num,HN⟩
    case measure => simp [intOf];omega
  ·have e:Hid (slI s.data.toList = -1):=slI_none (slN_none fun j hj => hd.out j (by rw [data_len] at hj;omega))
   go_wp2
   go_ret
   exact ⟨ret_int e.out.symm,rfl⟩
theorem written_int (s:ByteArray) (w:World) (hs:s.size≤1000000) (h:slN s.data.toList=s.data.toList.length) :
  Calls Tryz.prog 107 #[.string s] w fun e w' => e = .returned (.tuple #[.string s,.string ⟨#[49]⟩])∧w=w':=by
 have hc:=slash_any s w hs
 rw [slI_none h] at hc
 have HC:=Lib.hid hc
 clear hc h
 go_enter Tryz.func107,Tryz.ntmps107
 go_wp2_with fail
 refine HC.out.mono ?_
 rintro e w' ⟨rfl,rfl⟩
 go_wp2_with fail
 go_ret2
 exact ⟨rfl,rfl⟩
theorem written_frac (s:ByteArray) (k:Nat) (w:World) (hs:s.size≤1000000) (h:slN s.data.toList=k) (hk:k < s.size) :
  Calls Tryz.prog 107 #[.string s] w fun e w' => e = .returned (.tuple #[.string (s.extract 0 k),.string (s.extract (k+1) s.size)]) ∧ ∃ q,w' = w.drewN q:=by
 have hc:=slash_any s w hs
 rw [slI_at h (by rw [data_len];exact hk)] at hc
 have HC:=Lib.hid hc
 clear hc h
 have wr1:IntKind.i64.wrap ((k:Int)+1)=(k:Int)+1:=by rw [IntKind.wrap_i64];omega
 go_enter Tryz.func107,Tryz.ntmps107
 go_wp2_with fail
 refine HC.out.mono ?_
 rintro e w' ⟨rfl,rfl⟩
 go_wp2_with fail
 go_quiet (fail)
 go_wp2_with fail
 go_ret2
 exact ⟨rfl,_,rfl⟩
end Go.Proofs.YtijkefflpojmhaaGreatDoor

namespace Go.Proofs.YtijkefflpojmhaaGreatDoor
open Go.RowKit
def WrPost (w:World) (n d:ByteArray) (e:Ending) (w':World):Prop:=e = .returned (.tuple #[.string n,.string d])∧Below w.heap.size w w'
def GPost (w:World) (g:ByteArray) (e:Ending) (w':World):Prop:=e = .returned (.tuple #[.string g,.int .i64 0])∧Below w.heap.size w w'
def DigYes (w:World) (z:Int) (e:Ending) (w':World):Prop :=
 ∃ a n c,e = .returned (.tuple #[.slice a n c,.bool (decide (z < 0)),.bool true])∧(decN z.natAbs).length=n∧Below w.heap.size w w'
def DigNo (w:World) (e:Ending) (w':World):Prop:=e = .returned (.tuple #[.slice none 0 0,.bool false,.bool false])∧Below w.heap.size w w'
theorem digits_yes (s:ByteArray) (z:Int) (w:World) (hs:s.size≤1000000) (h:rdZ s.data.toList=some z):Calls Tryz.prog 108 #[.string s] w (DigYes w z) :=
 (digits_any s w hs).mono fun e w' hp => by
  rcases hp with ⟨y,a,n,c,e1,e2,e3,_,_,e6⟩ | ⟨e1,_⟩
  ·rw [h] at e1;injection e1 with e1;subst e1
   exact ⟨a,n,c,e2,e3,e6⟩
  ·rw [h] at e1;cases e1
theorem digits_no (s:ByteArray) (w:World) (hs:s.size≤1000000) (h:rdZ s.data.toList=none):Calls Tryz.prog 108 #[.string s] w (DigNo w) :=
 (digits_any s w hs).mono fun e w' hp => by
  rcases hp with ⟨y,a,n,c,e1,_⟩ | ⟨_,e2,e3⟩
  ·rw [h] at e1;cases e1
  ·exact ⟨e2,e3⟩
set_option maxHeartbeats 1000000 in
set_option maxRecDepth 100000 in
theorem rc_nn (s n d:ByteArray) (HN:Hid (∀ W,Calls Tryz.prog 108 #[.string n] W (DigNo W))) (HD:Hid (∀ W,Calls Tryz.prog 108 #[.string d] W (DigNo W)))  (w:World)
  (HW:Hid (Calls Tryz.prog 107 #[.string s] w (WrPost w n d))) :
  Calls Tryz.prog 95 #[.string s] w (ErrPost w 12):=by
 go_enter Tryz.func95,Tryz.ntmps95
 go_wp2_with fail
 refine HW.out.mono ?_
 rintro e w1 ⟨rfl,b1⟩
 have B:=Lib.hid b1
 clear b1
 go_wp2_with fail
 refine (HN.out _).mono ?_
 rintro e w2 ⟨rfl,b2⟩
 have B0:=Lib.hid (B.out.trans (b2.mono B.out.size))
 clear b2 B
 obtain ⟨B⟩:Nonempty (Hid (Below w.heap.size w w2)):=⟨B0⟩
 clear B0
 go_wp2_with fail
 refine (HD.out _).mono ?_
 rintro e w3 ⟨rfl,b3⟩
 have B1:=Lib.hid (B.out.trans (b3.mono B.out.size))
 clear b3 B
 obtain ⟨B⟩:Nonempty (Hid (Below w.heap.size w w3)):=⟨B1⟩
 clear B1
 go_wp2_with fail
 go_ret
 exact ⟨rfl,B.out⟩
set_option maxHeartbeats 1000000 in
set_option maxRecDepth 100000 in
theorem rc_ny (s n d:ByteArray) (y:Int) (HN:Hid (∀ W,Calls Tryz.prog 108 #[.string n] W (DigNo W))) (HD:Hid (∀ W,Calls Tryz.prog 108 #[.string d] W (DigYes W y))) (byy:Bool) (SY:Hid (decide (y < 0)=byy))  (w:World)
  (HW:Hid (Calls Tryz.prog 107 #[.string s] w (WrPost w n d))) :
  Calls Tryz.prog 95 #[.string s] w (ErrPost w 12):=by
 go_enter Tryz.func95,Tryz.ntmps95
 go_wp2_with fail
 refine HW.out.mono ?_
 rintro e w1 ⟨rfl,b1⟩
 have B:=Lib.hid b1
 clear b1
 go_wp2_with fail
 refine (HN.out _).mono ?_
 rintro e w2 ⟨rfl,b2⟩
 have B0:=Lib.hid (B.out.trans (b2.mono B.out.size))
 clear b2 B
 obtain ⟨B⟩:Nonempty (Hid (Below w.heap.size w w2)):=⟨B0⟩
 clear B0
 go_wp2_with fail
 refine (HD.out _).mono ?_
 rintro e w3 ⟨a2,n2,c2,rfl,l3,b3⟩
 have B1:=Lib.hid (B.out.trans (b3.mono B.out.size))
 have L3:=Lib.hid l3
 clear b3 B l3
 obtain ⟨B⟩:Nonempty (Hid (Below w.heap.size w w3)):=⟨B1⟩
 clear B1
 rw [SY.out]
 go_wp2_with fail
 go_ret
 exact ⟨rfl,B.out⟩
set_option maxHeartbeats 1000000 in
set_option maxRecDepth 100000 in
theorem rc_yn (s n d:ByteArray) (x:Int) (HN:Hid (∀ W,Calls Tryz.prog 108 #[.string n] W (DigYes W x))) (HD:Hid (∀ W,Calls Tryz.prog 108 #[.string d] W (DigNo W))) (bx:Bool) (SX:Hid (decide (x < 0)=bx))  (w:World)
  (HW:Hid (Calls Tryz.prog 107 #[.string s] w (WrPost w n d))) :
  Calls Tryz.prog 95 #[.string s] w (ErrPost w 12):=by
 go_enter Tryz.func95,Tryz.ntmps95
 go_wp2_with fail
 refine HW.out.mono ?_
 rintro e w1 ⟨rfl,b1⟩
 have B:=Lib.hid b1
 clear b1
 go_wp2_with fail
 refine (HN.out _).mono ?_
 rintro e w2 ⟨a1,n1,c1,rfl,l2,b2⟩
 have B0:=Lib.hid (B.out.trans (b2.mono B.out.size))
 have L2:=Lib.hid l2
 clear b2 B l2
 obtain ⟨B⟩:Nonempty (Hid (Below w.heap.size w w2)):=⟨B0⟩
 clear B0
 rw [SX.out]
 go_wp2_with fail
 refine (HD.out _).mono ?_
 rintro e w3 ⟨rfl,b3⟩
 have B1:=Lib.hid (B.out.trans (b3.mono B.out.size))
 clear b3 B
 obtain ⟨B⟩:Nonempty (Hid (Below w.heap.size w w3)):=⟨B1⟩
 clear B1
 go_wp2_with fail
 go_ret
 exact ⟨rfl,B.out⟩
set_option maxHeartbeats 1000000 in
set_option maxRecDepth 100000 in
theorem rc_neg (s n d:ByteArray) (x y:Int) (HN:Hid (∀ W,Calls Tryz.prog 108 #[.string n] W (DigYes W x))) (HD:Hid (∀ W,Calls Tryz.prog 108 #[.string d] W (DigYes W y))) (bx:Bool) (SX:Hid (decide (x < 0)=bx)) (SY:Hid (decide (y < 0)=true))  (w:World)
  (HW:Hid (Calls Tryz.prog 107 #[.string s] w (WrPost w n d))) :
  Calls Tryz.prog 95 #[.string s] w (ErrPost w 12):=by
 go_enter Tryz.func95,Tryz.ntmps95
 go_wp2_with fail
 refine HW.out.mono ?_
 rintro e w1 ⟨rfl,b1⟩
 have B:=Lib.hid b1
 clear b1
 go_wp2_with fail
 refine (HN.out _).mono ?_
 rintro e w2 ⟨a1,n1,c1,rfl,l2,b2⟩
 have B0:=Lib.hid (B.out.trans (b2.mono B.out.size))
 have L2:=Lib.hid l2
 clear b2 B l2
 obtain ⟨B⟩:Nonempty (Hid (Below w.heap.size w w2)):=⟨B0⟩
 clear B0
 rw [SX.out]
 go_wp2_with fail
 refine (HD.out _).mono ?_
 rintro e w3 ⟨a2,n2,c2,rfl,l3,b3⟩
 have B1:=Lib.hid (B.out.trans (b3.mono B.out.size))
 have L3:=Lib.hid l3
 clear b3 B l3
 obtain ⟨B⟩:Nonempty (Hid (Below w.heap.size w w3)):=⟨B1⟩
 clear B1
 rw [SY.out]
 go_wp2_with fail
 go_ret
 exact ⟨rfl,B.out⟩
set_option maxHeartbeats 1000000 in
set_option maxRecDepth 100000 in
theorem rc_zero (s n d:ByteArray) (x y:Int) (HN:Hid (∀ W,Calls Tryz.prog 108 #[.string n] W (DigYes W x))) (HD:Hid (∀ W,Calls Tryz.prog 108 #[.string d] W (DigYes W y))) (bx:Bool) (SX:Hid (decide (x < 0)=bx)) (SY:Hid (decide (y < 0)=false)) (d0:(d.toList == [48])=true)  (w:World)
  (HW:Hid (Calls Tryz.prog 107 #[.string s] w (WrPost w n d))) :
  Calls Tryz.prog 95 #[.string s] w (ErrPost w 12):=by
 go_enter Tryz.func95,Tryz.ntmps95
 go_wp2_with fail
 refine HW.out.mono ?_
 rintro e w1 ⟨rfl,b1⟩
 have B:=Lib.hid b1
 clear b1
 go_wp2_with fail
 refine (HN.out _).mono ?_
 rintro e w2 ⟨a1,n1,c1,rfl,l2,b2⟩
 have B0:=Lib.hid (B.out.trans (b2.mono B.out.size))
 have L2:=Lib.hid l2
 clear b2 B l2
 obtain ⟨B⟩:Nonempty (Hid (Below w.heap.size w w2)):=⟨B0⟩
 clear B0
 rw [SX.out]
 go_wp2_with fail
 refine (HD.out _).mono ?_
 rintro e w3 ⟨a2,n2,c2,rfl,l3,b3⟩
 have B1:=Lib.hid (B.out.trans (b3.mono B.out.size))
 have L3:=Lib.hid l3
 clear b3 B l3
 obtain ⟨B⟩:Nonempty (Hid (Below w.heap.size w w3)):=⟨B1⟩
 clear B1
 rw [SY.out]
 go_wp2_with fail
 go_ret
 exact ⟨rfl,B.out⟩
set_option maxHeartbeats 1000000 in
set_option maxRecDepth 100000 in
theorem rc_one (s n d:ByteArray) (x y:Int) (HN:Hid (∀ W,Calls Tryz.prog 108 #[.string n] W (DigYes W x))) (HD:Hid (∀ W,Calls Tryz.prog 108 #[.string d] W (DigYes W y))) (bx:Bool) (SX:Hid (decide (x < 0)=bx)) (SY:Hid (decide (y < 0)=false)) (d0:(d.toList == [48])=false) (d1:(d.toList == [49])=true) (i:Int) (HS:Hid (∀ W,Calls Tryz.prog 109 #[.string s] W fun e w' => e = .returned (.int .i64 i)∧W=w')) (hi:decide ((0:Int)≤i)=true)  (w:World)
  (HW:Hid (Calls Tryz.prog 107 #[.string s] w (WrPost w n d))) :
  Calls Tryz.prog 95 #[.string s] w (ErrPost w 12):=by
 go_enter Tryz.func95,Tryz.ntmps95
 go_wp2_with fail
 refine HW.out.mono ?_
 rintro e w1 ⟨rfl,b1⟩
 have B:=Lib.hid b1
 clear b1
 go_wp2_with fail
 refine (HN.out _).mono ?_
 rintro e w2 ⟨a1,n1,c1,rfl,l2,b2⟩
 have B0:=Lib.hid (B.out.trans (b2.mono B.out.size))
 have L2:=Lib.hid l2
 clear b2 B l2
 obtain ⟨B⟩:Nonempty (Hid (Below w.heap.size w w2)):=⟨B0⟩
 clear B0
 rw [SX.out]
 go_wp2_with fail
 refine (HD.out _).mono ?_
 rintro e w3 ⟨a2,n2,c2,rfl,l3,b3⟩
 have B1:=Lib.hid (B.out.trans (b3.mono B.out.size))
 have L3:=Lib.hid l3
 clear b3 B l3
 obtain ⟨B⟩:Nonempty (Hid (Below w.heap.size w w3)):=⟨B1⟩
 clear B1
 rw [SY.out]
 go_wp2_with fail
 refine (HS.out _).mono ?_
 rintro e w' ⟨rfl,rfl⟩
 go_wp2_with fail
 go_ret
 exact ⟨rfl,B.out⟩
set_option maxHeartbeats 1000000 in
set_option maxRecDepth 100000 in
theorem rc_big (s n d:ByteArray) (x y:Int) (HN:Hid (∀ W,Calls Tryz.prog 108 #[.string n] W (DigYes W x))) (HD:Hid (∀ W,Calls Tryz.prog 108 #[.string d] W (DigYes W y))) (bx:Bool) (SX:Hid (decide (x < 0)=bx)) (SY:Hid (decide (y < 0)=false)) (d0:(d.toList == [48])=false) (d1:(d.toList == [49])=false) (i:Int) (HS:Hid (∀ W,Calls Tryz.prog 109 #[.string s] W fun e w' => e = .returned (.int .i64 i)∧W=w')) (hi:decide ((0:Int)≤i)=true) (HB:Hid (1000 < (decN x.natAbs).length ∨ 1000 < (decN y.natAbs).length))  (w:World)
  (HW:Hid (Calls Tryz.prog 107 #[.string s] w (WrPost w n d))) :
  Calls Tryz.prog 95 #[.string s] w (ErrPost w 14):=by
 go_enter Tryz.func95,Tryz.ntmps95
 go_wp2_with fail
 refine HW.out.mono ?_
 rintro e w1 ⟨rfl,b1⟩
 have B:=Lib.hid b1
 clear b1
 go_wp2_with fail
 refine (HN.out _).mono ?_
 rintro e w2 ⟨a1,n1,c1,rfl,l2,b2⟩
 have B0:=Lib.hid (B.out.trans (b2.mono B.out.size))
 have L2:=Lib.hid l2
 clear b2 B l2
 obtain ⟨B⟩:Nonempty (Hid (Below w.heap.size w w2)):=⟨B0⟩
 clear B0
 rw [SX.out]
 go_wp2_with fail
 refine (HD.out _).mono ?_
 rintro e w3 ⟨a2,n2,c2,rfl,l3,b3⟩
 have B1:=Lib.hid (B.out.trans (b3.mono B.out.size))
 have L3:=Lib.hid l3
 clear b3 B l3
 obtain ⟨B⟩:Nonempty (Hid (Below w.heap.size w w3)):=⟨B1⟩
 clear B1
 rw [SY.out]
 go_wp2_with fail
 refine (HS.out _).mono ?_
 rintro e w' ⟨rfl,rfl⟩
 have l2:=L2.out
 have l3:=L3.out
 rcases HB.out with h | h
 ·have hb:1000 < n1:=by omega
  clear l2 l3 h
  go_wp2_with fail
  go_ret
  exact ⟨rfl,B.out⟩
 ·by_cases hb:1000 < n1
  ·clear l2 l3 h
   go_wp2_with fail
   go_ret
   exact ⟨rfl,B.out⟩
  ·have hb2:1000 < n2:=by omega
   clear l2 l3 h
   go_wp2_with fail
   go_ret
   exact ⟨rfl,B.out⟩
set_option maxHeartbeats 1000000 in
set_option maxRecDepth 100000 in
theorem rc_bigi (s n d:ByteArray) (x y:Int) (HN:Hid (∀ W,Calls Tryz.prog 108 #[.string n] W (DigYes W x))) (HD:Hid (∀ W,Calls Tryz.prog 108 #[.string d] W (DigYes W y))) (bx:Bool) (SX:Hid (decide (x < 0)=bx)) (SY:Hid (decide (y < 0)=false)) (d0:(d.toList == [48])=false) (i:Int) (HS:Hid (∀ W,Calls Tryz.prog 109 #[.string s] W fun e w' => e = .returned (.int .i64 i)∧W=w')) (hi:decide ((0:Int)≤i)=false) (HB:Hid (1000 < (decN x.natAbs).length ∨ 1000 < (decN y.natAbs).length))  (w:World)
  (HW:Hid (Calls Tryz.prog 107 #[.string s] w (WrPost w n d))) :
  Calls Tryz.prog 95 #[.string s] w (ErrPost w 14):=by
 go_enter Tryz.func95,Tryz.ntmps95
 go_wp2_with fail
 refine HW.out.mono ?_
 rintro e w1 ⟨rfl,b1⟩
 have B:=Lib.hid b1
 clear b1
 go_wp2_with fail
 refine (HN.out _).mono ?_
 rintro e w2 ⟨a1,n1,c1,rfl,l2,b2⟩
 have B0:=Lib.hid (B.out.trans (b2.mono B.out.size))
 have L2:=Lib.hid l2
 clear b2 B l2
 obtain ⟨B⟩:Nonempty (Hid (Below w.heap.size w w2)):=⟨B0⟩
 clear B0
 rw [SX.out]
 go_wp2_with fail
 refine (HD.out _).mono ?_
 rintro e w3 ⟨a2,n2,c2,rfl,l3,b3⟩
 have B1:=Lib.hid (B.out.trans (b3.mono B.out.size))
 have L3:=Lib.hid l3
 clear b3 B l3
 obtain ⟨B⟩:Nonempty (Hid (Below w.heap.size w w3)):=⟨B1⟩
 clear B1
 rw [SY.out]
 go_wp2_with fail
 refine (HS.out _).mono ?_
 rintro e w' ⟨rfl,rfl⟩
 have l2:=L2.out
 have l3:=L3.out
 rcases HB.out with h | h
 ·have hb:1000 < n1:=by omega
  clear l2 l3 h
  go_wp2_with fail
  go_ret
  exact ⟨rfl,B.out⟩
 ·by_cases hb:1000 < n1
  ·clear l2 l3 h
   go_wp2_with fail
   go_ret
   exact ⟨rfl,B.out⟩
  ·have hb2:1000 < n2:=by omega
   clear l2 l3 h
   go_wp2_with fail
   go_ret
   exact ⟨rfl,B.out⟩
set_option maxHeartbeats 1000000 in
set_option maxRecDepth 100000 in
theorem rc_gno (s n d:ByteArray) (x y:Int) (HN:Hid (∀ W,Calls Tryz.prog 108 #[.string n] W (DigYes W x))) (HD:Hid (∀ W,Calls Tryz.prog 108 #[.string d] W (DigYes W y))) (bx:Bool) (SX:Hid (decide (x < 0)=bx)) (SY:Hid (decide (y < 0)=false)) (d0:(d.toList == [48])=false) (d1:(d.toList == [49])=false) (i:Int) (HS:Hid (∀ W,Calls Tryz.prog 109 #[.string s] W fun e w' => e = .returned (.int .i64 i)∧W=w')) (hi:decide ((0:Int)≤i)=true) (g:ByteArray) (HG:Hid (∀ W,Calls Tryz.prog 110 #[.string n,.string d] W (GPost W g))) (HSM:Hid ((decN x.natAbs).length≤1000∧(decN y.natAbs).length≤1000)) (hg:(g.toList == [49])=false)  (w:World)
  (HW:Hid (Calls Tryz.prog 107 #[.string s] w (WrPost w n d))) :
  Calls Tryz.prog 95 #[.string s] w (ErrPost w 12):=by
 go_enter Tryz.func95,Tryz.ntmps95
 go_wp2_with fail
 refine HW.out.mono ?_
 rintro e w1 ⟨rfl,b1⟩
 have B:=Lib.hid b1
 clear b1
 go_wp2_with fail
 refine (HN.out _).mono ?_
 rintro e w2 ⟨a1,n1,c1,rfl,l2,b2⟩
 have B0:=Lib.hid (B.out.trans (b2.mono B.out.size))
 have L2:=Lib.hid l2
 clear b2 B l2
 obtain ⟨B⟩:Nonempty (Hid (Below w.heap.size w w2)):=⟨B0⟩
 clear B0
 rw [SX.out]
 go_wp2_with fail
 refine (HD.out _).mono ?_
 rintro e w3 ⟨a2,n2,c2,rfl,l3,b3⟩
 have B1:=Lib.hid (B.out.trans (b3.mono B.out.size))
 have L3:=Lib.hid l3
 clear b3 B l3
 obtain ⟨B⟩:Nonempty (Hid (Below w.heap.size w w3)):=⟨B1⟩
 clear B1
 rw [SY.out]
 go_wp2_with fail
 refine (HS.out _).mono ?_
 rintro e w' ⟨rfl,rfl⟩
 have l2:=L2.out
 have l3:=L3.out
 have hs1:=HSM.out
 have k2:n1≤1000:=by omega
 have k3:n2≤1000:=by omega
 clear l2 l3 hs1
 go_wp2_with fail
 refine (HG.out _).mono ?_
 rintro e w4 ⟨rfl,b4⟩
 have B4:=Lib.hid (B.out.trans (b4.mono B.out.size))
 clear b4
 go_wp2_with fail
 refine (HS.out _).mono ?_
 rintro e w' ⟨rfl,rfl⟩
 go_wp2_with fail
 go_ret
 exact ⟨rfl,B4.out⟩
set_option maxHeartbeats 1000000 in
set_option maxRecDepth 100000 in
theorem rc_gyes (s n d:ByteArray) (x y:Int) (HN:Hid (∀ W,Calls Tryz.prog 108 #[.string n] W (DigYes W x))) (HD:Hid (∀ W,Calls Tryz.prog 108 #[.string d] W (DigYes W y))) (bx:Bool) (SX:Hid (decide (x < 0)=bx)) (SY:Hid (decide (y < 0)=false)) (d0:(d.toList == [48])=false) (d1:(d.toList == [49])=false) (i:Int) (HS:Hid (∀ W,Calls Tryz.prog 109 #[.string s] W fun e w' => e = .returned (.int .i64 i)∧W=w')) (hi:decide ((0:Int)≤i)=true) (g:ByteArray) (HG:Hid (∀ W,Calls Tryz.prog 110 #[.string n,.string d] W (GPost W g))) (HSM:Hid ((decN x.natAbs).length≤1000∧(decN y.natAbs).length≤1000)) (hg:(g.toList == [49])=true)  (w:World)
  (HW:Hid (Calls Tryz.prog 107 #[.string s] w (WrPost w n d))) :
  Calls Tryz.prog 95 #[.string s] w (ErrPost w 0):=by
 go_enter Tryz.func95,Tryz.ntmps95
 go_wp2_with fail
 refine HW.out.mono ?_
 rintro e w1 ⟨rfl,b1⟩
 have B:=Lib.hid b1
 clear b1
 go_wp2_with fail
 refine (HN.out _).mono ?_
 rintro e w2 ⟨a1,n1,c1,rfl,l2,b2⟩
 have B0:=Lib.hid (B.out.trans (b2.mono B.out.size))
 have L2:=Lib.hid l2
 clear b2 B l2
 obtain ⟨B⟩:Nonempty (Hid (Below w.heap.size w w2)):=⟨B0⟩
 clear B0
 rw [SX.out]
 go_wp2_with fail
 refine (HD.out _).mono ?_
 rintro e w3 ⟨a2,n2,c2,rfl,l3,b3⟩
 have B1:=Lib.hid (B.out.trans (b3.mono B.out.size))
 have L3:=Lib.hid l3
 clear b3 B l3
 obtain ⟨B⟩:Nonempty (Hid (Below w.heap.size w w3)):=⟨B1⟩
 clear B1
 rw [SY.out]
 go_wp2_with fail
 refine (HS.out _).mono ?_
 rintro e w' ⟨rfl,rfl⟩
 have l2:=L2.out
 have l3:=L3.out
 have hs1:=HSM.out
 have k2:n1≤1000:=by omega
 have k3:n2≤1000:=by omega
 clear l2 l3 hs1
 go_wp2_with fail
 refine (HG.out _).mono ?_
 rintro e w4 ⟨rfl,b4⟩
 have B4:=Lib.hid (B.out.trans (b4.mono B.out.size))
 clear b4
 go_wp2_with fail
 refine (HS.out _).mono ?_
 rintro e w' ⟨rfl,rfl⟩
 go_wp2_with fail
 go_ret
 exact ⟨rfl,B4.out⟩
set_option maxHeartbeats 1000000 in
set_option maxRecDepth 100000 in
theorem rc_gi (s n d:ByteArray) (x y:Int) (HN:Hid (∀ W,Calls Tryz.prog 108 #[.string n] W (DigYes W x))) (HD:Hid (∀ W,Calls Tryz.prog 108 #[.string d] W (DigYes W y))) (bx:Bool) (SX:Hid (decide (x < 0)=bx)) (SY:Hid (decide (y < 0)=false)) (d0:(d.toList == [48])=false) (i:Int) (HS:Hid (∀ W,Calls Tryz.prog 109 #[.string s] W fun e w' => e = .returned (.int .i64 i)∧W=w')) (hi:decide ((0:Int)≤i)=false) (g:ByteArray) (HG:Hid (∀ W,Calls Tryz.prog 110 #[.string n,.string d] W (GPost W g))) (HSM:Hid ((decN x.natAbs).length≤1000∧(decN y.natAbs).length≤1000))  (w:World)
  (HW:Hid (Calls Tryz.prog 107 #[.string s] w (WrPost w n d))) :
  Calls Tryz.prog 95 #[.string s] w (ErrPost w 0):=by
 go_enter Tryz.func95,Tryz.ntmps95
 go_wp2_with fail
 refine HW.out.mono ?_
 rintro e w1 ⟨rfl,b1⟩
 have B:=Lib.hid b1
 clear b1
 go_wp2_with fail
 refine (HN.out _).mono ?_
 rintro e w2 ⟨a1,n1,c1,rfl,l2,b2⟩
 have B0:=Lib.hid (B.out.trans (b2.mono B.out.size))
 have L2:=Lib.hid l2
 clear b2 B l2
 obtain ⟨B⟩:Nonempty (Hid (Below w.heap.size w w2)):=⟨B0⟩
 clear B0
 rw [SX.out]
 go_wp2_with fail
 refine (HD.out _).mono ?_
 rintro e w3 ⟨a2,n2,c2,rfl,l3,b3⟩
 have B1:=Lib.hid (B.out.trans (b3.mono B.out.size))
 have L3:=Lib.hid l3
 clear b3 B l3
 obtain ⟨B⟩:Nonempty (Hid (Below w.heap.size w w3)):=⟨B1⟩
 clear B1
 rw [SY.out]
 go_wp2_with fail
 refine (HS.out _).mono ?_
 rintro e w' ⟨rfl,rfl⟩
 have l2:=L2.out
 have l3:=L3.out
 have hs1:=HSM.out
 have k2:n1≤1000:=by omega
 have k3:n2≤1000:=by omega
 clear l2 l3 hs1
 go_wp2_with fail
 refine (HG.out _).mono ?_
 rintro e w4 ⟨rfl,b4⟩
 have B4:=Lib.hid (B.out.trans (b4.mono B.out.size))
 clear b4
 go_wp2_with fail
 refine (HS.out _).mono ?_
 rintro e w' ⟨rfl,rfl⟩
 go_wp2_with fail
 go_ret
 exact ⟨rfl,B4.out⟩
end Go.Proofs.YtijkefflpojmhaaGreatDoor
