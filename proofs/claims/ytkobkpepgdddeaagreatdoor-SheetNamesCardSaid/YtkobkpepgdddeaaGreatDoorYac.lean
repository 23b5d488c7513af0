/-
  The reference's Digits. No condition.
-/
import Derived.Test.YtkobkpepgdddeaaGreatDoorYab
import Derived.Laws.IdiomStrings
import Derived.RangeFuncBox
import Derived.RangeFuncLeaves
import Derived.RangeFuncWrites
import Derived.Shelf.Abstract
import Derived.OwnWalkIn
import Derived.TacticsInMore
import Derived.LoopNIn
import Derived.LoopIn
import Derived.Maps.AppendAt
import Derived.Outline
import Derived.RegionIn
namespace Go.Proofs.YtkobkpepgdddeaaGreatDoor
open Go.RowKit
set_option maxHeartbeats 16000000
set_option maxRecDepth 100000
theorem zcv(s:ByteArray)(k:Nat)(h:k<s.size):s.data.toList.drop k=s[k] :: s.data.toList.drop (k+1):=by
 rw[List.drop_eq_getElem_cons (by rw[zab];exact h)]
 congr 1
theorem zsi{n:Nat}(h:0<n):txtZ (-(n:Int))=45 :: txtN n:=by
 unfold txtZ;rw[if_pos (by omega),Int.natAbs_neg,Int.natAbs_natCast]
theorem zm3(n:Nat):txtZ (n:Int)=txtN n:=by
 unfold txtZ;rw[if_neg (by omega),Int.natAbs_natCast]
theorem z7z(l:List Nat)(k:Nat)(hk:k+1≤l.length)(d:∀x ∈ l,x<10)(h:dval (l.take (k+1))=dval l)(h0:l.getD k 0≠0):decN (dval l)=l.take (k+1)∧0<dval l:=by
 have hD:Dig (l.take (k+1)):=by
  refine⟨fun x hx=>d x (List.mem_of_mem_take hx),?_⟩;rw[List.take_add_one,List.getElem?_eq_getElem (by omega)];simp only[Option.toList_some,List.getLast?_concat];rw[List.getD_eq_getElem?_getD,List.getElem?_eq_getElem (by omega)]at h0;simpa using h0
 have e:=zle _ hD;rw[h]at e
 have Z0:dval l≠0:=by
  intro hz;rw[hz,zdh]at e;have:=congrArg List.length e;rw[List.length_take]at this;simp at this;omega
 exact⟨by unfold decN;rw[if_neg Z0,e],by omega⟩
theorem zzj:(Tryz.prog.info? 5).map (fun i=>(i.zero,i.size,i.bytes))=some (some (.int .u8 0),1,1):=by kernel_rfl
def zbr(l:List UInt8):List Value:=l.map fun b:UInt8=>Value.int .u8 (b.toNat:Int)
theorem zd7(l:List UInt8):(zbr l).length=l.length:=by simp[zbr]
theorem zmw(l:List UInt8)(i:Nat)(h:i<l.length):(zbr l)[i]?=some (.int .u8 (l[i].toNat:Int)):=by
 simp[zbr,List.getElem?_eq_getElem h]
def zjj(l:List UInt8)(i:Nat):List UInt8:=(List.range l.length).map fun k=>if k<i∨l.length≤k+i then l.getD (l.length-1-k) 0 else l.getD k 0
theorem zc6(l:List UInt8)(i:Nat):(zjj l i).length=l.length:=by simp[zjj]
theorem zfd(l:List UInt8)(i k:Nat)(h:k<l.length):(zjj l i)[k]?=some (if k<i∨l.length≤k+i then l.getD (l.length-1-k) 0 else l.getD k 0):=by
 simp[zjj,h]
theorem zq4(l:List UInt8):zjj l 0=l:=by
 apply List.ext_getElem?;intro k
 by_cases h:k<l.length
 ·rw[zfd l 0 k h,if_neg (by omega),List.getD_eq_getElem?_getD,List.getElem?_eq_getElem h];rfl
 ·rw[List.getElem?_eq_none (by rw[zc6];omega),List.getElem?_eq_none (by omega)]
theorem zxo(l:List UInt8)(i:Nat)(hi:l.length≤i+i+1):zjj l i=l.reverse:=by
 apply List.ext_getElem?;intro k
 by_cases h:k<l.length
 ·rw[zfd l i k h,List.getElem?_reverse h]
  by_cases hk:k<i∨l.length≤k+i
  ·rw[if_pos hk,List.getD_eq_getElem?_getD,List.getElem?_eq_getElem (by omega)];rfl
  ·rw[if_neg hk,List.getD_eq_getElem?_getD,show l.length-1-k=k by omega,List.getElem?_eq_getElem h];rfl
 ·rw[List.getElem?_eq_none (by rw[zc6];omega),List.getElem?_eq_none (by rw[List.length_reverse];omega)]
theorem zun(l:List UInt8)(i:Nat)(hi:i+i+1<l.length):((zjj l i).set i (l.getD (l.length-1-i) 0)).set (l.length-1-i) (l.getD i 0)=zjj l (i+1):=by
 apply List.ext_getElem?;intro k
 by_cases h:k<l.length
 ·rw[zfd l (i+1) k h,List.getElem?_set,List.getElem?_set,List.length_set,zc6]
  by_cases h1:l.length-1-i=k
  ·rw[if_pos h1,if_pos (by omega),if_pos (by omega),show l.length-1-k=i by omega]
  ·rw[if_neg h1]
   by_cases h2:i=k
   ·subst h2
    rw[if_pos rfl,if_pos (by omega),if_pos (by omega)]
   ·rw[if_neg h2,zfd l i k h]
    by_cases h3:k<i∨l.length≤k+i
    ·rw[if_pos h3,if_pos (by omega)]
    ·rw[if_neg h3,if_neg (by omega)]
 ·rw[List.getElem?_eq_none (by simp[zc6];omega),List.getElem?_eq_none (by rw[zc6];omega)]
theorem zxn(l:List UInt8)(i:Nat)(hi:i+i+1<l.length):(zjj l i)[i]?=some (l.getD i 0)∧(zjj l i)[l.length-1-i]?=some (l.getD (l.length-1-i) 0):=by
 rw[zfd _ _ _ (by omega),zfd _ _ _ (by omega),if_neg (by omega),if_neg (by omega)];exact⟨rfl,rfl⟩
def WrAt(l ds:List Nat)(k:Nat):Prop:=ds.length=9*k∧(∀x ∈ ds,x<10)∧dval ds=val (l.take k)
def WrIn(l ds:List Nat)(k i t:Nat):Prop:=ds.length=9*k+i∧(∀x ∈ ds,x<10)∧t<10 ^ (9-i)∧dval ds+10 ^ (9*k+i)*t=val (l.take (k+1))
theorem z1g(l:List Nat):WrAt l [] 0:=⟨rfl,by simp,by simp[dval,val]⟩
theorem z7o(k:Nat):Bs ^ k=10 ^ (9*k):=by rw[zd5,show 1000000000=10 ^ 9 by rfl,←Nat.pow_mul]
theorem yc9(l ds:List Nat)(k:Nat)(hl:∀x ∈ l,x<Bs)(h:WrAt l ds k):WrIn l ds k 0 (l.getD k 0):=by
 obtain⟨h1,h2,h3⟩:=h;refine⟨h1,h2,?_,?_⟩
 ·have:=zba l k hl;rw[zd5]at this;exact this
 ·rw[h3,zca,z7o];rfl
theorem z7s(l ds:List Nat)(k i t:Nat)(hi:i<9)(h:WrIn l ds k i t):WrIn l (ds ++ [t % 10]) k (i+1) (t / 10):=by
 obtain⟨h1,h2,h3,h4⟩:=h;refine⟨by simp[h1];omega,?_,?_,?_⟩
 ·intro x hx
  rcases List.mem_append.1 hx with hx |hx
  ·exact h2 x hx
  ·rw[List.mem_singleton.1 hx];omega
 ·rw[show 9-i=(9-(i+1))+1 by omega,Nat.pow_succ]at h3;omega
 ·rw[zpv,h1,←h4,←Nat.add_assoc,Nat.pow_succ]
  have:=Nat.div_add_mod t 10;generalize 10 ^ (9*k+i)=P at *;generalize t / 10=q at *;generalize t % 10=r at *;generalize dval ds=D at *
  grind
theorem yba(l ds:List Nat)(k t:Nat)(h:WrIn l ds k 9 t):WrAt l ds (k+1):=by
 obtain⟨h1,h2,h3,h4⟩:=h;have:t=0:=by simpa using h3
 subst this;exact⟨by omega,h2,by simpa using h4⟩
theorem zmv(l:List UInt8)(i:Nat)(b:UInt8):(zbr l).set i (.int .u8 (b.toNat:Int))=zbr (l.set i b):=by simp[zbr,List.map_set]
theorem zp8(l:List UInt8)(i:Nat)(b:UInt8)(h:l[i]?=some b):(zbr l)[i]?=some (.int .u8 (b.toNat:Int)):=by
 unfold zbr;rw[List.getElem?_map,h];rfl
def RevR(w:World)(g n:Nat)(l:List UInt8)(iv jv:Value)(wr:World):Prop :=
 ∃i:Nat,i+i≤n∧iv=.int .i64 i∧jv=.int .i64 ((n:Int)-1-i)∧RowAt wr g 5 (zbr (zjj l i))∧w.grownBy wr (some g)
def ya5(w:World)(g:Nat)(l:List UInt8)(e:Ending)(w':World):Prop :=
 (∃v,e=.returned v)∧RowAt w' g 5 (zbr l.reverse)∧w.grownBy w' (some g)
theorem zq3(g n c:Nat)(l:List UInt8)(w:World)(hl:l.length=n)(hn:n≤1000000)(h:RowAt w g 5 (zbr l)) :
 Calls Tryz.prog 251 #[.slice (some ⟨g,0,none⟩) n c] w (ya5 w g l):=by
 have ZN:RevR w g n l (.int .i64 0) (.int .i64 ((n:Int)-1)) w:=⟨0,Nat.zero_le _,rfl,by simp,by rw[zq4];exact h,zci _ _⟩;have HST:=Z9 ZN;have HL:=Z9 hl;clear h hl ZN;go_enter Tryz.func251,Tryz.ntmps251;go_wp2_with fail;go_loopw [2,3] (RevR w g n l) (fun i _ _=>n-(intOf i).toNat)
 case atStart=>exact HST.out
 case round =>
  obtain⟨w1,rfl⟩:∃w1:World,w1=wr:=⟨_,rfl⟩
  obtain⟨i,Sk,rfl,rfl,hr,hg⟩:=hrel
  by_cases Z4:i+i+1<n
  ·obtain⟨k,hk⟩:∃k:Nat,k=n-1-i:=⟨_,rfl⟩
   have hkI:(n:Int)-1-(i:Int)=(k:Int):=by omega
   have hmid:=zxn l i (by rw[HL.out];exact Z4);have hstp:=zun l i (by rw[HL.out];exact Z4);rw[HL.out,←hk]at hmid hstp;obtain⟨x,hx⟩:∃x,x=l.getD i 0:=⟨_,rfl⟩
   obtain⟨y,hy⟩:∃y,y=l.getD k 0:=⟨_,rfl⟩
   rw[←hx,←hy]at hmid hstp;have Z6:(zbr (zjj l i)).length=n:=by rw[zd7,zc6];exact HL.out
   have hki:i<k:=by omega
   have TR:k<n:=by omega
   have c1:w1.cell? ⟨g,i,none⟩=some (.int .u8 (x.toNat:Int)):=by rw[hr.cell (by omega)];exact zp8 _ _ _ hmid.1
   have c2:w1.cell? ⟨g,k,none⟩=some (.int .u8 (y.toNat:Int)):=by rw[hr.cell (by omega)];exact zp8 _ _ _ hmid.2
   have f1:∀e,w1.frozen? ⟨g,e,none⟩=false:=fun e=>hr.frozen e
   have HR:=Z9 hr;have HG:=Z9 hg;have HS:=Z9 hstp;have Zh:n-1-i≤k:=by omega
   rw[hkI];have hkI2:(k:Int)=(n:Int)-1-i:=hkI.symm;have HKI:=Z9 hkI2;clear hr hg hstp hmid hk hx hy Z6 hkI hkI2;go_wp2_with fail;go_region
   all_goals
    go_wp2_with fail;go_roundw
    case measure=>simp[intOf]<;>omega
    case rel =>
     refine⟨i+1,by omega,by go_num,by rw[HKI.out];congr 1;omega,?_,?_⟩
     ·have h1:=(HR.out.set i (.int .u8 (y.toNat:Int))).set k (.int .u8 (x.toNat:Int))
      rw[zmv,zmv,HS.out]at h1;exact h1
     ·exact zuz (za7 (za7 HG.out (.inl rfl) _) (.inl rfl) _) 1
  ·have he:=zxo l i (by rw[HL.out];omega)
   rw[he]at hr;have HR:=Z9 hr;have HG:=Z9 hg;clear hr hg he;have Vm:(n:Int)-1-(i:Int)≤i:=by omega
   go_wp2_with fail;go_end0;exact⟨⟨_,rfl⟩,HR.out,HG.out⟩
def zqe(w:World)(z:Int)(e:Ending)(w':World):Prop :=
 ((bigZ z=true∧e=.returned (.tuple #[.string ByteArray.empty,.int .i64 14]))∨(bigZ z=false∧e=.returned (.tuple #[.string ⟨(txtZ z).toArray⟩,.int .i64 0])))∧Below w.heap.size w w'
def ze2(ds:List Nat):List Value:=zbr (ds.map dgB)
theorem zn5(ds:List Nat):(ze2 ds).length=ds.length:=by simp[ze2,zbr]
theorem zr7(ds:List Nat)(d:Nat)(h:d<10):ze2 ds ++ [.int .u8 ((48:Int)+(d:Int))]=ze2 (ds ++ [d]):=by
 have:((dgB d).toNat:Int)=(48:Int)+(d:Int):=by rw[zfk h];omega
 unfold ze2 zbr;simp[this]
theorem zvu(ds:List Nat)(i:Nat)(hi:i<ds.length)(h:∀x ∈ ds,x<10):(ze2 ds)[i]?=some (.int .u8 ((48:Int)+((ds.getD i 0:Nat):Int))):=by
 unfold ze2 zbr;have h1:ds.getD i 0<10:=zz4 ds i h;have:((dgB (ds.getD i 0)).toNat:Int)=(48:Int)+((ds.getD i 0:Nat):Int):=by rw[zfk h1];omega
 rw[←this,List.getD_eq_getElem?_getD,List.getElem?_eq_getElem hi];simp[hi]
theorem zr6(ds:List Nat)(k:Nat):(ze2 ds).take k=ze2 (ds.take k):=by simp[ze2,zbr,List.map_take]
def WrO(w W0:World)(l:List Nat)(n:Nat)(bv iv:Value)(wr:World):Prop :=
 ∃(k:Nat)(ds:List Nat),k≤n∧iv=.int .i64 k∧wr.ownsRow W0.heap.size 5 1 bv ds.length (ze2 ds)∧WrAt l ds k∧Below W0.heap.size W0 wr∧Below w.heap.size w wr
def WrJ(w W0:World)(l:List Nat)(k:Nat)(bv tv jv:Value)(wr:World):Prop :=
 ∃(i t:Nat)(ds:List Nat),i≤9∧jv=.int .i64 i∧tv=.int .u32 t∧t<1000000000∧wr.ownsRow W0.heap.size 5 1 bv ds.length (ze2 ds)∧WrIn l ds k i t∧Below W0.heap.size W0 wr∧Below w.heap.size w wr
def WrT(g c:Nat)(ds:List Nat)(bv:Value):Prop:=∃k:Nat,1≤k∧k≤ds.length∧bv=.slice (some ⟨g,0,none⟩) k c∧dval (ds.take k)=dval ds
def WrC(w:World)(z:Int)(v:Value)(wx:World):Prop :=
 ∃g c bs,v=.slice (some ⟨g,0,none⟩) (bs:List UInt8).length c∧RowAt wx g 5 (zbr bs)∧bs.reverse=txtZ z∧bs.length≤460000∧w.heap.size≤g∧Below w.heap.size w wx
theorem z5a{w:World}{g c:Nat}{l:List UInt8}(h:RowAt w g 5 (zbr l))(dst:TypeId)(hd:Tryz.prog.underlying dst=some .string) :
 (convert 77 dst (.slice (some ⟨g,0,none⟩) l.length c)).run Tryz.prog w=.ok (.string ⟨l.toArray⟩) w :=
 run_convert_bytes_back (P:=Tryz.prog) w 77 dst 5 ⟨g,0,none⟩ c l Tryz.underlying77 Tryz.underlying5 hd (fun j hj=>by
  rw[zqd,Nat.zero_add,h.cell (by rw[zd7];exact hj),zmw l j hj])
theorem zka(neg:Bool)(a:Option Addr)(n c N:Nat)(l:List Nat)(w:World)(hl:l.length=n)(hn:n≤50000)(hr:Rep l N)(ha:Nums .u32 w a l) :
 Calls Tryz.prog 228 #[.agg #[.bool neg,.slice a n c]] w (zqe w (if neg=true then -(N:Int)else(N:Int))):=by
 obtain⟨i0,hi,ZE,ZO,ZA⟩:=info_parts zzj
 obtain⟨z,hz⟩:∃z,z=(if neg=true then -(N:Int)else(N:Int)):=⟨_,rfl⟩
 rw[←hz];have HZ:=Z9 hz;have HL:=Z9 hl;have HR:=Z9 hr;have HA:=Z9 ha;clear hz hl hr ha
 by_cases h0:n<1
 ·have VR:z=0:=by
   have hN:N=0:=by
    have h1:=HR.out.2.2;rw[List.eq_nil_of_length_eq_zero (l:=l) (by have:=HL.out;omega)]at h1;simpa[val]using h1.symm
   rw[HZ.out,hN];cases neg<;>rfl
  have t1:((n:Int) == 0)=true:=by rw[beq_iff_eq];omega
  have Ug:bigZ z=false:=by rw[VR];rfl
  have HZB:=Z9 Ug;have HZ0:=Z9 VR;clear VR Ug;go_enter Tryz.func228,Tryz.ntmps228;go_wp2_with fail;go_ret2;exact⟨.inr ⟨HZB.out,by rw[HZ0.out];rfl⟩,(Below.refl _ _).alloc (Nat.le_refl _) _⟩
 ·have t1:((n:Int) == 0)=false:=by rw[beq_eq_false_iff_ne];omega
  obtain⟨W0,Z7⟩:∃W0,W0=w.alloc (.cells #[.bool neg,.slice a n c] 241):=⟨_,rfl⟩
  have Z2:=zc0 (w:=w) (c:=#[.bool neg,.slice a n c]) (t:=241) rfl rfl;rw[←Z7]at Z2;have ZS:w.heap.size<W0.heap.size:=Z2.lt;have Zv:Below w.heap.size w W0:=by rw[Z7];exact(Below.refl _ _).alloc (Nat.le_refl _) _
  have SO:0<N:=by
   have h1:=HR.out;rw[←h1.2.2];refine zkc l h1.2.1 (fun h => ?_);have:=HL.out;rw[h]at this;simp at this;omega
  have ZN:WrO w W0 l n (.slice none 0 0) (.int .i64 0) W0:=⟨0,[],Nat.zero_le _,rfl,World.ownsRow_nil _ _ _ _,z1g l,Below.refl _ _,Zv⟩;have HST:=Z9 ZN;have HBX:=Z9 Z2;have HB0:=Z9 Zv;have HW0:=Z9 Z7;have HNP:=Z9 SO;clear ZN Z2 Zv Z7 SO;go_enter Tryz.func228,Tryz.ntmps228;go_wp2_with fail;rw[←HW0.out];go_loopw [4,14] (WrO w W0 l n) (fun _ i _=>n-(intOf i).toNat)
  case atStart=>exact HST.out
  case round =>
   obtain⟨w1,rfl⟩:∃w1:World,w1=wr:=⟨_,rfl⟩
   obtain⟨k,ds,TR,rfl,ho,ZZ,ZJ,Z3⟩:=hrel;have HO:=Z9 ho;have HT:=Z9 ZZ;have ZT:=Z9 ZJ;have ZY:=Z9 Z3;clear ho ZZ ZJ Z3 HST
   by_cases Z4:k<n
   ·obtain⟨g,og,rfl,hg,hc⟩:=HA.out.below ZY.out k (by have:=HL.out;omega)
    obtain⟨x,hx⟩:∃x,x=l.getD k 0:=⟨_,rfl⟩
    rw[←hx]at hc;have hxb:x<1000000000:=by rw[hx];exact zba l k HR.out.1
    have ZN:WrJ w W0 l k u4 (.int .u32 x) (.int .i64 0) w1:=⟨0,x,ds,by omega,rfl,rfl,hxb,HO.out,by rw[hx];exact yc9 l ds k HR.out.1 HT.out,ZT.out,ZY.out⟩;have HST2:=Z9 ZN;clear ZN hx HO HT;go_wp2_with fail;go_loopw [4,6,18] (WrJ w W0 l k) (fun _ _ j _=>9-(intOf j).toNat)
    case atStart=>exact HST2.out
    case round =>
     obtain⟨w2,rfl⟩:∃w2:World,w2=wr:=⟨_,rfl⟩
     obtain⟨i,t,ds,hi9,rfl,rfl,htb,ho,ZZ,ZJ,Z3⟩:=hrel;have HO:=Z9 ho;have HT:=Z9 ZZ;have Zx:=Z9 ZJ;have HB4:=Z9 Z3;have hdl:ds.length≤450009:=by have:=ZZ.1;omega
     clear ho ZZ ZJ Z3 HST2
     by_cases ZR:i<9
     ·have hstp:=z7s l ds k i t ZR HT.out
      obtain⟨d,hd⟩:∃d,d=t % 10:=⟨_,rfl⟩
      obtain⟨q,hq⟩:∃q,q=t / 10:=⟨_,rfl⟩
      rw[←hd,←hq]at hstp;have hdI:(t:Int) % 10=(d:Int):=by omega
      have hqI:(t:Int) / 10=(q:Int):=by omega
      have VL:d<10:=by omega
      have T7:q<1000000000:=by omega
      have HSTP:=Z9 hstp;have HDI:=Z9 hdI;have HQI:=Z9 hqI;obtain⟨m,hm⟩:∃m,m=ds.length:=⟨_,rfl⟩
      have HO':=HO.out;rw[←hm]at HO' hdl;have HO2:=Z9 HO';have HM:=Z9 hm;clear hstp hd hq hqI HO' HO hm;go_wp2_with (at_builtin;refine zay _ rfl (.tmp 20) (.tmp 25) 77 rfl W0.heap.size 5 i0 (.int .u8 0) 1 Tryz.underlying77 hi ZE ZO ZA rfl _ _ _ rfl (HO2.out.alloc _) ⟨w2.heap.size,0,none⟩ 1 (.int .u8 ((48:Int)+(d:Int))) rfl ?c1 rfl ?c3 ?c4 ?c5 ?_)
      case c1=>simp
      case c3=>unfold maxLen;omega
      case c4=>omega
      case c5=>have:=Zx.out.size;simp;omega
      intro v3 w3 Ya Zk XS XU;have n3:Below W0.heap.size W0 w3:=(Zx.out.alloc Zx.out.size _).grown Zk (by have:=Zx.out.size;simp;omega) (fun k hk=>(HO2.out.lt k hk).1);have n4:Below w.heap.size w w3:=(HB4.out.alloc HB4.out.size _).grown Zk (by have:=HB4.out.size;simp;omega) (fun k hk=>by have:=(HO2.out.lt k hk).1;omega);rw[zr7 ds d VL]at Ya;have HO3:=Z9 Ya;have N3:=Z9 n3;have N4:=Z9 n4;clear Ya Zk XS XU n3 n4 hdI;go_wp2_with fail;go_roundw
      case rel=>exact⟨i+1,q,ds ++ [d],by omega,by go_num,by rw[HQI.out],by omega,by rw[List.length_append,←HM.out];exact HO3.out,HSTP.out,N3.out,N4.out⟩
      case measure=>simp[intOf]<;>omega
     ·obtain rfl:i=9:=by omega
      have hout:=yba l ds k t HT.out;have HOUT:=Z9 hout;clear hout;go_wp2_with fail;go_roundw
      case rel=>exact⟨k+1,ds,by omega,by go_num,HO.out,HOUT.out,Zx.out,HB4.out⟩
      case measure=>simp[intOf]<;>omega
   ·obtain rfl:k=n:=by omega
    have hdv:dval ds=N:=by rw[HT.out.2.2,List.take_of_length_le (by have:=HL.out;omega)];exact HR.out.2.2
    have hdl:ds.length=9*k:=HT.out.1;have hd10:=HT.out.2.1
    rcases zbv HO.out with⟨_,hz,_⟩ |⟨g,cb,rfl,hg,YX,Wn,_,YV⟩
    ·omega
    obtain⟨m,hm⟩:∃m,m=ds.length:=⟨_,rfl⟩
    rw[←hm]at hdl;have HO':=HO.out;rw[←hm]at HO' YX ⊢;have HO2:=Z9 HO';have Xz:=Z9 YV;have HDV:=Z9 hdv;have HD10:=Z9 hd10;have HM:=Z9 hm;have WW:1≤m:=by omega
    have WX:m≤450000:=by omega
    clear HO HO' YV hdv hd10 hdl hm;go_wp2_with fail;go_loop [4] (WrT g cb ds) (fun v=>match v with | .slice _ k _=>k |_=>0)
    case atStart=>exact⟨m,WW,by rw[HM.out];omega,rfl,by rw[HM.out,List.take_of_length_le (Nat.le_refl _)]⟩
    case round =>
     obtain⟨e,he1,he2,rfl,hv⟩:=hrel;rw[←HM.out]at he2;obtain⟨j,rfl⟩:∃j,e=j+1:=⟨e-1,by omega⟩
     have HV:=Z9 hv
     have hce:w1.cell? ⟨g,j,none⟩=some (.int .u8 ((48:Int)+((ds.getD j 0:Nat):Int))):=by
      rw[Xz.out.cell (by rw[zn5,←HM.out];omega)];exact zvu ds j (by rw[←HM.out];omega) HD10.out
     obtain⟨y,hy⟩:∃y,y=ds.getD j 0:=⟨_,rfl⟩
     rw[←hy]at hce;have hyb:y<10:=by rw[hy];exact zz4 ds j HD10.out
     have HY:=Z9 hy;clear hv hy
     by_cases Zc:y<1
     ·have ZN:=zvk ds j HV.out (by rw[←HY.out];omega)
      have t2:(((48:Int)+(y:Int)) == 48)=true:=by rw[beq_iff_eq];omega
      have hj1:1≤j:=by
       rcases Nat.eq_zero_or_pos j with h |h
       ·exfalso
        rw[h]at ZN;have:=HNP.out;rw[HDV.out]at ZN;simp[dval]at ZN;omega
       ·exact h
      have HSTP:=Z9 ZN;clear ZN;go_wp2_with fail;go_round
      case rel=>exact⟨j,hj1,by rw[←HM.out];omega,rfl,HSTP.out⟩
      case measure=>simp
     ·have t2:(((48:Int)+(y:Int)) == 48)=false:=by rw[beq_eq_false_iff_ne];omega
      have Zf:=(z7z ds j (by rw[←HM.out];omega) HD10.out HV.out (by rw[←HY.out];omega)).1;rw[HDV.out]at Zf;have Z6:(decN N).length=j+1:=by rw[Zf,List.length_take,←HM.out];omega
      have VW:bigZ z=decide (1000<j+1):=by
       unfold bigZ;rw[HZ.out]
       cases neg
       ·simp[Z6]
       ·simp[Z6]
      have HTOP:=Z9 Zf;have HBZ:=Z9 VW;clear Zf Z6 VW
      by_cases ZM:1000<j+1
      ·have e:bigZ z=true:=by rw[HBZ.out];simpa using ZM
       have E:=Z9 e;have t3:decide ((1000:Int)<(j:Int)+1)=true:=by simp;omega
       clear e;go_wp2_with fail;go_ret2;exact⟨.inl ⟨E.out,rfl⟩,ZY.out⟩
      ·have e:bigZ z=false:=by rw[HBZ.out];simpa using ZM
       have E:=Z9 e;have t3:decide ((1000:Int)<(j:Int)+1)=false:=by simp;omega
       have hneg:w1.cell? ⟨w.heap.size,0,none⟩=some (.bool neg):=(ZT.out.cell (p:=⟨w.heap.size,0,none⟩) ZS).trans (HBX.out.cell (i:=0) (by simp));have ZL:=zjf HO2.out (show j+1≤m by omega);rw[zr6,←HTOP.out]at ZL;have YP:=Z9 ZL;clear e ZL
       go_upto_if 47 with(fail)
       go_cut [4] (fun v wx=>WrC w z v wx)
       case first=>as_aux_lemma =>
        have hjl:(decN N).length=j+1:=by rw[HTOP.out,List.length_take,←HM.out];omega
        cases neg with
        |false =>
         have hfin:WrC w z (.slice (some ⟨g,0,none⟩) (j+1) cb) w1:=by
          refine⟨g,cb,(decN N).map dgB,by rw[List.length_map,hjl],?_,?_,by rw[List.length_map,hjl];omega,by omega,ZY.out⟩
          ·rcases zbv YP.out with⟨h,_⟩ |⟨g',c',h,_,_,_,_,hr⟩
           ·injection h with h;cases h
           ·injection h with h;injection h with h;injection h with h
            subst h;exact hr
          ·rw[HZ.out];simp[zm3,txtN]
         have HF:=Z9 hfin;clear hfin hjl;go_wp2_with fail;go_meet;exact HF.out
        |true =>
         go_wp2_with (at_builtin;refine zay _ rfl (.tmp 48) (.tmp 49) 77 rfl W0.heap.size 5 i0 (.int .u8 0) 1 Tryz.underlying77 hi ZE ZO ZA rfl _ _ _ rfl (YP.out.alloc _) ⟨w1.heap.size,0,none⟩ 1 (.int .u8 45) rfl ?d1 rfl ?d3 ?d4 ?d5 ?_)
         case d3=>unfold maxLen;omega
         case d4=>omega
         case d5=>have:=ZT.out.size;simp;omega
         intro v4 w4 V6 hg4 Sv Sy;have n4:Below w.heap.size w w4:=(ZY.out.alloc ZY.out.size _).grown hg4 (by have:=ZY.out.size;simp;omega) (fun k hk=>by have:=(YP.out.lt k hk).1;omega)
         have hfin:WrC w z v4 w4:=by
          rcases zbv V6 with⟨_,h,_⟩ |⟨g',c',h,hgB,_,_,_,hr⟩
          ·omega
          ·refine⟨g',c',(decN N).map dgB ++ [45],by rw[h,List.length_append,List.length_map,hjl];rfl,?_,?_,by rw[List.length_append,List.length_map,hjl];simp;omega,by omega,n4⟩
           ·have:ze2 (decN N) ++ [.int .u8 45]=zbr ((decN N).map dgB ++ [45]):=by simp[ze2,zbr]
            rw[this]at hr;exact hr
           ·have hzn:z = -(N:Int):=by have:=HZ.out;simpa using this
            rw[hzn,zsi HNP.out];simp[txtN]
         have HF:=Z9 hfin;clear V6 hg4 Sv Sy n4 hfin hjl;go_wp2_with fail;go_meet;exact HF.out
       case rest=>as_aux_lemma =>
        obtain⟨g5,c5,bs,rfl,Xf,Zm,ZK,YU,Y9⟩:=hcut;have HR5:=Z9 Xf;have HTX:=Z9 Zm;have HB5:=Z9 Y9;have hlt5:=Xf.lt;obtain⟨w5,Td⟩:∃w5:World,w5=wc:=⟨_,rfl⟩
        subst Td;have hrev:=zq3 g5 bs.length c5 bs w5 rfl (by omega) Xf;have HREV:=Z9 hrev;clear Xf Zm Y9 hrev hlt5;go_wp2_with fail;refine HREV.out.mono ?_;rintro e w6 ⟨⟨v6,rfl⟩,Vu,UO⟩;have UM:=z5a (c:=c5) Vu 183 Tryz.underlying183;rw[List.length_reverse,HTX.out]at UM;have XA:Below w.heap.size w w6:=zvy HB5.out UO HB5.out.size YU;have HB6:=Z9 XA;clear Vu UO XA;go_wp2_with fail;go_ret2;exact⟨.inr ⟨E.out,rfl⟩,HB6.out⟩
open Go.Shelf
attribute [local go_sem] Oper.semAt_some
def zeq(t:ByteArray)(k:Nat):ByteArray:=t.extract (t.size-9*(k+1)) (t.size-9*k)
def zf5(B:Nat)(W W':World):Prop:=W'.heap[B]?=W.heap[B]?
theorem zpr{B:Nat}{W1 W2 W3:World}(h:zf5 B W1 W2)(k:zf5 B W2 W3):zf5 B W1 W3:=k.trans h
theorem zps{B:Nat}{w:World}(hB:B<w.heap.size)(W:World)(l:Nat)(o o':Obj)(hl:w.heap.size≤l)(h:W.heap[l]?=some o)(_ho:o.isCells=false)(_:o.isWalk=false):zf5 B W (W.putObj l o'):=by
 have Z4:=(Z8 h)
 by_cases hb:B<W.heap.size
 ·exact(grownBy_putObj' W l o').block B hb (by intro e;injection e with e;omega)
 ·unfold zf5
  rw[Array.getElem?_eq_none (by omega),Array.getElem?_eq_none (by have:=(grownBy_putObj' W l o').size;omega)]
theorem zfu(k:Nat):List.range k ++ [k]=List.range (k+1):=List.range_succ.symm
theorem zjd{k m:Nat}(h:k≤m):List.range k <+: List.range m:=by
 refine⟨(List.range' k (m-k)),?_⟩;rw[List.range_eq_range',List.range_eq_range'];have:=List.range'_append (s:=0) (m:=k) (n:=m-k) (step:=1);simp only[Nat.zero_add,Nat.one_mul]at this;rw[this];congr 1;omega
theorem zve(F:Fence)(n:Nat)(hF:F.fn 262)(Vv:F.round=none)(hn:1≤n)(l Bs m:Nat)(t:ByteArray)(hs:t.size≤1000000)(WW:t.size≤9*m)(WX:9*m<t.size+9)(J Jx:List Nat→World→Prop)
 (hY:∀pre x W,J pre W→pre.length<m→YieldAt F (n-1) Tryz.prog l #[.string (zeq t x)] W fun e W' =>
  (e=.returned (.bool true)∧J (pre ++ [x]) W'∧zf5 Bs W W')∨(e=.returned (.bool false)∧Jx (pre ++ [x]) W'))
 (W:World) (hBs:Boxed W Bs 9 (.string t)) (h0:J [] W) :
 CallsIn F n Tryz.prog 262 #[.func (.yield l) #[] #[],.pointer (some ⟨Bs,0,none⟩)] W fun e W'=>(∃v,e=.returned v) ∧
  ((∃ys,ys=List.range m∧J ys W')∨(∃pre,pre <+: List.range m∧Jx pre W')):=by
 refine callsIn_of_wp Tryz.func262 rfl hF ?_ Vv;simp only[Tryz.ntmps262,List.size_toArray,List.length_cons,List.length_nil,Nat.reduceAdd,Nat.reduceSub,Array.replicate_succ,Array.replicate_zero,List.push_toArray,List.append_toArray,List.nil_append,List.cons_append];have hc0:=hBs.cell;gi_wp2;clear hc0
 gi_loopw [3] (fun i wr=>∃k:Nat,k≤m∧i=.int .i64 ((t.size:Int)-9*(k:Int))∧J (List.range k) wr∧Boxed wr Bs 9 (.string t))
  (fun i _=>(intOf i+9).toNat)
 case atStart=>exact⟨0,Nat.zero_le _,by simp,h0,hBs⟩
 case round =>
  obtain⟨k,hk,rfl,R8,YM⟩:=hrel;have hcx:wr.cell? ⟨Bs,0,none⟩=some (.string t):=YM.cell
  by_cases Z4:k<m
  ·obtain⟨e,he⟩:∃e,e=t.size-9*k:=⟨_,rfl⟩
   have he1:1≤e:=by omega
   have heI:((t.size:Int)-9*(k:Int))=(e:Int):=by omega
   have SU:e≤t.size:=by omega
   obtain⟨fn,tmps,assign,body,hy,hR⟩:=hY _ k wr R8 (by simpa using Z4);have XQ:zeq t k=t.extract (e-9) e:=by unfold zeq;rw[he];congr 1
   rw[XQ]at hy;rw[heI];have HCH:=Z9 XQ;have HE:=Z9 he;have HEI:=Z9 heI;clear XQ he heI R8
   by_cases h9:10≤e
   ·obtain⟨f,rfl⟩:∃f,e=f+9:=⟨e-9,by omega⟩
    rw[Nat.add_sub_cancel]at hy;have hf:((f+9:Nat):Int)=(f:Int)+9:=by omega
    have VN:1≤f:=by omega
    rw[hf];clear hf h9;gi_wp2;refine hR.mono ?_;rintro ee W3 (⟨rfl,UG,V3⟩ |⟨rfl,Wd⟩)
    ·gi_wp2
     go_roundw
     case rel=>exact⟨k+1,by omega,by congr 1;have:=HEI.out;omega,by rw[←zfu];exact UG,V3.trans YM⟩
     case measure=>simp[intOf]<;>omega
    ·gi_wp2
     refine bodyPost_ret (results_none rfl _ _ _) rfl ?_;exact⟨⟨_,rfl⟩,.inr ⟨_,by rw[zfu];exact zjd (by omega),Wd⟩⟩
   ·rw[show e-9=0 by omega]at hy
    gi_wp2;refine hR.mono ?_;rintro ee W3 (⟨rfl,UG,V3⟩ |⟨rfl,Wd⟩)
    ·gi_wp2
     go_roundw
     case rel=>exact⟨k+1,by omega,by congr 1;have:=HEI.out;omega,by rw[←zfu];exact UG,V3.trans YM⟩
     case measure=>simp[intOf]<;>omega
    ·gi_wp2
     refine bodyPost_ret (results_none rfl _ _ _) rfl ?_;exact⟨⟨_,rfl⟩,.inr ⟨_,by rw[zfu];exact zjd (by omega),Wd⟩⟩
  ·obtain rfl:k=m:=by omega
   have Y6:((t.size:Int)-9*(k:Int))≤0:=by omega
   gi_wp2;go_end0;exact⟨⟨_,rfl⟩,.inl ⟨_,rfl,R8⟩⟩
theorem zpt(F:Fence)(n:Nat)(hF:F.fn 257)(Vv:F.round=none)(t:ByteArray)(w:World) :
 CallsIn F n Tryz.prog 257 #[.string t] w fun e w'=>e=.returned (.func (.func 262) #[] #[.pointer (some ⟨w.heap.size,0,none⟩)])∧w'=w.alloc (.cells #[.string t] 9):=by
 refine callsIn_of_wp Tryz.func257 rfl hF ?_ Vv;simp only[Tryz.ntmps257,List.size_toArray,List.length_cons,List.length_nil,Nat.reduceAdd,Nat.reduceSub,Array.replicate_succ,Array.replicate_zero,List.push_toArray,List.append_toArray,List.nil_append,List.cons_append];gi_wp2;go_ret;exact⟨rfl,rfl⟩
theorem zjh(F:Fence)(n:Nat)(hF:F.fn 262)(Vv:F.round=none)(hn:1≤n)(Bs m:Nat)(t:ByteArray)(hs:t.size≤1000000)(WW:t.size≤9*m)(WX:9*m<t.size+9)(w:World)(hc:Boxed w Bs 9 (.string t)) :
 SeqStopsK F n Tryz.prog 262 #[.pointer (some ⟨Bs,0,none⟩)] (fun x:Nat=>#[Value.string (zeq t x)]) (zf5 Bs) (fun ys=>ys=List.range m) (fun pre=>pre <+: List.range m) m w:=fun l J Jx W hW _ _ hY h0 =>
 zve F n hF Vv hn l Bs m t hs WW WX J Jx hY W ((hW.block Bs hc.lt).trans hc) h0
attribute [local go_sem] Oper.semAt_some
theorem zgr(l:List UInt8)(c:UInt8):dval (zbo (l ++ [c]))=(c.toNat-48)+10*dval (zbo l):=by
 unfold zbo;simp[dval]
theorem zvd(D:List Nat)(m:Nat):val ((List.range m).map fun k=>dval ((D.drop (9*k)).take 9))+Bs ^ m*dval (D.drop (9*m))=dval D:=by
 induction m with
 |zero=>simp[val]
 |succ m ih =>
  rw[List.range_succ,List.map_append,List.map_cons,List.map_nil,zdb,List.length_map,List.length_range];have h1:=zi7 (D.drop (9*m)) 9;rw[List.drop_drop,show 9*m+9=9*(m+1)by omega]at h1;rw[h1]at ih;rw[Nat.pow_succ];have hB:Bs=10 ^ 9:=rfl;rw[←hB]at ih;generalize val ((List.range m).map fun k=>dval ((D.drop (9*k)).take 9))=V at *;generalize dval ((D.drop (9*m)).take 9)=x at *;generalize dval (D.drop (9*(m+1)))=y at *;generalize Bs ^ m=P at *;generalize Bs=b at *
  grind
theorem zm2(T:List UInt8)(k:Nat)(h:9*k≤T.length):zbo ((T.drop (T.length-9*(k+1))).take (T.length-9*k-(T.length-9*(k+1))))=((zbo T).drop (9*k)).take 9:=by
 unfold zbo;rw[←List.map_drop,←List.map_take]
 congr 1
 apply List.ext_getElem?;intro i
 have Z6:((T.drop (T.length-9*(k+1))).take (T.length-9*k-(T.length-9*(k+1)))).length=T.length-9*k-(T.length-9*(k+1)):=by
  rw[List.length_take,List.length_drop];omega
 by_cases hi:i<T.length-9*k-(T.length-9*(k+1))
 ·rw[List.getElem?_reverse (by omega),Z6,List.getElem?_take_of_lt (by omega),List.getElem?_drop,List.getElem?_take_of_lt (by omega),List.getElem?_drop,List.getElem?_reverse (by omega)]
  congr 1;omega
 ·rw[List.getElem?_eq_none (by rw[List.length_reverse,Z6];omega),List.getElem?_eq_none]
  rw[List.length_take,List.length_drop,List.length_reverse];omega
def grp(t:ByteArray)(k:Nat):Nat:=dval (zbo (zeq t k).data.toList)
def Box2(W:World)(B:Nat)(neg:Bool)(v:Value):Prop:=W.heap[B]?=some (.cells #[.bool neg,v] 241 (0,0))
theorem Box2.lt{W:World}{B:Nat}{neg:Bool}{v:Value}(h:Box2 W B neg v):B<W.heap.size:=(Z8 h)
theorem Box2.cell0{W:World}{B:Nat}{neg:Bool}{v:Value}(h:Box2 W B neg v):W.cell? ⟨B,0,none⟩=some (.bool neg):=by
 simp[World.cell?,show W.heap[B]?=_ from h]
theorem Box2.cell1{W:World}{B:Nat}{neg:Bool}{v:Value}(h:Box2 W B neg v):W.cell? ⟨B,1,none⟩=some v:=by
 simp[World.cell?,show W.heap[B]?=_ from h]
theorem Box2.frozen{W:World}{B:Nat}{neg:Bool}{v:Value}(h:Box2 W B neg v)(i:Nat):W.frozen? ⟨B,i,none⟩=false:=by
 simp[World.frozen?,show W.heap[B]?=_ from h]
theorem Box2.kept{W W':World}{row:Option Nat}{B:Nat}{neg:Bool}{v:Value}(h:Box2 W B neg v)(hg:W.grownBy W' row)(Z0:some B≠row):Box2 W' B neg v:=(hg.block B h.lt Z0).trans h
theorem Box2.alloc{W:World}{B:Nat}{neg:Bool}{v:Value}(h:Box2 W B neg v)(o:Obj):Box2 (W.alloc o) B neg v:=h.kept (World.grownBy_alloc W o none) (by simp)
theorem Box2.set1{W:World}{B:Nat}{neg:Bool}{v:Value}(v':Value)(h:Box2 W B neg v):Box2 (W.setCell ⟨B,1,none⟩ v') B neg v':=by
 unfold Box2 at h ⊢;simp only[World.setCell,Array.getElem?_modify];simp[h]
theorem Box2.set0{W:World}{B:Nat}{neg:Bool}{v:Value}(b:Bool)(h:Box2 W B neg v):Box2 (W.setCell ⟨B,0,none⟩ (.bool b)) B b v:=by
 unfold Box2 at h ⊢;simp only[World.setCell,Array.getElem?_modify];simp[h]
theorem Box2.other{W:World}{B:Nat}{neg:Bool}{v:Value}(h:Box2 W B neg v){a:Addr}(ha:B≠a.block)(u:Value):Box2 (W.setCell a u) B neg v:=(Below.heap_setCell W a u B ha).trans h
theorem zvr(t:ByteArray)(k:Nat)(h:9*k≤t.size):zbo (zeq t k).data.toList=((zbo t.data.toList).drop (9*k)).take 9:=by
 unfold zeq;rw[Lib.extract_data];have:=zm2 t.data.toList k (by rw[zab];exact h);rw[zab]at this;exact this
theorem z7a(t:ByteArray)(k:Nat)(h:∀c ∈ t.data.toList,48≤c.toNat∧c.toNat≤57):grp t k<Bs:=by
 have hd:∀c ∈ (zeq t k).data.toList,48≤c.toNat∧c.toNat≤57:=fun c hc=>by
  unfold zeq at hc;rw[Lib.extract_data]at hc;exact h c (List.mem_of_mem_drop (List.mem_of_mem_take hc))
 have h1:=zn0 (zbo (zeq t k).data.toList) (zjq _ hd)
 have h2:(zbo (zeq t k).data.toList).length≤9:=by
  unfold zbo zeq;rw[List.length_map,List.length_reverse,zab];simp;omega
 have h3:10 ^ (zbo (zeq t k).data.toList).length≤10 ^ 9:=Nat.pow_le_pow_right (by omega) h2;have h4:Bs=10 ^ 9:=rfl;unfold grp;omega
theorem zmo(t:ByteArray)(N m:Nat)(hN:t.data.toList=txtN N)(h1:t.size≤9*m)(h2:9*m<t.size+9):val ((List.range m).map (grp t))=N:=by
 have h:=zvd (zbo t.data.toList) m;have hl:(zbo t.data.toList).length=t.size:=by unfold zbo;rw[List.length_map,List.length_reverse,zab]
 rw[List.drop_eq_nil_of_le (by omega)]at h
 have e:(List.range m).map (grp t)=(List.range m).map fun k=>dval (((zbo t.data.toList).drop (9*k)).take 9):=by
  refine List.map_congr_left fun k hk => ?_
  have:=List.mem_range.1 hk;unfold grp;rw[zvr t k (by omega)]
 rw[e];have hv:dval (zbo t.data.toList)=N:=by rw[hN,ziv,zlc]
 rw[hv]at h;simpa[dval]using h
def zoa(w:World)(z:Int)(e:Ending)(w':World):Prop :=
 ∃a c l,e=.returned (.agg #[.bool (decide (z<0)),.slice a (l:List Nat).length c])∧l.length≤c∧w'.ownsRow w.heap.size 247 1 (.slice a l.length c) l.length (nums .u32 l)∧Rep l z.natAbs∧Below w.heap.size w w'
theorem zky{w:World}{B B' e n:Nat}{v:Value}{xs:List Value}(h:w.ownsRow B e 1 v n xs)(hB:B'≤B):w.ownsRow B' e 1 v n xs:=by
 obtain⟨h1,h2⟩:=h;refine⟨h1,?_⟩
 rcases h2 with h |⟨g,cap,cur,e1,e2,e3⟩
 ·exact .inl h
 ·exact .inr ⟨g,cap,cur,e1,Nat.le_trans hB e2,e3⟩
def z6l(w:World)(neg:Bool)(t:ByteArray)(pre:List Nat)(W:World):Prop :=
 (∃v,Box2 W (w.heap.size+1) neg v∧W.ownsRow (w.heap.size+3) 247 1 v pre.length (nums .u32 (pre.map (grp t))))∧Box2 W w.heap.size false (.slice none 0 0)∧Below w.heap.size w W∧w.heap.size+3≤W.heap.size
theorem zkr(w:World)(neg:Bool)(t:ByteArray)(W0:World)(h1:Box2 W0 w.heap.size false (.slice none 0 0))(h2:Box2 W0 (w.heap.size+1) neg (.slice none 0 0))(h3:Below w.heap.size w W0)(h4:w.heap.size+3≤W0.heap.size):z6l w neg t [] W0 :=
 ⟨⟨_,h2,World.ownsRow_nil _ _ _ _⟩,h1,h3,h4⟩
theorem zty{W:World}{B:Nat}{neg:Bool}{v:Value}(h:Box2 W B neg v){row:Option Nat}{C:Nat}(hr:∀r,row=some r→C≤r∧∃o:Obj,W.heap[r]?=some o∧o.isCells=false):some B≠row:=by
 intro e;obtain⟨_,o,ho,hc⟩:=hr B e.symm;rw[show W.heap[B]?=_ from h]at ho
 injection ho with ho
 subst ho
 cases hc
theorem z3k{W:World}{base e n:Nat}{v:Value}{xs:List Value}(h:W.ownsRow base e 1 v n xs){row:Option Nat}{C:Nat}(hr:∀r,row=some r→C≤r∧∃o:Obj,W.heap[r]?=some o∧o.isCells=false):v.ownBlock=none∨v.ownBlock≠row:=by
 rcases h.2 with⟨rfl,_⟩ |⟨g,cap,cur,rfl,_,hg,_⟩
 ·exact .inl rfl
 ·right
  intro e;obtain⟨_,o,ho,hc⟩:=hr g e.symm;rw[hg]at ho
  injection ho with ho
  subst ho
  cases hc
theorem zo3(w:World)(neg:Bool)(t:ByteArray)(W0:World)(hB:w.heap.size≤W0.heap.size):OwnFrom W0.heap.size (z6l w neg t):=by
 intro s W W' row ⟨⟨v,h1,h2⟩,h3,h4,h5⟩ hg hr;exact⟨⟨v,h1.kept hg (zty h1 hr),h2.kept hg (z3k h2 hr)⟩,h3.kept hg (zty h3 hr),h4.grown hg h4.size (fun k hk=>by have:=(hr k hk).1;omega),Nat.le_trans h5 hg.size⟩
theorem z2u(s:ByteArray)(w:World)(hs:s.size≤100000)(N:Nat)(hN:s.data.toList=txtN N)(h0:0<s.size)(h1:((s[0].toNat:Int) == 45)=false) :
 Calls Tryz.prog 245 #[.string s] w (zoa w N):=by
 refine(callsIn_wide (n:=6)).1 ?_;refine callsIn_of_wp_marks Tryz.func245 rfl trivial ?_ rfl;simp only[Tryz.ntmps245,List.size_toArray,List.length_cons,List.length_nil,Nat.reduceAdd,Nat.reduceSub,Array.replicate_succ,Array.replicate_zero,List.push_toArray,List.append_toArray,List.nil_append,List.cons_append]
 have hT:∀f,Fence.wide.fn f:=fun _=>trivial
 gi_wp2_with (gi_at_call 257;refine(zpt Fence.wide _ trivial rfl _ _).mono ?_;rintro e w' ⟨rfl,rfl⟩);obtain⟨W0,Z7⟩:∃W0,W0=((w.alloc (.cells #[.bool false,.slice none 0 0] 241)).alloc (.cells #[.bool false,.slice none 0 0] 241)).alloc (.cells #[.string s] 9):=⟨_,rfl⟩
 have ZS:W0.heap.size=w.heap.size+3:=by rw[Z7];simp
 have hR0:Box2 W0 w.heap.size false (.slice none 0 0):=by rw[Z7];exact Box2.alloc (Box2.alloc (show Box2 (w.alloc (.cells #[.bool false,.slice none 0 0] 241)) w.heap.size false (.slice none 0 0)from World.alloc_heap_new w _) _) _
 have hB0:Box2 W0 (w.heap.size+1) false (.slice none 0 0):=by
  rw[Z7];refine Box2.alloc ?_ _;have:=World.alloc_heap_new (w.alloc (.cells #[.bool false,.slice none 0 0] 241)) (.cells #[.bool false,.slice none 0 0] 241);rw[World.size_alloc]at this;exact this
 have Uk:Boxed W0 (w.heap.size+2) 9 (.string s):=by
  rw[Z7];have:=Boxed.new ((w.alloc (.cells #[.bool false,.slice none 0 0] 241)).alloc (.cells #[.bool false,.slice none 0 0] 241)) 9 (.string s);rw[World.size_alloc,World.size_alloc]at this;exact this
 have ZW:Below w.heap.size w W0:=by rw[Z7];exact(((Below.refl _ w).alloc (Nat.le_refl _) _).alloc (by simp) _).alloc (by simp;omega) _
 rw[←Z7];clear Z7
 have Ve:Hid (∀c ∈ s.data.toList,48≤c.toNat∧c.toNat≤57):=by show ∀c ∈ _,_;rw[hN];exact zfo N
 have hsz2:=Z9 ZS;obtain⟨i0,hi,ZE,ZO,ZA⟩:=info_parts zgq;obtain⟨m,WW,WX⟩:∃m,s.size≤9*m∧9*m<s.size+9:=⟨(s.size+8) / 9,by omega,by omega⟩
 refine wpIn_rangeFunc_ownG rfl (by omega) (gf:=262) (lb:=#[.pointer (some ⟨w.heap.size+2,0,none⟩)]) rfl trivial (enters_of Tryz.func262 (by kernel_rfl) rfl)
  (zjh Fence.wide _ trivial rfl (by omega) (w.heap.size+2) m s (by omega) WW WX W0 Uk) zpr (zps (by omega)) (Below.refl _ _) (fun _=>rfl)
  (z6l w false s) (fun _ _ _=>False) (zo3 w false s W0 (by omega)) (fun _ _ _ _ _ hs _ _=>hs) (zkr w false s W0 hR0 hB0 ZW (by omega)) ?a1 ?assign ?body ?done ?stop
 case assign =>
  intro l x W K hK;gi_wp2;exact hK
 case body =>
  rintro l pre x W ⟨⟨v,Z2,YV⟩,YI,ZK,X0⟩ Z4
  have XQ:∀c ∈ (zeq s x).data.toList,48≤c.toNat∧c.toNat≤57:=fun c hc=>by
   unfold zeq at hc;rw[Lib.extract_data]at hc;exact Ve.out c (List.mem_of_mem_drop (List.mem_of_mem_take hc))
  have YG:(zeq s x).size≤9:=by unfold zeq;simp;omega
  obtain⟨g,hg⟩:∃g,g=zeq s x:=⟨_,rfl⟩
  have Xq:grp s x=dval (zbo g.data.toList):=by rw[hg];rfl
  rw[←hg]at XQ YG ⊢;have HCH:=Z9 XQ;have HGV:=Z9 Xq;have HRES:=Z9 YI;have HBL:=Z9 ZK;have Xz:=Z9 YV;have HBX:=Z9 Z2
  have hT2:∀f,(Fence.wide.inRound l).fn f:=fun _=>trivial
  clear hg Xq XQ YI ZK YV Z2 hT;gi_wp2;gi_loopw [6,20] (fun vv iv wr=>(∃k:Nat,k≤g.size∧iv=.int .i64 k∧vv=.int .u32 (dval (zbo (g.data.toList.take k)):Nat))∧wr=W) (fun _ iv _=>g.size-(intOf iv).toNat)
  case atStart=>exact⟨⟨0,Nat.zero_le _,rfl,by simp[zbo,dval]⟩,rfl⟩
  case round =>
   obtain⟨⟨k,hk,rfl,rfl⟩,rfl⟩:=hrel;obtain⟨vv,Xx⟩:∃vv,vv=dval (zbo (g.data.toList.take k)):=⟨_,rfl⟩
   rw[←Xx];have HVV:=Z9 Xx
   by_cases Ww:k<g.size
   ·have hvb:vv<100000000:=by
     rw[Xx];have h1:=zn0 (zbo (g.data.toList.take k)) (zjq _ (fun c hc=>HCH.out c (List.mem_of_mem_take hc)));have h2:(zbo (g.data.toList.take k)).length≤8:=by unfold zbo;rw[List.length_map,List.length_reverse,List.length_take];omega
     have h3:10 ^ (zbo (g.data.toList.take k)).length≤10 ^ 8:=Nat.pow_le_pow_right (by omega) h2;omega
    have hcd:=HCH.out _ (zhd g k Ww);obtain⟨y,hy⟩:∃y,y=g[k].toNat-48:=⟨_,rfl⟩
    have hyI:((g[k].toNat:Int)-48)=(y:Int):=by omega
    have hyb:y<10:=by omega
    have YM:dval (zbo (g.data.toList.take (k+1)))=vv*10+y:=by
     rw[zep g k Ww,zgr,←HVV.out,←hy];omega
    have HNX:=Z9 YM;obtain⟨c1,c2⟩:=hcd;clear Xx hy YM;gi_wp2;go_roundw
    case rel=>exact⟨⟨k+1,by omega,by go_num,by rw[HNX.out];congr 1⟩,trivial⟩
    case measure=>simp[intOf]<;>omega
   ·have hkg:k=g.size:=by omega
    have hval:vv=grp s x:=by rw[Xx,hkg,List.take_of_length_le (by rw[zab];omega)];exact HGV.out.symm
    have HVAL:=Z9 hval;have Z5:=HBX.out.cell1;clear Xx hkg hval;have hpm:pre.length<100000:=by omega
    obtain⟨pl,XL⟩:∃pl,pl=pre.length:=⟨_,rfl⟩
    have HROW1:=Xz.out;rw[←XL]at hpm HROW1;have YE:=Z9 HROW1;have HPL:=Z9 XL;clear HROW1 XL;gi_wp2_with (gi_at_builtin;refine wpListIn_append_own _ rfl (.tmp 33) (.tmp 35) 239 rfl (w.heap.size+3) 247 i0 (.int .u32 0) 1 4 Tryz.underlying239 hi ZE ZO ZA rfl (by decide) _ _ _ rfl (YE.out.alloc _) ⟨wr.heap.size,0,none⟩ 1 1 [.int .u32 (vv:Int)] rfl rfl (cell_one_new _ _ _) (by simp[Value.oneCell']) ?c3 ?c4 ?c5 ?_)
    case c3=>unfold maxLen;omega
    case c4=>omega
    case c5=>simp;omega
    intro v' w1 Ze ZG _;obtain⟨g',cap',rfl⟩:=ownsRow_succ Ze
    have Zo:∀B,B<w.heap.size+3→some B≠v.ownBlock:=fun B hB e=>by have:=(YE.out.lt B e.symm).1;omega
    have bx1:Box2 w1 (w.heap.size+1) false v:=(HBX.out.alloc _).kept ZG (Zo _ (by omega));have YF:=bx1.cell1;have VN:=bx1.frozen 1;have hnb2:w1.grownBy (w1.setCell ⟨w.heap.size+1,1,none⟩ (.slice (some ⟨g',0,none⟩) (pl+1) cap')) (some (w.heap.size+1)):=za7 (zci _ _) (.inl rfl) _;have BX2:=Z9 (bx1.set1 (.slice (some ⟨g',0,none⟩) (pl+1) cap'));have ZI:=Ze.kept hnb2 (.inr (fun e=>by have:=(Ze.lt _ e).1;omega));rw[zd0,HVAL.out,show List.map (grp s) pre ++ [grp s x]=List.map (grp s) (pre ++ [x])by simp,HPL.out]at ZI;have HO2:=Z9 ZI;have RES2:Hid (Box2 (w1.setCell ⟨w.heap.size+1,1,none⟩ (.slice (some ⟨g',0,none⟩) (pl+1) cap')) w.heap.size false (.slice none 0 0)):=((HRES.out.alloc _).kept ZG (Zo _ (by omega))).other (by show w.heap.size≠w.heap.size+1;omega) _
    have BL1:Below w.heap.size w w1:=(HBL.out.alloc HBL.out.size _).grown ZG (by simp;omega) (fun k hk=>by have:=(YE.out.lt k hk).1;omega);have BL2:Hid (Below w.heap.size w (w1.setCell ⟨w.heap.size+1,1,none⟩ (.slice (some ⟨g',0,none⟩) (pl+1) cap'))):=BL1.setCell (p:=⟨w.heap.size+1,1,none⟩) (by show w.heap.size≤w.heap.size+1;omega) _
    have SZ2:Hid (w.heap.size+3≤(w1.setCell ⟨w.heap.size+1,1,none⟩ (.slice (some ⟨g',0,none⟩) (pl+1) cap')).heap.size):=by
     have:=ZG.size;simp at this;show _≤_;simp[World.setCell];omega
    have KF2:Hid (KeepsFrom W0.heap.size wr (w1.setCell ⟨w.heap.size+1,1,none⟩ (.slice (some ⟨g',0,none⟩) (pl+1) cap'))):=by
     refine KeepsOthers.from (((KeepsOthers.alloc wr _).trans (KeepsOthers.of_grownBy ZG fun j o ej hj => ?_)).trans (KeepsOthers.setCell _ _ _)) _
     rcases(YE.out.alloc (.cells #[.int .u32 (vv:Int)] 247)).2 with⟨rfl,_⟩ |⟨g,cap,cur,rfl,_,Yq,_⟩
     ·simp[Value.ownBlock]at ej
     ·obtain rfl:g=j:=by simpa[Value.ownBlock]using ej
      rw[Yq]at hj;cases hj;rfl
    have KB2:Hid (zf5 (w.heap.size+2) wr (w1.setCell ⟨w.heap.size+1,1,none⟩ (.slice (some ⟨g',0,none⟩) (pl+1) cap'))):=by
     show _=_
     rw[Below.heap_setCell w1 ⟨w.heap.size+1,1,none⟩ _ (w.heap.size+2) (by show w.heap.size+2≠w.heap.size+1;omega),ZG.block (w.heap.size+2) (by simp;omega) (Zo _ (by omega)),Below.heap_alloc wr _ _ (by omega)]
    clear Ze ZG bx1 Zo hnb2 ZI BL1;gi_wp2;refine⟨KF2.out,KB2.out,⟨⟨_,BX2.out,?_⟩,RES2.out,BL2.out,SZ2.out⟩⟩;rw[List.length_append,←HPL.out];have:=HO2.out;rw[←HPL.out]at this;exact this
 case done =>
  rintro D ys W hD rfl ⟨⟨v,Z2,YV⟩,YI,ZK,X0⟩ hK;rw[List.length_range]at YV;have hval:val ((List.range m).map (grp s))=N:=zmo s N m hN (by omega) (by omega)
  have Y4:=zeu YV (by omega) (by
   intro x hx;obtain⟨k,_,rfl⟩:=List.mem_map.1 hx
   exact z7a s k Ve.out)
  rw[hval]at Y4;have ZF:=Z9 Y4;have YF:=Z2.cell1;have VN:=Z2.frozen 1;have HBX:=Z9 Z2;have HRES:=Z9 YI;have HBL:=Z9 ZK;have HK:=Z9 hK;clear Y4 hval YV Z2 YI ZK hK;gi_wp2_with (gi_at_call 248;refine(callsIn_wide.2 ZF.out).mono ?_;rintro e w' ⟨⟨v2,l2,rfl,ZI,Zr⟩,rfl⟩;obtain⟨a2,c2,rfl,Yv,Wt,Yr⟩:=zbd ZI;obtain⟨k2,Y3⟩:∃k2,k2=l2.length:=⟨_,rfl⟩;rw[←Y3]at ZI Wt ⊢;have HO2:=Z9 ZI;have Yy:=Z9 Zr;have HN2:=Z9 Yr;have HK2:=Z9 Y3;have Zu:Box2 (W.setCell ⟨w.heap.size+1,1,none⟩ (.slice a2 k2 c2)) (w.heap.size+1) false (.slice a2 k2 c2):=HBX.out.set1 _;have Yb:Box2 (W.setCell ⟨w.heap.size+1,1,none⟩ (.slice a2 k2 c2)) w.heap.size false (.slice none 0 0):=HRES.out.other (by show w.heap.size≠w.heap.size+1;omega) _;have e0:=Zu.cell0;have e1:=Zu.cell1;have e2:=Yb.cell0;have e3:=Yb.cell1;have e4:=Yb.frozen 0;have e5:=Yb.frozen 1;have HY2:=Z9 Yb;clear ZI Zr Yr Yv Y3 Zu Yb)
  have WL:Box2 (((W.setCell ⟨w.heap.size+1,1,none⟩ (.slice a2 k2 c2)).setCell ⟨w.heap.size,0,none⟩ (.bool false)).setCell ⟨w.heap.size,1,none⟩ (.slice a2 k2 c2)) w.heap.size false (.slice a2 k2 c2):=(HY2.out.set0 false).set1 _;obtain⟨FW,YC⟩:∃FW,FW=((W.setCell ⟨w.heap.size+1,1,none⟩ (.slice a2 k2 c2)).setCell ⟨w.heap.size,0,none⟩ (.bool false)).setCell ⟨w.heap.size,1,none⟩ (.slice a2 k2 c2):=⟨_,rfl⟩
  have hKf:FW.heap[D]?=some (.deferred (some [])):=by
   rw[YC,Below.heap_setCell _ ⟨w.heap.size,1,none⟩ _ D (by show D≠w.heap.size;omega),Below.heap_setCell _ ⟨w.heap.size,0,none⟩ _ D (by show D≠w.heap.size;omega),Below.heap_setCell _ ⟨w.heap.size+1,1,none⟩ _ D (by show D≠w.heap.size+1;omega)];exact HK.out
  have hbF:Below w.heap.size w FW:=by rw[YC];exact((HBL.out.setCell (p:=⟨w.heap.size+1,1,none⟩) (by show w.heap.size≤w.heap.size+1;omega) _).setCell (p:=⟨w.heap.size,0,none⟩) (Nat.le_refl _) _).setCell (p:=⟨w.heap.size,1,none⟩) (Nat.le_refl _) _
  have hoF:FW.ownsRow (w.heap.size+3) 247 1 (.slice a2 k2 c2) k2 (nums .u32 l2):=by
   have Z0:∀B,B<w.heap.size+3→(Value.slice a2 k2 c2).ownBlock=none∨(Value.slice a2 k2 c2).ownBlock≠some B:=fun B hB=>.inr (fun e=>by have:=(HO2.out.lt B e).1;omega)
   rw[YC];exact((HO2.out.kept (za7 (zci _ (some (w.heap.size+1))) (.inl rfl) _) (Z0 _ (by omega))).kept (za7 (zci _ (some w.heap.size)) (.inl rfl) _) (Z0 _ (by omega))).kept (za7 (zci _ (some w.heap.size)) (.inl rfl) _) (Z0 _ (by omega))
  rw[←YC]at WL ⊢;have hrP:Box2 (FW.putObj D (.deferred none)) w.heap.size false (.slice a2 k2 c2):=WL.kept (grownBy_putObj' FW D (.deferred none)) (fun e=>by injection e with e;omega);have hoP:=ownsRow_putObj hoF (.deferred none) hKf rfl;have hbP:Below w.heap.size w (FW.putObj D (.deferred none)):=hbF.grown (grownBy_putObj' FW D (.deferred none)) hbF.size (fun k e=>by injection e with e;omega);refine⟨by simp,.inl ⟨_,_,rfl,run_takeDeferred hKf,?_⟩⟩;have q0:=hrP.cell0;have q1:=hrP.cell1;refine⟨.agg #[.bool false,.slice a2 k2 c2],?_,a2,c2,l2,?_,by have:=HK2.out;omega,by rw[←HK2.out];exact zky hoP (by omega),Yy.out,hbP⟩
  ·simp[results,Tryz.results245,go_sem,q0,q1]
  ·rw[HK2.out];simp
 case stop =>
  rintro D c pre W _ _ h _;exact h.elim
theorem z2v(s t:ByteArray)(w:World)(hs:t.size≤100000)(N:Nat)(hN:t.data.toList=txtN N)(SO:0<N)(h0:0<s.size)(h1:((s[0].toNat:Int) == 45)=true)(HTS:Hid (s.extract 1 s.size=t)) :
 Calls Tryz.prog 245 #[.string s] w (zoa w (-(N:Int))):=by
 refine(callsIn_wide (n:=6)).1 ?_;refine callsIn_of_wp_marks Tryz.func245 rfl trivial ?_ rfl;simp only[Tryz.ntmps245,List.size_toArray,List.length_cons,List.length_nil,Nat.reduceAdd,Nat.reduceSub,Array.replicate_succ,Array.replicate_zero,List.push_toArray,List.append_toArray,List.nil_append,List.cons_append]
 have hT:∀f,Fence.wide.fn f:=fun _=>trivial
 have hT:∀f,Fence.wide.fn f:=fun _=>trivial
 gi_wp2;gi_region;rw[HTS.out];gi_wp2_with (gi_at_call 257;refine(zpt Fence.wide _ trivial rfl _ _).mono ?_;rintro e w' ⟨rfl,rfl⟩);obtain⟨U0,UJ⟩:∃U0,U0=((w.alloc (.cells #[.bool false,.slice none 0 0] 241)).alloc (.cells #[.bool true,.slice none 0 0] 241)).alloc (.cells #[.string t] 9):=⟨_,rfl⟩
 have usz:U0.heap.size=w.heap.size+3:=by rw[UJ];simp
 have uR0:Box2 U0 w.heap.size false (.slice none 0 0):=by rw[UJ];exact Box2.alloc (Box2.alloc (show Box2 (w.alloc (.cells #[.bool false,.slice none 0 0] 241)) w.heap.size false (.slice none 0 0)from World.alloc_heap_new w _) _) _
 have uB0:Box2 U0 (w.heap.size+1) true (.slice none 0 0):=by
  rw[UJ];refine Box2.alloc ?_ _;have:=World.alloc_heap_new (w.alloc (.cells #[.bool false,.slice none 0 0] 241)) (.cells #[.bool true,.slice none 0 0] 241);rw[World.size_alloc]at this;exact this
 have uS0:Boxed U0 (w.heap.size+2) 9 (.string t):=by
  rw[UJ];have:=Boxed.new ((w.alloc (.cells #[.bool false,.slice none 0 0] 241)).alloc (.cells #[.bool true,.slice none 0 0] 241)) 9 (.string t);rw[World.size_alloc,World.size_alloc]at this;exact this
 have ubel:Below w.heap.size w U0:=by rw[UJ];exact(((Below.refl _ w).alloc (Nat.le_refl _) _).alloc (by simp) _).alloc (by simp;omega) _
 rw[←UJ];obtain⟨W0,Z7⟩:∃W0,W0=U0.drew:=⟨_,rfl⟩
 have ZS:W0.heap.size=w.heap.size+3:=by rw[Z7];exact usz
 have hR0:Box2 W0 w.heap.size false (.slice none 0 0):=by rw[Z7];exact uR0
 have hB0:Box2 W0 (w.heap.size+1) true (.slice none 0 0):=by rw[Z7];exact uB0
 have Uk:Boxed W0 (w.heap.size+2) 9 (.string t):=by rw[Z7];exact uS0
 have ZW:Below w.heap.size w W0:=by rw[Z7];exact ubel.drew
 rw[←Z7];clear Z7 UJ usz uR0 uB0 uS0 ubel
 have Ve:Hid (∀c ∈ t.data.toList,48≤c.toNat∧c.toNat≤57):=by show ∀c ∈ _,_;rw[hN];exact zfo N
 have hsz2:=Z9 ZS;obtain⟨i0,hi,ZE,ZO,ZA⟩:=info_parts zgq;obtain⟨m,WW,WX⟩:∃m,t.size≤9*m∧9*m<t.size+9:=⟨(t.size+8) / 9,by omega,by omega⟩
 refine wpIn_rangeFunc_ownG rfl (by omega) (gf:=262) (lb:=#[.pointer (some ⟨w.heap.size+2,0,none⟩)]) rfl trivial (enters_of Tryz.func262 (by kernel_rfl) rfl)
  (zjh Fence.wide _ trivial rfl (by omega) (w.heap.size+2) m t (by omega) WW WX W0 Uk) zpr (zps (by omega)) (Below.refl _ _) (fun _=>rfl)
  (z6l w true t) (fun _ _ _=>False) (zo3 w true t W0 (by omega)) (fun _ _ _ _ _ hs _ _=>hs) (zkr w true t W0 hR0 hB0 ZW (by omega)) ?a1 ?assign ?body ?done ?stop
 case assign =>
  intro l x W K hK;gi_wp2;exact hK
 case body =>
  rintro l pre x W ⟨⟨v,Z2,YV⟩,YI,ZK,X0⟩ Z4
  have XQ:∀c ∈ (zeq t x).data.toList,48≤c.toNat∧c.toNat≤57:=fun c hc=>by
   unfold zeq at hc;rw[Lib.extract_data]at hc;exact Ve.out c (List.mem_of_mem_drop (List.mem_of_mem_take hc))
  have YG:(zeq t x).size≤9:=by unfold zeq;simp;omega
  obtain⟨g,hg⟩:∃g,g=zeq t x:=⟨_,rfl⟩
  have Xq:grp t x=dval (zbo g.data.toList):=by rw[hg];rfl
  rw[←hg]at XQ YG ⊢;have HCH:=Z9 XQ;have HGV:=Z9 Xq;have HRES:=Z9 YI;have HBL:=Z9 ZK;have Xz:=Z9 YV;have HBX:=Z9 Z2
  have hT2:∀f,(Fence.wide.inRound l).fn f:=fun _=>trivial
  clear hg Xq XQ YI ZK YV Z2 hT;gi_wp2;gi_loopw [6,20] (fun vv iv wr=>(∃k:Nat,k≤g.size∧iv=.int .i64 k∧vv=.int .u32 (dval (zbo (g.data.toList.take k)):Nat))∧wr=W) (fun _ iv _=>g.size-(intOf iv).toNat)
  case atStart=>exact⟨⟨0,Nat.zero_le _,rfl,by simp[zbo,dval]⟩,rfl⟩
  case round =>
   obtain⟨⟨k,hk,rfl,rfl⟩,rfl⟩:=hrel;obtain⟨vv,Xx⟩:∃vv,vv=dval (zbo (g.data.toList.take k)):=⟨_,rfl⟩
   rw[←Xx];have HVV:=Z9 Xx
   by_cases Ww:k<g.size
   ·have hvb:vv<100000000:=by
     rw[Xx];have h1:=zn0 (zbo (g.data.toList.take k)) (zjq _ (fun c hc=>HCH.out c (List.mem_of_mem_take hc)));have h2:(zbo (g.data.toList.take k)).length≤8:=by unfold zbo;rw[List.length_map,List.length_reverse,List.length_take];omega
     have h3:10 ^ (zbo (g.data.toList.take k)).length≤10 ^ 8:=Nat.pow_le_pow_right (by omega) h2;omega
    have hcd:=HCH.out _ (zhd g k Ww);obtain⟨y,hy⟩:∃y,y=g[k].toNat-48:=⟨_,rfl⟩
    have hyI:((g[k].toNat:Int)-48)=(y:Int):=by omega
    have hyb:y<10:=by omega
    have YM:dval (zbo (g.data.toList.take (k+1)))=vv*10+y:=by
     rw[zep g k Ww,zgr,←HVV.out,←hy];omega
    have HNX:=Z9 YM;obtain⟨c1,c2⟩:=hcd;clear Xx hy YM;gi_wp2;go_roundw
    case rel=>exact⟨⟨k+1,by omega,by go_num,by rw[HNX.out];congr 1⟩,trivial⟩
    case measure=>simp[intOf]<;>omega
   ·have hkg:k=g.size:=by omega
    have hval:vv=grp t x:=by rw[Xx,hkg,List.take_of_length_le (by rw[zab];omega)];exact HGV.out.symm
    have HVAL:=Z9 hval;have Z5:=HBX.out.cell1;clear Xx hkg hval;have hpm:pre.length<100000:=by omega
    obtain⟨pl,XL⟩:∃pl,pl=pre.length:=⟨_,rfl⟩
    have HROW1:=Xz.out;rw[←XL]at hpm HROW1;have YE:=Z9 HROW1;have HPL:=Z9 XL;clear HROW1 XL;gi_wp2_with (gi_at_builtin;refine wpListIn_append_own _ rfl (.tmp 33) (.tmp 35) 239 rfl (w.heap.size+3) 247 i0 (.int .u32 0) 1 4 Tryz.underlying239 hi ZE ZO ZA rfl (by decide) _ _ _ rfl (YE.out.alloc _) ⟨wr.heap.size,0,none⟩ 1 1 [.int .u32 (vv:Int)] rfl rfl (cell_one_new _ _ _) (by simp[Value.oneCell']) ?c3 ?c4 ?c5 ?_)
    case c3=>unfold maxLen;omega
    case c4=>omega
    case c5=>simp;omega
    intro v' w1 Ze ZG _;obtain⟨g',cap',rfl⟩:=ownsRow_succ Ze
    have Zo:∀B,B<w.heap.size+3→some B≠v.ownBlock:=fun B hB e=>by have:=(YE.out.lt B e.symm).1;omega
    have bx1:Box2 w1 (w.heap.size+1) true v:=(HBX.out.alloc _).kept ZG (Zo _ (by omega));have YF:=bx1.cell1;have VN:=bx1.frozen 1;have hnb2:w1.grownBy (w1.setCell ⟨w.heap.size+1,1,none⟩ (.slice (some ⟨g',0,none⟩) (pl+1) cap')) (some (w.heap.size+1)):=za7 (zci _ _) (.inl rfl) _;have BX2:=Z9 (bx1.set1 (.slice (some ⟨g',0,none⟩) (pl+1) cap'));have ZI:=Ze.kept hnb2 (.inr (fun e=>by have:=(Ze.lt _ e).1;omega));rw[zd0,HVAL.out,show List.map (grp t) pre ++ [grp t x]=List.map (grp t) (pre ++ [x])by simp,HPL.out]at ZI;have HO2:=Z9 ZI;have RES2:Hid (Box2 (w1.setCell ⟨w.heap.size+1,1,none⟩ (.slice (some ⟨g',0,none⟩) (pl+1) cap')) w.heap.size false (.slice none 0 0)):=((HRES.out.alloc _).kept ZG (Zo _ (by omega))).other (by show w.heap.size≠w.heap.size+1;omega) _
    have BL1:Below w.heap.size w w1:=(HBL.out.alloc HBL.out.size _).grown ZG (by simp;omega) (fun k hk=>by have:=(YE.out.lt k hk).1;omega);have BL2:Hid (Below w.heap.size w (w1.setCell ⟨w.heap.size+1,1,none⟩ (.slice (some ⟨g',0,none⟩) (pl+1) cap'))):=BL1.setCell (p:=⟨w.heap.size+1,1,none⟩) (by show w.heap.size≤w.heap.size+1;omega) _
    have SZ2:Hid (w.heap.size+3≤(w1.setCell ⟨w.heap.size+1,1,none⟩ (.slice (some ⟨g',0,none⟩) (pl+1) cap')).heap.size):=by
     have:=ZG.size;simp at this;show _≤_;simp[World.setCell];omega
    have KF2:Hid (KeepsFrom W0.heap.size wr (w1.setCell ⟨w.heap.size+1,1,none⟩ (.slice (some ⟨g',0,none⟩) (pl+1) cap'))):=by
     refine KeepsOthers.from (((KeepsOthers.alloc wr _).trans (KeepsOthers.of_grownBy ZG fun j o ej hj => ?_)).trans (KeepsOthers.setCell _ _ _)) _
     rcases(YE.out.alloc (.cells #[.int .u32 (vv:Int)] 247)).2 with⟨rfl,_⟩ |⟨g,cap,cur,rfl,_,Yq,_⟩
     ·simp[Value.ownBlock]at ej
     ·obtain rfl:g=j:=by simpa[Value.ownBlock]using ej
      rw[Yq]at hj;cases hj;rfl
    have KB2:Hid (zf5 (w.heap.size+2) wr (w1.setCell ⟨w.heap.size+1,1,none⟩ (.slice (some ⟨g',0,none⟩) (pl+1) cap'))):=by
     show _=_
     rw[Below.heap_setCell w1 ⟨w.heap.size+1,1,none⟩ _ (w.heap.size+2) (by show w.heap.size+2≠w.heap.size+1;omega),ZG.block (w.heap.size+2) (by simp;omega) (Zo _ (by omega)),Below.heap_alloc wr _ _ (by omega)]
    clear Ze ZG bx1 Zo hnb2 ZI BL1;gi_wp2;refine⟨KF2.out,KB2.out,⟨⟨_,BX2.out,?_⟩,RES2.out,BL2.out,SZ2.out⟩⟩;rw[List.length_append,←HPL.out];have:=HO2.out;rw[←HPL.out]at this;exact this
 case done =>
  rintro D ys W hD rfl ⟨⟨v,Z2,YV⟩,YI,ZK,X0⟩ hK;rw[List.length_range]at YV;have hval:val ((List.range m).map (grp t))=N:=zmo t N m hN (by omega) (by omega)
  have Y4:=zeu YV (by omega) (by
   intro x hx;obtain⟨k,_,rfl⟩:=List.mem_map.1 hx
   exact z7a t k Ve.out)
  rw[hval]at Y4;have ZF:=Z9 Y4;have YF:=Z2.cell1;have VN:=Z2.frozen 1;have HBX:=Z9 Z2;have HRES:=Z9 YI;have HBL:=Z9 ZK;have HK:=Z9 hK;clear Y4 hval YV Z2 YI ZK hK;gi_wp2_with (gi_at_call 248;refine(callsIn_wide.2 ZF.out).mono ?_;rintro e w' ⟨⟨v2,l2,rfl,ZI,Zr⟩,rfl⟩;obtain⟨a2,c2,rfl,Yv,Wt,Yr⟩:=zbd ZI;obtain⟨k2,Y3⟩:∃k2,k2=l2.length:=⟨_,rfl⟩;rw[←Y3]at ZI Wt ⊢;have HO2:=Z9 ZI;have Yy:=Z9 Zr;have HN2:=Z9 Yr;have HK2:=Z9 Y3;have Zu:Box2 (W.setCell ⟨w.heap.size+1,1,none⟩ (.slice a2 k2 c2)) (w.heap.size+1) true (.slice a2 k2 c2):=HBX.out.set1 _;have Yb:Box2 (W.setCell ⟨w.heap.size+1,1,none⟩ (.slice a2 k2 c2)) w.heap.size false (.slice none 0 0):=HRES.out.other (by show w.heap.size≠w.heap.size+1;omega) _;have e0:=Zu.cell0;have e1:=Zu.cell1;have e2:=Yb.cell0;have e3:=Yb.cell1;have e4:=Yb.frozen 0;have e5:=Yb.frozen 1;have HY2:=Z9 Yb;clear ZI Zr Yr Yv Y3 Zu Yb)
  have WL:Box2 (((W.setCell ⟨w.heap.size+1,1,none⟩ (.slice a2 k2 c2)).setCell ⟨w.heap.size,0,none⟩ (.bool true)).setCell ⟨w.heap.size,1,none⟩ (.slice a2 k2 c2)) w.heap.size true (.slice a2 k2 c2):=(HY2.out.set0 true).set1 _;obtain⟨FW,YC⟩:∃FW,FW=((W.setCell ⟨w.heap.size+1,1,none⟩ (.slice a2 k2 c2)).setCell ⟨w.heap.size,0,none⟩ (.bool true)).setCell ⟨w.heap.size,1,none⟩ (.slice a2 k2 c2):=⟨_,rfl⟩
  have hKf:FW.heap[D]?=some (.deferred (some [])):=by
   rw[YC,Below.heap_setCell _ ⟨w.heap.size,1,none⟩ _ D (by show D≠w.heap.size;omega),Below.heap_setCell _ ⟨w.heap.size,0,none⟩ _ D (by show D≠w.heap.size;omega),Below.heap_setCell _ ⟨w.heap.size+1,1,none⟩ _ D (by show D≠w.heap.size+1;omega)];exact HK.out
  have hbF:Below w.heap.size w FW:=by rw[YC];exact((HBL.out.setCell (p:=⟨w.heap.size+1,1,none⟩) (by show w.heap.size≤w.heap.size+1;omega) _).setCell (p:=⟨w.heap.size,0,none⟩) (Nat.le_refl _) _).setCell (p:=⟨w.heap.size,1,none⟩) (Nat.le_refl _) _
  have hoF:FW.ownsRow (w.heap.size+3) 247 1 (.slice a2 k2 c2) k2 (nums .u32 l2):=by
   have Z0:∀B,B<w.heap.size+3→(Value.slice a2 k2 c2).ownBlock=none∨(Value.slice a2 k2 c2).ownBlock≠some B:=fun B hB=>.inr (fun e=>by have:=(HO2.out.lt B e).1;omega)
   rw[YC];exact((HO2.out.kept (za7 (zci _ (some (w.heap.size+1))) (.inl rfl) _) (Z0 _ (by omega))).kept (za7 (zci _ (some w.heap.size)) (.inl rfl) _) (Z0 _ (by omega))).kept (za7 (zci _ (some w.heap.size)) (.inl rfl) _) (Z0 _ (by omega))
  rw[←YC]at WL ⊢;have hrP:Box2 (FW.putObj D (.deferred none)) w.heap.size true (.slice a2 k2 c2):=WL.kept (grownBy_putObj' FW D (.deferred none)) (fun e=>by injection e with e;omega);have hoP:=ownsRow_putObj hoF (.deferred none) hKf rfl;have hbP:Below w.heap.size w (FW.putObj D (.deferred none)):=hbF.grown (grownBy_putObj' FW D (.deferred none)) hbF.size (fun k e=>by injection e with e;omega);refine⟨by simp,.inl ⟨_,_,rfl,run_takeDeferred hKf,?_⟩⟩;have q0:=hrP.cell0;have q1:=hrP.cell1;refine⟨.agg #[.bool true,.slice a2 k2 c2],?_,a2,c2,l2,?_,by have:=HK2.out;omega,by rw[←HK2.out];exact zky hoP (by omega),by rw[Int.natAbs_neg,Int.natAbs_natCast];exact Yy.out,hbP⟩
  ·simp[results,Tryz.results245,go_sem,q0,q1]
  ·rw[HK2.out];simp;exact SO
 case stop =>
  rintro D c pre W _ _ h _;exact h.elim
theorem zs1(s:ByteArray)(z:Int)(w:World)(hs:s.size≤100000)(hz:s.data.toList=txtZ z):Calls Tryz.prog 245 #[.string s] w (zoa w z):=by
 by_cases h:z<0
 ·have e:txtZ z=45 :: txtN z.natAbs:=by unfold txtZ;rw[if_pos h]
  have h0:0<s.size:=by rw[←zab,hz,e];simp
  have h1:((s[0].toNat:Int) == 45)=true:=by
   have:=zdi s h0;rw[hz,e]at this
   injection this with this
   rw[←this];rfl
  have ht:(s.extract 1 s.size).data.toList=txtN z.natAbs:=by rw[zon,hz,e];rfl
  have:=z2v s (s.extract 1 s.size) w (by simp;omega) z.natAbs ht (by omega) h0 h1 rfl
  rwa [show -((z.natAbs:Nat):Int)=z by omega]at this
 ·have e:txtZ z=txtN z.natAbs:=by unfold txtZ;rw[if_neg h]
  have h0:0<s.size:=by rw[←zab,hz,e];exact List.length_pos_iff.2 (zgb _)
  have h1:((s[0].toNat:Int) == 45)=false:=by
   have:=zdi s h0;rw[hz,e]at this;rw[beq_eq_false_iff_ne];intro h2;have h3:=z7v (c:=s[0]) (n:=45) h2 (by omega);rw[h3]at this;exact zgc _ this
  have:=z2u s w hs z.natAbs (by rw[hz,e]) h0 h1
  rwa [show((z.natAbs:Nat):Int)=z by omega]at this
theorem zz7{a b:Nat}(h:a≤b):(decN a).length≤(decN b).length:=by
 have h1:1≤(decN b).length:=List.length_pos_iff.2 (zz6 b);exact(zfz a _ h1).2 (Nat.lt_of_le_of_lt h ((zfz b _ h1).1 (Nat.le_refl _)))
def zcm(w:World)(n:Int)(e:Ending)(w':World):Prop:=e=.returned (.int .i64 n)∧Below w.heap.size w w'
def z7n(w:World)(l:List UInt8)(n:Int)(e:Ending)(w':World):Prop:=e=.returned (.tuple #[.string ⟨l.toArray⟩,.int .i64 n])∧Below w.heap.size w w'
def slN(l:List UInt8):Nat:=(l.takeWhile (fun c=>c != 47)).length
theorem z61(l:List UInt8):slN l≤l.length:=(List.takeWhile_sublist _).length_le
theorem z62{l:List UInt8}{k:Nat}(hk:k<l.length)(h0:∀j,j<k→l[j]?≠some 47)(h:l[k]?=some 47):slN l=k:=by
 induction l generalizing k with
 |nil=>simp at hk
 |cons c l ih =>
  cases k with
  |zero=>simp at h;subst h;rfl
  |succ k =>
   have hc:c≠47:=by have:=h0 0 (by omega);simpa using this
   have:=ih (k:=k) (by simpa using hk) (fun j hj=>by have:=h0 (j+1) (by omega);simpa using this) (by simpa using h);unfold slN at this ⊢;rw[List.takeWhile_cons,if_pos (by simpa using hc)];simp[this]
theorem zsx{l:List UInt8}(h0:∀j,j<l.length→l[j]?≠some 47):slN l=l.length:=by
 induction l with
 |nil=>rfl
 |cons c l ih =>
  have hc:c≠47:=by have:=h0 0 (by simp);simpa using this
  have:=ih (fun j hj=>by have:=h0 (j+1) (by simpa using hj);simpa using this);unfold slN at this ⊢;rw[List.takeWhile_cons,if_pos (by simpa using hc)];simp[this]
def gcdB(n d:List UInt8):Nat:=match rdZ n,rdZ d with
 |some x,some y=>Nat.gcd x.natAbs y.natAbs
 |_,_=>0
def chkF(n d:List UInt8):Int :=
 if chkZ n=12∨chkZ d=12∨d.head?=some 45∨d=[48]∨d=[49]then 12
 else if chkZ n=14∨chkZ d=14 then 14 else if gcdB n d=1 then 0 else 12
def chkR(l:List UInt8):Int:=if slN l<l.length then chkF (l.take (slN l)) (l.drop (slN l+1))else chkZ l
theorem zj4{l:List UInt8}(h:slN l=l.length):chkR l=chkZ l:=by unfold chkR;rw[if_neg (by omega)]
theorem zli{l:List UInt8}{k:Nat}(h:slN l=k)(hk:k<l.length):chkR l=chkF (l.take k) (l.drop (k+1)):=by subst h;unfold chkR;rw[if_pos hk]
theorem zi9{n d:List UInt8}(h:chkZ n=12∨chkZ d=12∨d.head?=some 45∨d=[48]∨d=[49]):chkF n d=12:=by unfold chkF;rw[if_pos h]
theorem zec(l:List UInt8):(chkZ l=12∧rdZ l=none)∨∃z,rdZ l=some z∧l=txtZ z∧chkZ l=if bigZ z=true then 14 else 0:=by
 cases e:rdZ l with
 |none=>exact .inl ⟨zp2 e,rfl⟩
 |some z=>right;have:=zni e;exact⟨z,rfl,this,by rw[this];exact zcw z⟩
theorem zp3{z:Int}:chkZ (txtZ z)≠12:=by rw[zcw];split<;>decide
theorem zh3(z:Int):(txtZ z).head?=some 45↔z<0:=by
 unfold txtZ
 split
 ·simp[*]
 ·simp[*,zgc]
theorem zlj(x y:Int)(hy:0≤y)(h0:txtZ y≠[48])(h1:txtZ y≠[49]) :
 chkF (txtZ x) (txtZ y)=if bigZ x=true∨bigZ y=true then 14 else if Nat.gcd x.natAbs y.natAbs=1 then 0 else 12:=by
 unfold chkF gcdB;rw[if_neg,zcw,zcw,zjx,zjx]
 ·cases bigZ x<;>cases bigZ y<;>simp
 ·rintro(h |h |h |h |h)
  ·exact zp3 h
  ·exact zp3 h
  ·rw[zh3]at h;omega
  ·exact h0 h
  ·exact h1 h
theorem txtZ_1:txtZ 1=[49]:=by
 have:decN 1=[1]:=by unfold decN;rw[if_neg (by decide),zf0 (by decide)];show _ :: decL 0=_;rw[zdh]
 show txtZ ((1:Nat):Int)=_
 rw[zm3];unfold txtN;rw[this];rfl
theorem zsh(n:Nat):txtZ (n:Int)=[49]↔n=1:=by
 constructor
 ·intro h
  have:txtZ (n:Int)=txtZ 1:=h.trans txtZ_1.symm;have:=zh2 this;omega
 ·rintro rfl;exact txtZ_1
def zv5(w:World)(g:ByteArray)(e:Ending)(w':World):Prop:=e=.returned (.tuple #[.string g,.int .i64 0])∧Below w.heap.size w w'
theorem list_beq{l m:List UInt8}:(l == m)=false↔l≠m:=by simp
theorem zfl{z:Int}(h:bigZ z=false):(decN z.natAbs).length≤1000:=by unfold bigZ at h;simpa using h
end Go.Proofs.YtkobkpepgdddeaaGreatDoor
