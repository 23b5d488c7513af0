/-
  The program's number, walked: what it reads at a place. No condition.
-/
import Derived.Test.YtkobkpepgdddeaaGreatDoorZaq
import Derived.Test.YtkobkpepgdddeaaGreatDoorZap
import Derived.Test.YtkobkpepgdddeaaGreatDoorZaf
import Derived.Test.YtkobkpepgdddeaaGreatDoorZao
import Derived.RegionTactic
import Derived.Outline
import Derived.RangeFuncNested
import Derived.RangeFuncBound
import Derived.RangeFuncCalls
import Derived.RangeFuncLeaves
import Derived.RangeFuncBox
import Derived.Shelf.Abstract
import Derived.WalkKit
import Derived.OwnWalkIn
import Derived.TacticsInMore
import Derived.LoopNIn
import Derived.LoopIn
namespace Go.Proofs.YtkobkpepgdddeaaGreatDoor
open Go.RowKit
set_option maxHeartbeats 16000000
set_option maxRecDepth 100000
theorem zm7(l:List UInt8):numV (48 :: l)=numV l:=by
 unfold numV;rw[List.foldl_cons];rfl
theorem zom{l:List UInt8}(h:∀c ∈ l,dgQ c=true):l.dropWhile (· == 48)=if numV l=0 then[]else txtN (numV l):=by
 induction l with
 |nil=>rfl
 |cons c l ih =>
  by_cases hc:c=48
  ·subst hc
   rw[zm7,←ih fun x hx=>h x (List.mem_cons_of_mem _ hx)];rfl
  ·have hcan:CanN (c :: l):=⟨List.cons_ne_nil _ _,fun x hx=>by have:=h x hx;unfold dgQ at this;simpa using this,fun a=>by simp at a;exact absurd a hc⟩
   have e:=zbt _ hcan;rw[←zcs]at e;have hp:=zf5 (List.cons_ne_nil c l) h (by intro a;simp at a;exact hc a);rw[if_neg (by omega),e,List.dropWhile_cons,if_neg (by simpa using hc)]
theorem zq4(k:Nat):numV (49 :: List.replicate k 48)=10 ^ k:=by
 induction k with
 |zero=>rfl
 |succ k ih =>
  rw[List.replicate_succ']
  show numV ((49 :: List.replicate k 48) ++ [48])=_
  rw[zdp,ih,Nat.pow_succ]
  show 10*10 ^ k+(48-48)=_
  omega
theorem zx3(k:Nat):49 :: List.replicate k 48=txtN (10 ^ k):=by
 have hcan:CanN (49 :: List.replicate k 48):=⟨List.cons_ne_nil _ _,fun x hx=>by
  rcases List.mem_cons.1 hx with rfl |hx
  ·decide
  ·rw[List.eq_of_mem_replicate hx];decide,fun a=>by simp at a⟩
 have e:=zbt _ hcan;rw[←zcs,zq4]at e;exact e.symm
theorem zx4{l:List UInt8}(hl:l≠[])(h:∀c ∈ l,dgQ c=true)(h0:l.head?≠some 48):l=txtN (numV l):=by
 have hcan:CanN l:=⟨hl,fun x hx=>by have:=h x hx;unfold dgQ at this;simpa using this,fun a=>absurd a h0⟩;have e:=zbt _ hcan;rw[←zcs]at e;exact e.symm
def zcp(w:World)(i:Nat)(R:OneR)(e:Ending)(w':World):Prop :=
 (match R with
  | .no er=>∃(r:ByteArray)(en:Int),e=.returned (.tuple #[.string r,.int .i64 en,.int .i64 er])
  | .yes t n=>e=.returned (.tuple #[.string t.rat,.int .i64 ((i+n:Nat):Int),.int .i64 0]))∧Below w.heap.size w w'
theorem zgj{w w':World}{i n en:Nat}{t:Tk}(h:i+n=en)(b:Below w.heap.size w w'):zcp w i (.yes t n) (.returned (.tuple #[.string t.rat,.int .i64 (en:Int),.int .i64 0])) w':=by
 subst h;exact⟨rfl,b⟩
theorem zof(s:ByteArray)(i0 k:Nat)(hs:s.size≤1000000)(hi:i0≤s.size)(W:World) :
 Calls Tryz.prog 140 #[.string s,.int .i64 (i0:Int),.slice (some ⟨W.heap.size,0,none⟩) 1 1] (W.alloc (.cells #[.int .i64 (k:Int)] 3)) (RetI (W.alloc (.cells #[.int .i64 (k:Int)] 3)) ((i0+spn (clsB [k]) (s.data.toList.drop i0):Nat):Int)) :=
 zha s i0 1 1 _ [k] _ hs hi rfl (by omega) (fun j hj=>⟨W.heap.size,0,rfl,by simp,by
  have UX:j=0:=by simp at hj;exact hj
  subst UX;have:=World.alloc_heap_new W (.cells #[.int .i64 (k:Int)] 3)
  show(match (W.alloc (.cells #[.int .i64 (k:Int)] 3)).heap[W.heap.size]? with |some (.cells c _ _)=>c[0]? |_=>none)=_
  rw[this];rfl⟩)
theorem zxd:clsB [2]=dgQ:=by
 funext c
 unfold clsB;have:=(zc0 c).1
 cases h:dgQ c
 ·have:¬zaj c=2:=fun a=>by rw[this.1 a]at h;cases h
  simpa using this
 ·simpa using this.2 h
theorem zcb(s:ByteArray)(a b:Nat):(s.extract a b).data.toList=(s.data.toList.drop a).take (b-a):=by
 rw[ByteArray.data_extract,Array.toList_extract,List.extract_eq_take_drop]
theorem zws{t:ByteArray}{l:List UInt8}{n:Nat}(e:t.data.toList=l.take n)(h:0<t.size):((t[0].toNat:Int) == 48)=decide (l.head?=some 48):=by
 have h1:=zcf t h;rw[e]at h1;have hl:t.data.toList.length=t.size:=zab t;rw[e]at hl
 have h2:(l.take n).head?=l.head?:=by
  cases l with
  |nil=>simp
  |cons c l=>cases n with
   |zero=>simp at hl;omega
   |succ n=>rfl
 rw[←h2,h1,Bool.eq_iff_iff,beq_iff_eq,decide_eq_true_eq,Option.some.injEq,←UInt8.toNat_inj]
 show _↔t[0].toNat=48
 omega
theorem z5j(k:Nat):Lib.repeatL [48] k=List.replicate k 48:=by
 induction k with
 |zero=>rfl
 |succ k ih=>show[48] ++ Lib.repeatL [48] k=_;rw[ih];rfl
theorem zxs{l:List UInt8}:(atN l == 2)=dgH l:=by
 cases l with
 |nil=>rfl
 |cons c l =>
  have:=(zc0 c).1
  show(zaj c == 2)=dgQ c
  cases h:dgQ c
  ·have:¬zaj c=2:=fun a=>by rw[this.1 a]at h;cases h
   simpa using this
  ·simpa using this.2 h
theorem zx9{NN:List UInt8}(h:∀c ∈ NN,dgQ c=true)(hl:NN.length≤1000)(sg:Bool) :
 (if (NN.dropWhile (· == 48))=[]then[48]else if sg=true then 45 :: NN.dropWhile (· == 48)else NN.dropWhile (· == 48))=txtZ (if sg=true then -(numV NN:Int)else(numV NN:Int)) ∧
  bigZ (if sg=true then -(numV NN:Int)else(numV NN:Int))=false:=by
 obtain⟨M,hM⟩:∃M,M=1000:=⟨_,rfl⟩
 have hv:numV NN<10 ^ M:=Nat.lt_of_lt_of_le (zeg NN fun c hc=>by have:=h c hc;unfold dgQ at this;simpa using this) (Nat.pow_le_pow_right (by omega) (by omega));have hb:=ze8 hv (by omega) (by omega);refine⟨?_,zca (x:=(numV NN:Int)) (by split<;>simp) hb⟩;rw[zom h]
 by_cases h0:numV NN=0
 ·rw[if_pos h0,if_pos rfl,h0]
  cases sg<;>rfl
 ·rw[if_neg h0,if_neg (zhd _)]
  cases sg
  ·rw[if_neg (by decide),if_neg (by decide)]
   unfold txtZ;rw[if_neg (by omega),Int.natAbs_natCast]
  ·rw[if_pos rfl,if_pos rfl]
   unfold txtZ;rw[if_pos (by omega)]
   congr 2
   omega
theorem zv0(s:ByteArray)(i F P EN:Nat)(NN DD tr nz res:ByteArray)(sg frc pt FO ended big:Bool)(w:World)(hs:s.size≤100000)(hi:i<s.size)(t45:((s[i].toNat:Int) == 45)=sg)
 (hF:F=i+(if sg=true then 1 else 0)) (Xe:F≤s.size) (hP:P=F+spn dgQ (s.data.toList.drop F)) (Sr:P≤s.size) (XU:frc=frcQ (s.data.toList.drop P))
 (Td:∀h:P<s.size,frc=true→pt=decide (s[P].toNat=46))
 (WZ:EN=if frc=true then P+1+spn dgQ (s.data.toList.drop (P+1))else P) (TB:EN≤s.size)
 (hFP:F≤P) (hPE:P+1≤EN∨frc=false)
 (Ur:NN=if frc=true∧pt=true then s.extract F P ++ s.extract (P+1) EN else s.extract F P)
 (Uq:DD=if frc=true then(if pt=true then⟨#[49]⟩ ++ ⟨(Lib.repeatL [48] (EN-(P+1))).toArray⟩else s.extract (P+1) EN)else⟨#[49]⟩)
 (TC:FO=((decide (1<P-F) && decide ((s.data.toList.drop F).head?=some 48)) ||(frc && !pt && decide ((s.data.toList.drop (P+1)).head?=some 48))))
 (YS:ended=endQ (s.data.toList.drop EN)) (ZW:big=(decide (1000<NN.size) ||decide (1000<DD.size)))
 (YG:tr=⟨(NN.data.toList.dropWhile (· == 48)).toArray⟩) (Xs:nz=if tr.toList.isEmpty=true then⟨#[48]⟩else if sg=true then⟨#[45]⟩ ++ tr else tr)
 (XG:Hid (FO=false→big=false→∀W,Calls Tryz.prog 186 #[.string nz,.string DD] W (StE W res 0))) :
 Calls Tryz.prog 146 #[.string s,.int .i64 (i:Int)] w (zcp w i (if FO=true∨ended=false then .no 12 else if big=true then .no 14 else .yes ⟨3,bsL [],res,0,0⟩ (EN-i))):=by
 have HA1:Hid (∀W:World,Calls Tryz.prog 140 #[.string s,.int .i64 (F:Int),.slice (some ⟨W.heap.size,0,none⟩) 1 1] (W.alloc (.cells #[.int .i64 2] 3)) (RetI (W.alloc (.cells #[.int .i64 2] 3)) (P:Int))):=fun W=>by
  have:=zof s F 2 (by omega) Xe W;rw[zxd,←hP]at this;exact this
 have HA2:Hid (∀W:World,P+1≤s.size→frc=true→Calls Tryz.prog 140 #[.string s,.int .i64 ((P:Int)+1),.slice (some ⟨W.heap.size,0,none⟩) 1 1] (W.alloc (.cells #[.int .i64 2] 3)) (RetI (W.alloc (.cells #[.int .i64 2] 3)) (EN:Int))):=fun W h1 h2=>by
  rw[show((P:Int)+1)=((P+1:Nat):Int)by omega];have:=zof s (P+1) 2 (by omega) h1 W;rw[zxd]at this;rw[WZ,if_pos h2];exact this
 have ZI:Hid (∀W,Calls Tryz.prog 141 #[.string s,.int .i64 ((P:Int)+1)] W (RetI W (atN (s.data.toList.drop (P+1))))):=fun W=>by
  rw[show((P:Int)+1)=((P+1:Nat):Int)by omega];exact zje s (P+1) W
 have YR:Hid (∀W,Calls Tryz.prog 144 #[.string s,.int .i64 (EN:Int)] W (RetB W ended)):=fun W=>by rw[YS];exact zn2 s EN W
 have Zp:Hid (∀W,Calls Tryz.prog 185 #[.string NN,.string ⟨#[48]⟩] W fun e w'=>e=.returned (.string tr)∧W=w'):=fun W=>by
  rw[YG]
  exact(Tryz.strings_TrimLeft_one NN 48 (by decide) W).mono fun e w' ⟨a,b⟩=>⟨a,b.symm⟩
 have HRP:Hid (∀W,Calls Tryz.prog 184 #[.string ⟨#[48]⟩,.int .i64 ((EN-(P+1):Nat):Int)] W fun e w'=>e=.returned (.string ⟨(Lib.repeatL [48] (EN-(P+1))).toArray⟩)∧Below W.heap.size W w'):=fun W =>
  Tryz.strings_Repeat ⟨#[48]⟩ (EN-(P+1)) W (by omega) (by show 1*_≤_;omega)
 have HTL:Hid (NN.size≤1000→tr.size≤1000):=fun h=>by
  rw[YG,←zab]
  show(NN.data.toList.dropWhile _).length≤_
  have:=(List.dropWhile_sublist (l:=NN.data.toList) (· == 48)).length_le;rw[zab]at this;omega
 have hPEN:P≤EN:=by rw[WZ];split<;>omega
 obtain⟨ds,VX⟩:∃ds,ds=dgH (s.data.toList.drop (P+1)):=⟨_,rfl⟩
 have hadig:(atN (s.data.toList.drop (P+1)) == 2)=ds:=by rw[VX];exact zxs
 have hfrc2:∀h:P<s.size,frc=(decide (s[P].toNat=46∨s[P].toNat=47) && ds):=fun h=>by
  rw[XU,VX,zbw s P h]
  cases s.data.toList.drop (P+1)with
  |nil=>show false=(_ && false);rw[Bool.and_false]
  |cons x l=>rfl
 have hfrc3:¬P<s.size→frc=false:=fun h=>by
  rw[XU,List.drop_eq_nil_of_le (by rw[zab];omega)];rfl
 have VH:frc=true→P+2≤EN:=fun h=>by
  have Z7:P<s.size:=Decidable.byContradiction fun hn=>by rw[hfrc3 hn]at h;cases h
  have h2:=hfrc2 Z7;rw[h]at h2
  have hd:ds=true:=by cases ds with
   |true=>rfl
   |false=>rw[Bool.and_false]at h2;cases h2
  rw[VX]at hd;rw[WZ,if_pos h]
  cases hl:s.data.toList.drop (P+1)with
  |nil=>rw[hl]at hd;cases hd
  |cons c l =>
   rw[hl]at hd;have:=zfk (r:=l) (show dgQ c=true from hd);omega
 obtain⟨atv,TL⟩:∃atv,atv=atN (s.data.toList.drop (P+1)):=⟨_,rfl⟩
 rw[←TL]at ZI hadig
 obtain⟨RES,UQ⟩:∃RES:OneR,RES=(if FO=true∨ended=false then .no 12 else if big=true then .no 14 else .yes ⟨3,bsL [],res,0,0⟩ (EN-i)):=⟨_,rfl⟩
 rw[←UQ];obtain⟨fr,X6⟩:∃fr,fr=s.extract F P:=⟨_,rfl⟩
 obtain⟨bk,V9⟩:∃bk,bk=s.extract (P+1) EN:=⟨_,rfl⟩
 have hfrs:fr.size=P-F:=by rw[X6];simp;omega
 have hbks:frc=true→bk.size=EN-(P+1):=fun h=>by rw[V9];simp;omega
 have hbk0:∀h:0<bk.size,((bk[0].toNat:Int) == 48)=decide ((s.data.toList.drop (P+1)).head?=some 48):=fun h=>zws (by rw[V9,zcb]) h
 have hfr0:∀h:0<fr.size,((fr[0].toNat:Int) == 48)=decide ((s.data.toList.drop F).head?=some 48):=fun h=>zws (by rw[X6,zcb]) h
 rw[←X6,←V9]at Ur;rw[←V9]at Uq;have HF:=Z9 hF;have HFO:=Z9 TC;have HR:=Z9 UQ;have HNN:=Z9 Ur;have HDD:=Z9 Uq;have HNZ:=Z9 Xs;have HBIG:=Z9 ZW;have HFRC:=Z9 hfrc2;have HFRC3:=Z9 hfrc3;have HPT:=Z9 Td;have HADIG:=Z9 hadig;have HFR:=Z9 X6;have HBK:=Z9 V9;have HFRS:=Z9 hfrs;have HBKS:=Z9 hbks;have HFR0:=Z9 hfr0;have HBK0:=Z9 hbk0;have HENE:=Z9 WZ;have HBP:=Z9 VH;clear hF TC UQ Ur Uq Xs ZW XU hfrc2 hfrc3 Td hadig X6 V9 hP YS YG VX TL WZ hfrs hbks hbk0 hfr0 VH;go_enter Tryz.func146,Tryz.ntmps146
 go_upto_if 17 with(fail)
 go_cut [7] (fun s7 wx=>s7=.int .i64 (F:Int)∧w=wx)
 case first=>as_aux_lemma =>
  cases sg
  ·have e:=HF.out
   rw[if_neg (by decide),Nat.add_zero]at e;have E:=Z9 e;clear e;go_wp2_with fail;go_meet;exact⟨by rw[E.out],rfl⟩
  ·have e:=HF.out
   rw[if_pos rfl]at e;have E:=Z9 e;clear e;go_wp2_with fail;go_meet;exact⟨by rw[E.out];go_num,rfl⟩
 case rest=>as_aux_lemma =>
  obtain⟨rfl,rfl⟩:=hcut;go_wp2_with fail;refine(HA1.out _).mono ?_;rintro e w' ⟨rfl,rfl⟩;have B1:Hid (Below w.heap.size w (w.alloc (.cells #[.int .i64 2] 3))):=zaf w _;obtain⟨W1,X8⟩:∃W1,W1=w.alloc (.cells #[.int .i64 2] 3):=⟨_,rfl⟩
  rw[←X8]at B1 ⊢;obtain⟨f0,VY⟩:∃f0,f0=(decide (1<P-F) && decide ((s.data.toList.drop F).head?=some 48)):=⟨_,rfl⟩
  have HF0:=Z9 VY;clear X8 VY
  go_upto_region 7 with(fail)
  rw[←HFR.out];go_cut [11] (fun s11 wx=>s11=.bool f0∧W1=wx)
  case first=>as_aux_lemma =>
   have Y9:=HFRS.out
   by_cases h1:1<P-F
   ·have hp:0<fr.size:=by omega
    have h2:1<fr.size:=by omega
    have e:=HFR0.out hp;have e2:=HF0.out;rw[decide_eq_true h1,Bool.true_and,←e]at e2;have E2:=Z9 e2;clear e e2 Y9;go_wp2_with fail;go_meet;exact⟨by rw[E2.out],rfl⟩
   ·have h2:¬1<fr.size:=by omega
    have e2:=HF0.out;rw[decide_eq_false h1,Bool.false_and]at e2;have E2:=Z9 e2;clear e2 Y9;go_wp2_with fail;go_meet;exact⟨by rw[E2.out],rfl⟩
  case rest=>as_aux_lemma =>
   obtain⟨rfl,rfl⟩:=hcut
   go_upto_region 8 with(fail)
   go_cut [59] (fun s59 wx=>s59=.bool frc∧W1=wx)
   case first=>as_aux_lemma =>
    by_cases h1:P<s.size
    ·have e:=HFRC.out h1
     by_cases Yx:s[P].toNat=46
     ·have t1:((s[P].toNat:Int) == 46)=true:=by simp;omega
      rw[decide_eq_true (Or.inl Yx),Bool.true_and,←HADIG.out]at e;have E:=Z9 e;clear e Yx;go_wp2_with fail;refine(ZI.out _).mono ?_;rintro e w' ⟨rfl,rfl⟩;go_wp2_with fail;go_meet;exact⟨by rw[E.out],rfl⟩
     ·have t1:((s[P].toNat:Int) == 46)=false:=by simp;omega
      by_cases YF:s[P].toNat=47
      ·have t2:((s[P].toNat:Int) == 47)=true:=by simp;omega
       rw[decide_eq_true (Or.inr YF),Bool.true_and,←HADIG.out]at e;have E:=Z9 e;clear e Yx YF;go_wp2_with fail;refine(ZI.out _).mono ?_;rintro e w' ⟨rfl,rfl⟩;go_wp2_with fail;go_meet;exact⟨by rw[E.out],rfl⟩
      ·have t2:((s[P].toNat:Int) == 47)=false:=by simp;omega
       rw[decide_eq_false (by rintro(h |h);exact Yx h;exact YF h),Bool.false_and]at e;have E:=Z9 e;clear e Yx YF;go_wp2_with fail;go_meet;exact⟨by rw[E.out],rfl⟩
    ·have e:=HFRC3.out h1
     have E:=Z9 e;clear e;go_wp2_with fail;go_meet;exact⟨by rw[E.out],rfl⟩
   case rest=>as_aux_lemma =>
    obtain⟨rfl,rfl⟩:=hcut
    go_upto_if 59 with(fail)
    go_cut [5,9,10,11] (fun s5 s9 s10 s11 wx=>s5=.int .i64 (EN:Int)∧s9=.string NN∧s10=.string DD∧s11=.bool FO∧Below w.heap.size w wx)
    case first=>as_aux_lemma =>
     cases frc
     ·have e1:=HNN.out
      have e2:=HDD.out;have e3:=HFO.out;have e4:=HENE.out;rw[if_neg (by rintro⟨h,_⟩;cases h)]at e1;rw[if_neg (by decide)]at e2 e4;rw[Bool.false_and,Bool.false_and,Bool.or_false,←HF0.out]at e3;have E1:=Z9 e1;have E2:=Z9 e2;have E3:=Z9 e3;have E4:=Z9 e4;clear e1 e2 e3 e4;go_wp2_with fail;go_meet;exact⟨by rw[E4.out],by rw[E1.out],by rw[E2.out],by rw[E3.out],B1.out⟩
     ·have Z7:P<s.size:=Decidable.byContradiction fun hn=>by have:=HFRC3.out hn;cases this
      have VH:=HBP.out rfl;have Wz:=HBKS.out rfl;have hbs0:0<bk.size:=by omega
      have HB0:=Z9 (HBK0.out hbs0);have HPT2:=Z9 (HPT.out Z7 rfl);have e1:=HNN.out;have e2:=HDD.out;have e3:=HFO.out;rw[if_pos rfl]at e2;rw[Bool.true_and,←HF0.out,←HB0.out]at e3
      have HRP2:Hid (∀W,Calls Tryz.prog 184 #[.string ⟨#[48]⟩,.int .i64 (bk.size:Int)] W fun e w'=>e=.returned (.string ⟨(Lib.repeatL [48] (EN-(P+1))).toArray⟩)∧Below W.heap.size W w'):=fun W=>by rw[Wz];exact HRP.out W
      have BKS:=Z9 Wz;have hbkle:bk.size≤100000:=by omega
      have hP1s:P+1≤EN:=by omega
      have rlen:(⟨(Lib.repeatL [48] (EN-(P+1))).toArray⟩:ByteArray).size≤100000:=by
       rw[←zab]
       show(Lib.repeatL [48] (EN-(P+1))).length≤_
       rw[Lib.repeatL_length];simp;omega
      obtain⟨rp,hrp⟩:∃rp:ByteArray,rp=⟨(Lib.repeatL [48] (EN-(P+1))).toArray⟩:=⟨_,rfl⟩
      rw[←hrp]at rlen e2 HRP2;have hfrle:fr.size≤100000:=by have:=HFRS.out;omega
      clear Wz hrp
      cases pt
      ·rw[if_neg (by rintro⟨_,h⟩;cases h)]at e1
       rw[if_neg (by decide)]at e2
       have Yx:¬s[P].toNat=46:=fun h=>by have:=HPT2.out;rw[decide_eq_true h]at this;cases this
       have t1:((s[P].toNat:Int) == 46)=false:=by simp;omega
       have E1:=Z9 e1;have E2:=Z9 e2;have E3:=Z9 e3;clear e1 e2 e3 Yx;go_wp2_with fail;refine(HA2.out _ (by omega) trivial).mono ?_;rintro e w' ⟨rfl,rfl⟩;have B2:Hid (Below w.heap.size w (W1.alloc (.cells #[.int .i64 2] 3))):=B1.out.alloc B1.out.size _;obtain⟨W2,Z4⟩:∃W2,W2=W1.alloc (.cells #[.int .i64 2] 3):=⟨_,rfl⟩
       rw[←Z4]at B2 ⊢;clear Z4
       go_upto_if 73 with(fail)
       rw[←HBK.out]
       cases f0
       ·go_wp2_with fail
        go_meet;exact⟨rfl,by rw[E1.out],by rw[E2.out],by rw[E3.out];rfl,B2.out⟩
       ·go_wp2_with fail
        go_meet;exact⟨rfl,by rw[E1.out],by rw[E2.out],by rw[E3.out];rfl,B2.out⟩
      ·rw[if_pos ⟨rfl,rfl⟩]at e1
       rw[if_pos rfl]at e2;rw[show(!true)=false from rfl,Bool.false_and,Bool.or_false]at e3;have Yx:s[P].toNat=46:=by have:=HPT2.out;simpa using this.symm
       have t1:((s[P].toNat:Int) == 46)=true:=by simp;omega
       have E1:=Z9 e1;have E2:=Z9 e2;have E3:=Z9 e3;clear e1 e2 e3 Yx;go_wp2_with fail;refine(HA2.out _ (by omega) trivial).mono ?_;rintro e w' ⟨rfl,rfl⟩;have B2:Hid (Below w.heap.size w (W1.alloc (.cells #[.int .i64 2] 3))):=B1.out.alloc B1.out.size _;obtain⟨W2,Z4⟩:∃W2,W2=W1.alloc (.cells #[.int .i64 2] 3):=⟨_,rfl⟩
       rw[←Z4]at B2 ⊢;clear Z4
       go_upto_if 73 with(fail)
       rw[←HBK.out];go_wp2_with fail;refine(HRP2.out _).mono ?_;rintro e w3 ⟨rfl,b3⟩;have B3:=Z9 (B2.out.trans (b3.mono B2.out.size));clear b3;go_wp2_with fail;go_meet;exact⟨rfl,by rw[E1.out],by rw[E2.out],by rw[E3.out],B3.out⟩
    case rest=>as_aux_lemma =>
     obtain⟨rfl,rfl,rfl,rfl,b2⟩:=hcut;have B2:=Z9 b2;clear b2
     cases FO
     ·go_wp2_with fail
      refine(YR.out _).mono ?_;rintro e w' ⟨rfl,rfl⟩
      cases ended
      ·have hR:RES=.no 12:=HR.out.trans (if_pos (.inr rfl))
       have HRR:=Z9 hR;clear hR;go_wp2_with fail;go_ret3
       show zcp _ _ _ _ _
       rw[HRR.out];exact⟨⟨_,_,rfl⟩,B2.out⟩
      ·have hR0:RES=if big=true then .no 14 else .yes ⟨3,bsL [],res,0,0⟩ (EN-i):=HR.out.trans (if_neg (by rintro(h |h)<;>cases h))
       by_cases h1:1000<NN.size
       ·have hb:big=true:=by rw[HBIG.out,decide_eq_true h1];rfl
        rw[if_pos hb]at hR0;have HRR:=Z9 hR0;clear hR0 hb;go_wp2_with fail;go_ret3
        show zcp _ _ _ _ _
        rw[HRR.out];exact⟨⟨_,_,rfl⟩,B2.out⟩
       ·by_cases h2:1000<DD.size
        ·have hb:big=true:=by rw[HBIG.out,decide_eq_true h2,Bool.or_true]
         rw[if_pos hb]at hR0;have HRR:=Z9 hR0;clear hR0 hb;go_wp2_with fail;go_ret3
         show zcp _ _ _ _ _
         rw[HRR.out];exact⟨⟨_,_,rfl⟩,B2.out⟩
        ·have hb:¬big=true:=by rw[HBIG.out,decide_eq_false h1,decide_eq_false h2];decide
         rw[if_neg hb]at hR0;have HRR:=Z9 hR0;have Xx:big=false:=by simpa using hb
         have HMK1:=Z9 (XG.out (by trivial) Xx);clear hR0 hb Xx;have Xs:=HNZ.out;have htl:tr.size≤1000:=HTL.out (by omega)
         have VJ:i≤EN:=by
          have:i≤F:=by rw[HF.out];exact Nat.le_add_right _ _
          omega
         cases htz:tr.toList.isEmpty
         ·rw[htz,if_neg (by decide)]at Xs
          cases sg
          ·rw[if_neg (by decide)]at Xs
           have hFi:=HF.out;rw[if_neg (by decide),Nat.add_zero]at hFi;have hgt:¬i<F:=by omega
           have HM:=HMK1.out;rw[Xs]at HM;have HM2:=Z9 HM;clear HM Xs hFi;go_wp2_with fail;refine(Zp.out _).mono ?_;rintro e w' ⟨rfl,rfl⟩;go_wp2_with fail;refine(HM2.out _).mono ?_;rintro e w4 ⟨rfl,b4⟩;have B4:=Z9 (B2.out.trans (b4.mono B2.out.size));clear b4;go_wp2_with fail;go_ret3
           show zcp _ _ _ _ _
           rw[HRR.out];exact zgj (by omega) B4.out
          ·rw[if_pos rfl]at Xs
           have hFi:=HF.out;rw[if_pos rfl]at hFi;have hgt:i<F:=by omega
           have HM:=HMK1.out;rw[Xs]at HM;have HM2:=Z9 HM;clear HM Xs hFi;go_wp2_with fail;refine(Zp.out _).mono ?_;rintro e w' ⟨rfl,rfl⟩;go_wp2_with fail;refine(HM2.out _).mono ?_;rintro e w4 ⟨rfl,b4⟩;have B4:=Z9 (B2.out.trans (b4.mono B2.out.size));clear b4;go_wp2_with fail;go_ret3
           show zcp _ _ _ _ _
           rw[HRR.out];exact zgj (by omega) B4.out
         ·rw[htz,if_pos rfl]at Xs
          have HM:=HMK1.out;rw[Xs]at HM;have HM2:=Z9 HM;clear HM Xs;go_wp2_with fail;refine(Zp.out _).mono ?_;rintro e w' ⟨rfl,rfl⟩;go_wp2_with fail;refine(HM2.out _).mono ?_;rintro e w4 ⟨rfl,b4⟩;have B4:=Z9 (B2.out.trans (b4.mono B2.out.size));clear b4;go_wp2_with fail;go_ret3
          show zcp _ _ _ _ _
          rw[HRR.out];exact zgj (by omega) B4.out
     ·have hR:RES=.no 12:=HR.out.trans (if_pos (.inl rfl))
      have HRR:=Z9 hR;clear hR;go_wp2_with fail;go_ret3
      show zcp _ _ _ _ _
      rw[HRR.out];exact⟨⟨_,_,rfl⟩,B2.out⟩
theorem zgb(l:List UInt8)(a b:Nat):(l.drop a).drop b=l.drop (a+b):=List.drop_drop
theorem zsx(s:ByteArray)(i:Nat)(w:World)(hs:s.size≤100000)(hi:i<s.size)(hd:dgQ s[i]=true∨(s[i].toNat=45∧dgH (s.data.toList.drop (i+1))=true)) :
 Calls Tryz.prog 146 #[.string s,.int .i64 (i:Int)] w (zcp w i (numK (s.data.toList.drop i))):=by
 obtain⟨L,hL⟩:∃L,L=s.data.toList:=⟨_,rfl⟩
 have Z5:L.length=s.size:=by rw[hL];exact zab s
 have hli:L.drop i=s[i] :: L.drop (i+1):=by rw[hL];exact zbw s i hi
 obtain⟨sg,Tj⟩:∃sg,((s[i].toNat:Int) == 45)=sg:=⟨_,rfl⟩
 have hnS:numS (L.drop i)=if sg=true then 1 else 0:=by
  rw[hli];unfold numS;rw[←Tj]
  by_cases h:s[i].toNat=45
  ·have:s[i]=45:=by rw[←UInt8.toNat_inj];exact h
   rw[if_pos (by rw[this];rfl),if_pos (by simp;omega)]
  ·rw[if_neg (by intro a;simp at a;exact h (by rw[a];rfl)),if_neg (by simp;omega)]
 obtain⟨F,hF⟩:∃F,F=i+(if sg=true then 1 else 0):=⟨_,rfl⟩
 have Xe:F≤s.size:=by rw[hF];split<;>omega
 have hdF:(L.drop i).drop (numS (L.drop i))=L.drop F:=by rw[zgb,hnS,←hF]
 obtain⟨P,hP⟩:∃P,P=F+spn dgQ (L.drop F):=⟨_,rfl⟩
 have ha:=zd4 dgQ (L.drop F);rw[List.length_drop,Z5]at ha;have Sr:P≤s.size:=by omega
 have St:1≤spn dgQ (L.drop F):=by
  rcases hd with hd |⟨YN,hd⟩
  ·have:¬s[i].toNat=45:=by unfold dgQ at hd;simp at hd;omega
   have e:sg=false:=by rw[←Tj];simp;omega
   rw[hF,e,if_neg (by decide),Nat.add_zero,hli];exact zfk hd
  ·have e:sg=true:=by rw[←Tj];simp;omega
   rw[hF,e,if_pos rfl];rw[←hL]at hd
   cases hl:L.drop (i+1)with
   |nil=>rw[hl]at hd;cases hd
   |cons c l=>rw[hl]at hd;exact zfk hd
 have hdP:(L.drop i).drop (numS (L.drop i)+spn dgQ (L.drop F))=L.drop P:=by rw[zgb,hnS,hP,hF];congr 1;omega
 obtain⟨frc,XU⟩:∃frc,frc=frcQ (L.drop P):=⟨_,rfl⟩
 obtain⟨EN,WZ⟩:∃EN,EN=if frc=true then P+1+spn dgQ (L.drop (P+1))else P:=⟨_,rfl⟩
 have hb:=zd4 dgQ (L.drop (P+1));rw[List.length_drop,Z5]at hb
 have hfl:frc=true→P+2≤s.size:=fun h=>by
  rw[XU]at h;have:=zri h;rw[List.length_drop,Z5]at this;omega
 have TB:EN≤s.size:=by
  rw[WZ]
  cases hc:frc with
  |true=>rw[if_pos rfl];have:=hfl hc;omega
  |false=>rw[if_neg (by decide)];exact Sr
 obtain⟨pt,Td⟩:∃pt,pt=decide ((L.drop P).head?=some 46):=⟨_,rfl⟩
 have hpt2:∀h:P<s.size,frc=true→pt=decide (s[P].toNat=46):=fun h _=>by
  rw[Td,hL,zbw s P h,Bool.eq_iff_iff,decide_eq_true_eq,decide_eq_true_eq]
  show some s[P]=some 46↔_
  rw[Option.some.injEq,←UInt8.toNat_inj];rfl
 obtain⟨fl,We⟩:∃fl,fl=(L.drop F).take (spn dgQ (L.drop F)):=⟨_,rfl⟩
 obtain⟨bl,Zu⟩:∃bl,bl=if frc=true then(L.drop (P+1)).take (spn dgQ (L.drop (P+1)))else[]:=⟨_,rfl⟩
 have hfd:∀c ∈ fl,dgQ c=true:=by rw[We];exact zbn _ _
 have hbd:∀c ∈ bl,dgQ c=true:=by
  rw[Zu];split
  ·exact zbn _ _
  ·intro c hc;cases hc
 have hfll:fl.length=P-F:=by rw[We,List.length_take,List.length_drop,Z5];omega
 have hbll:frc=true→bl.length=EN-(P+1):=fun h=>by rw[Zu,if_pos h,WZ,if_pos h,List.length_take,List.length_drop,Z5];omega
 obtain⟨NN,Ur⟩:∃NN,NN=if frc=true∧pt=true then s.extract F P ++ s.extract (P+1) EN else s.extract F P:=⟨_,rfl⟩
 obtain⟨DD,Uq⟩:∃DD:ByteArray,DD=if frc=true then(if pt=true then⟨#[49]⟩ ++ ⟨(Lib.repeatL [48] (EN-(P+1))).toArray⟩else s.extract (P+1) EN)else⟨#[49]⟩:=⟨_,rfl⟩
 have exF:(s.extract F P).data.toList=fl:=by rw[zcb,←hL,We,hP];congr 1;omega
 have exB:frc=true→(s.extract (P+1) EN).data.toList=bl:=fun h=>by rw[zcb,←hL,Zu,if_pos h,WZ,if_pos h];congr 1;omega
 have lNN:NN.data.toList=if frc=true∧pt=true then fl ++ bl else fl:=by
  rw[Ur];split
  ·rename_i h;rw[zer,exF,exB h.1]
  ·exact exF
 have lDD:DD.data.toList=if frc=true then(if pt=true then 49 :: List.replicate bl.length 48 else bl)else[49]:=by
  rw[Uq];split
  ·rename_i h
   split
   ·rw[zer,z5j,hbll h];rfl
   ·exact exB h
  ·rfl
 have hNd:∀c ∈ NN.data.toList,dgQ c=true:=by
  rw[lNN];split
  ·intro c hc
   rcases List.mem_append.1 hc with hc |hc
   ·exact hfd c hc
   ·exact hbd c hc
  ·exact hfd
 obtain⟨mk,Yb⟩:∃mk:Nat,mk=if frc=true then(if pt=true then 46 else 47)else 0:=⟨_,rfl⟩
 have hmkP:frc=true→((L.drop P).headD 0).toNat=mk:=fun h=>by
  have h2:=hfl h;have Z7:P<s.size:=by omega
  have e:=hpt2 Z7 h;rw[Yb,if_pos h];rw[XU]at h;rw[hL,zbw s P Z7]at h ⊢
  show s[P].toNat=_
  cases hl:s.data.toList.drop (P+1)with
  |nil=>rw[hl]at h;cases h
  |cons x l =>
   rw[hl]at h;unfold frcQ at h;simp only[Bool.and_eq_true,decide_eq_true_eq]at h;rw[e]
   by_cases Yx:s[P].toNat=46
   ·rw[decide_eq_true Yx,if_pos rfl];exact Yx
   ·rw[decide_eq_false Yx,if_neg (by decide)];omega
 obtain⟨ended,Xi⟩:∃ended,ended=endQ (L.drop EN):=⟨_,rfl⟩
 -- what it reads,by its parts
 have hnum:numK (L.drop i)=numO (decide (sg=true)) fl mk bl ended (EN-i):=by
  unfold numK;dsimp only
  have Yd:decide (numS (L.drop i)=1)=decide (sg=true):=by rw[hnS];cases sg<;>rfl
  rw[hdF,hdP,Yd,←We]
  cases hc:frc with
  |true =>
   have hc':frcQ (L.drop P)=true:=by rw[←XU];exact hc
   rw[if_pos hc',zgb,zgb];have e1:bl=(L.drop (P+1)).take (spn dgQ (L.drop (P+1))):=by rw[Zu,if_pos hc]
   have e2:EN=P+(1+spn dgQ (L.drop (P+1))):=by rw[WZ,if_pos hc];omega
   rw[←e1,←e2,←Xi,hmkP hc]
   congr 1
   rw[hnS,WZ,if_pos hc,hP,hF];omega
  |false =>
   have hc':¬frcQ (L.drop P)=true:=by rw[←XU,hc];decide
   rw[if_neg hc'];have e1:bl=[]:=by rw[Zu,if_neg (by rw[hc];decide)]
   have e2:EN=P:=by rw[WZ,if_neg (by rw[hc];decide)]
   rw[e1,Yb,if_neg (by rw[hc];decide),Xi,e2]
   congr 1
   rw[hnS,hP,hF];omega
 obtain⟨FO,TC⟩:∃FO,FO=((decide (1<P-F) && decide ((L.drop F).head?=some 48)) ||(frc && !pt && decide ((L.drop (P+1)).head?=some 48))):=⟨_,rfl⟩
 obtain⟨big,ZW⟩:∃big,big=(decide (1000<NN.size) ||decide (1000<DD.size)):=⟨_,rfl⟩
 obtain⟨tr,YG⟩:∃tr:ByteArray,tr=⟨(NN.data.toList.dropWhile (· == 48)).toArray⟩:=⟨_,rfl⟩
 obtain⟨nz,Xs⟩:∃nz:ByteArray,nz=if tr.toList.isEmpty=true then⟨#[48]⟩else if sg=true then⟨#[45]⟩ ++ tr else tr:=⟨_,rfl⟩
 have hflh:fl.head?=(L.drop F).head?:=by
  rw[We]
  cases hl:L.drop F with
  |nil=>simp
  |cons c l =>
   rw[hl]at St;obtain⟨k,hk⟩:∃k,spn dgQ (c :: l)=k+1:=⟨spn dgQ (c :: l)-1,by omega⟩
   rw[hk];rfl
 have hblh:frc=true→bl≠[]∧bl.head?=(L.drop (P+1)).head?:=fun h=>by
  rw[Zu,if_pos h];have h2:=hfl h;have Z7:P<s.size:=by omega
  rw[XU,hL,zbw s P Z7,←hL]at h
  cases hl:L.drop (P+1)with
  |nil=>rw[hl]at h;cases h
  |cons c l =>
   rw[hl]at h;have hc:dgQ c=true:=by unfold frcQ at h;simp only[Bool.and_eq_true]at h;exact h.2
   obtain⟨k,hk⟩:∃k,spn dgQ (c :: l)=k+1:=⟨spn dgQ (c :: l)-1,by have:=zfk (r:=l) hc;omega⟩
   rw[hk];exact⟨by simp,rfl⟩
 have hNs:NN.size=if frc=true∧pt=true then fl.length+bl.length else fl.length:=by
  rw[←zab,lNN];split
  ·rw[List.length_append]
  ·rfl
 have hDs:DD.size=if frc=true then(if pt=true then 1+bl.length else bl.length)else 1:=by
  rw[←zab,lDD];split
  ·split
   ·simp;omega
   ·rfl
  ·rfl
 have VD:FO=true↔((1<fl.length∧fl.head?=some 48)∨(mk=47∧bl.head?=some 48)):=by
  rw[TC,hfll,hflh];simp only[Bool.or_eq_true,Bool.and_eq_true,decide_eq_true_eq,Bool.not_eq_true']
  constructor
  ·rintro(h |⟨⟨h1,h2⟩,h3⟩)
   ·exact .inl h
   ·exact .inr ⟨by rw[Yb,if_pos h1,h2];rfl,by rw[(hblh h1).2];exact h3⟩
  ·rintro(h |⟨h1,h2⟩)
   ·exact .inl h
   ·cases hc:frc with
    |false=>rw[Yb,hc]at h1;cases h1
    |true =>
     cases hp:pt with
     |true=>rw[Yb,hc,hp]at h1;cases h1
     |false=>exact .inr ⟨⟨rfl,rfl⟩,by rw[←(hblh hc).2];exact h2⟩
 have hfl1:1≤fl.length:=by omega
 have XY:big=true↔(1000<fl.length∨(mk=46∧1000<fl.length+bl.length)∨1000<bl.length):=by
  rw[ZW];simp only[Bool.or_eq_true,decide_eq_true_eq];rw[hNs,hDs,Yb]
  cases hc:frc with
  |false =>
   have:bl.length=0:=by rw[Zu,if_neg (by rw[hc];decide)];rfl
   simp;omega
  |true =>
   cases hp:pt with
   |true=>simp;omega
   |false=>simp
 obtain⟨res,Yv⟩:∃res,res=bsL (zgg (decide (sg=true)) fl mk bl):=⟨_,rfl⟩
 have Zw:numK (L.drop i)=if FO=true∨ended=false then .no 12 else if big=true then .no 14 else .yes ⟨3,bsL [],res,0,0⟩ (EN-i):=by
  rw[hnum];unfold numO
  by_cases h1:FO=true∨ended=false
  ·rw[if_pos h1,if_pos]
   rcases h1 with h1 |h1
   ·rcases VD.1 h1 with h |h
    ·exact .inl h
    ·exact .inr (.inr h)
   ·exact .inr (.inl h1)
  ·rw[if_neg h1,if_neg]
   ·by_cases h2:big=true
    ·rw[if_pos h2,if_pos (XY.1 h2)]
    ·rw[if_neg h2,if_neg (fun a=>h2 (XY.2 a)),Yv]
   ·rintro(h |h |h)
    ·exact h1 (.inl (VD.2 (.inl h)))
    ·exact h1 (.inr h)
    ·exact h1 (.inl (VD.2 (.inr h)))
 rw[←hL,Zw]
 refine zv0 s i F P EN NN DD tr nz res sg frc pt FO ended big w hs hi Tj hF Xe (by rw[←hL];exact hP) Sr (by rw[←hL];exact XU) hpt2 (by rw[←hL];exact WZ) TB (by omega)
  (by cases hc:frc with
   |false=>exact .inr rfl
   |true=>left;rw[WZ,if_pos hc];omega) Ur Uq (by rw[←hL];exact TC) (by rw[←hL];exact Xi) ZW YG Xs (Z9 fun TD Xx W => ?_)
 -- Make
 have Z0:¬(1000<fl.length∨(mk=46∧1000<fl.length+bl.length)∨1000<bl.length):=fun a=>by rw[XY.2 a]at Xx;cases Xx
 have hf3:¬((1<fl.length∧fl.head?=some 48)∨(mk=47∧bl.head?=some 48)):=fun a=>by rw[VD.2 a]at TD;cases TD
 have hNl:NN.data.toList.length≤1000:=by
  rw[zab,hNs]
  split
  ·rename_i h
   have:mk=46:=by rw[Yb,if_pos h.1,if_pos h.2]
   omega
  ·omega
 obtain⟨v1,v2⟩:=zx9 hNd hNl sg
 have hnzl:nz.data.toList=txtZ (if sg=true then -(numV NN.data.toList:Int)else(numV NN.data.toList:Int)):=by
  rw[←v1,Xs,zac,YG]
  show(if (NN.data.toList.dropWhile (· == 48)).isEmpty=true then(⟨#[48]⟩:ByteArray)else if sg=true then⟨#[45]⟩ ++ ⟨(NN.data.toList.dropWhile (· == 48)).toArray⟩else⟨(NN.data.toList.dropWhile (· == 48)).toArray⟩).data.toList=_
  by_cases he:NN.data.toList.dropWhile (· == 48)=[]
  ·rw[if_pos (by rw[he];rfl),if_pos he]
  ·rw[if_neg (by simpa using he),if_neg he]
   cases sg
   ·rfl
   ·rw[if_pos rfl,if_pos rfl,zer];rfl
 obtain⟨Y,hY⟩:∃Y:Nat,Y=if mk=46 then 10 ^ bl.length else if mk=47 then numV bl else 1:=⟨_,rfl⟩
 obtain⟨M,hM⟩:∃M,M=1000:=⟨_,rfl⟩
 have hDl:DD.data.toList=txtZ (Y:Int)∧Y<10 ^ M∧0<Y:=by
  have tz:∀n:Nat,txtZ (n:Int)=txtN n:=fun n=>by unfold txtZ;rw[if_neg (by omega),Int.natAbs_natCast]
  rw[lDD,tz]
  cases hc:frc with
  |false =>
   have e:mk=0:=by rw[Yb,if_neg (by rw[hc];decide)]
   rw[hY,e,if_neg (by decide),if_neg (by decide),if_neg (by decide)];exact⟨by rw[←tz];exact txtZ_1.symm,Nat.one_lt_pow (by omega) (by omega),by decide⟩
  |true =>
   rw[if_pos rfl]
   cases hp:pt with
   |true =>
    have e:mk=46:=by rw[Yb,if_pos hc,if_pos hp]
    rw[hY,e,if_pos rfl,if_pos rfl];exact⟨zx3 _,Nat.pow_lt_pow_right (by omega) (by omega),Nat.pow_pos (by omega)⟩
   |false =>
    have e:mk=47:=by rw[Yb,if_pos hc,if_neg (by rw[hp];decide)]
    rw[hY,e,if_neg (by decide),if_neg (by decide),if_pos rfl];have ZT:=(hblh hc).1
    have h0:bl.head?≠some 48:=fun a=>hf3 (.inr ⟨e,a⟩)
    exact⟨zx4 ZT hbd h0,Nat.lt_of_lt_of_le (zeg bl fun c Zs=>by have:=hbd c Zs;unfold dgQ at this;simpa using this) (Nat.pow_le_pow_right (by omega) (by omega)),zf5 ZT hbd h0⟩
 obtain⟨d1,d2,d3⟩:=hDl
 have hX:numV NN.data.toList=if mk=46 then numV (fl ++ bl)else numV fl:=by
  rw[lNN,Yb]
  cases hc:frc with
  |false=>simp
  |true=>cases hp:pt with
   |true=>rw[if_pos ⟨rfl,rfl⟩];rfl
   |false=>rw[if_neg (by rintro⟨_,h⟩;cases h)];rfl
 have WB:DD.size≤100000:=by
  rw[hDs];split
  ·split<;>omega
  ·omega
 have hnn:nz.size≤100000:=by
  rw[←zab,hnzl]
  have len:∀z:Int,bigZ z=false→(txtZ z).length≤1001:=fun z h=>by
   have:=zbz h;unfold txtZ
   split<;>simp[zd0]<;>omega
  exact Nat.le_trans (len _ v2) (by omega)
 have:=z38 nz DD _ (Y:Int) W hnn WB hnzl d1 v2 (ze8 d2 (by omega) (by omega)) (by omega)
 refine this.mono fun e w' ⟨h1,h2⟩=>⟨?_,h2⟩
 rw[h1,Yv];unfold zgg;dsimp only;rw[←hY,←hX]
 have hsg2:(if decide (sg=true)=true then -(numV NN.data.toList:Int)else(numV NN.data.toList:Int))=(if sg=true then -(numV NN.data.toList:Int)else(numV NN.data.toList:Int)):=by cases sg<;>rfl
 rw[hsg2];rfl
def zai(w:World)(i:Nat)(R:OneR)(e:Ending)(w':World):Prop :=
 (match R with
  | .no er=>∃(K:Int)(T Q:ByteArray)(D en:Int),e=.returned (.tuple #[.agg #[.int .u8 K,.string T,.string Q,.int .i64 D,.int .i64 (i:Int)],.int .i64 en,.int .i64 er])
  | .yes t n=>e=.returned (.tuple #[.agg #[.int .u8 t.kind,.string t.text,.string t.rat,.int .i64 t.date,.int .i64 (i:Int)],.int .i64 ((i+n:Nat):Int),.int .i64 0]))∧Below w.heap.size w w'
theorem za8{w w':World}{i:Nat}{er K D en:Int}{T Q:ByteArray}(b:Below w.heap.size w w'):zai w i (.no er) (.returned (.tuple #[.agg #[.int .u8 K,.string T,.string Q,.int .i64 D,.int .i64 (i:Int)],.int .i64 en,.int .i64 er])) w':=⟨⟨_,_,_,_,_,rfl⟩,b⟩
theorem zap{w w':World}{i n:Nat}{en:Int}{t:Tk}(h:((i+n:Nat):Int)=en)(b:Below w.heap.size w w'):zai w i (.yes t n) (.returned (.tuple #[.agg #[.int .u8 t.kind,.string t.text,.string t.rat,.int .i64 t.date,.int .i64 (i:Int)],.int .i64 en,.int .i64 0])) w':=by
 subst h;exact⟨rfl,b⟩
theorem zc5{w:World}{g:Nat}{cs:Array Value}{t:TypeId}(h:w.heap[g]?=some (.cells cs t))(i:Nat)(v:Value):(w.setCell ⟨g,i,none⟩ v).heap[g]?=some (.cells (cs.setIfInBounds i v) t):=by
 simp[World.setCell,Array.getElem?_modify,h]
theorem zme{w:World}{g:Nat}{cs:Array Value}{t:TypeId}(h:w.heap[g]?=some (.cells cs t))(i:Nat):w.cell? ⟨g,i,none⟩=cs[i]?:=by simp[World.cell?,h]
theorem zx8{w:World}{g:Nat}{cs:Array Value}{t:TypeId}(h:w.heap[g]?=some (.cells cs t))(i:Nat):w.frozen? ⟨g,i,none⟩=false:=by simp[World.frozen?,h]
theorem zag{w:World}{g:Nat}{a0 a1 a2 a3 a4:Value}{t:TypeId}(h:w.heap[g]?=some (.cells #[a0,a1,a2,a3,a4] t))(b0 b1 b2 b3 b4:Value) :
 (((((w.setCell ⟨g,0,none⟩ b0).setCell ⟨g,1,none⟩ b1).setCell ⟨g,2,none⟩ b2).setCell ⟨g,3,none⟩ b3).setCell ⟨g,4,none⟩ b4).heap[g]?=some (.cells #[b0,b1,b2,b3,b4] t):=by
 have h5:=zc5 (zc5 (zc5 (zc5 (zc5 h 0 b0) 1 b1) 2 b2) 3 b3) 4 b4;simpa only [List.setIfInBounds_toArray,List.set_cons_zero,List.set_cons_succ]using h5
theorem zw3(w:World):w.drew.heap=w.heap:=rfl
theorem zfm{w:World}{g:Nat}{a0 a1 a2 a3 a4:Value}{t:TypeId}(h:w.heap[g]?=some (.cells #[a0,a1,a2,a3,a4] t))(b0 b1 b2 b3 b4:Value) :
 (((((w.setCell ⟨g,0,none⟩ b0).setCell ⟨g,1,none⟩ b1).setCell ⟨g,2,none⟩ b2).setCell ⟨g,3,none⟩ b3).setCell ⟨g,4,none⟩ b4).drew.heap[g]?=some (.cells #[b0,b1,b2,b3,b4] t):=by
 rw[zw3];exact zag h b0 b1 b2 b3 b4
theorem zvo{w:World}{g:Nat}{a0 a1 a2 a3 a4:Value}{t:TypeId}(h:w.heap[g]?=some (.cells #[a0,a1,a2,a3,a4] t))(b0 b1:Value) :
 ((w.setCell ⟨g,0,none⟩ b0).setCell ⟨g,1,none⟩ b1).heap[g]?=some (.cells #[b0,b1,a2,a3,a4] t):=by
 have h5:=zc5 (zc5 h 0 b0) 1 b1;simpa only [List.setIfInBounds_toArray,List.set_cons_zero,List.set_cons_succ]using h5
theorem put0{w:World}{g:Nat}{a0 a1 a2 a3 a4:Value}{t:TypeId}(h:w.heap[g]?=some (.cells #[a0,a1,a2,a3,a4] t))(b0:Value) :
 (w.setCell ⟨g,0,none⟩ b0).heap[g]?=some (.cells #[b0,a1,a2,a3,a4] t):=by
 have h5:=zc5 h 0 b0;simpa only [List.setIfInBounds_toArray,List.set_cons_zero,List.set_cons_succ]using h5
theorem put2{w:World}{g:Nat}{a0 a1 a2 a3 a4:Value}{t:TypeId}(h:w.heap[g]?=some (.cells #[a0,a1,a2,a3,a4] t))(b2:Value) :
 (w.setCell ⟨g,2,none⟩ b2).heap[g]?=some (.cells #[a0,a1,b2,a3,a4] t):=by
 have h5:=zc5 h 2 b2;simpa only [List.setIfInBounds_toArray,List.set_cons_zero,List.set_cons_succ]using h5
theorem put3{w:World}{g:Nat}{a0 a1 a2 a3 a4:Value}{t:TypeId}(h:w.heap[g]?=some (.cells #[a0,a1,a2,a3,a4] t))(b3:Value) :
 (w.setCell ⟨g,3,none⟩ b3).heap[g]?=some (.cells #[a0,a1,a2,b3,a4] t):=by
 have h5:=zc5 h 3 b3;simpa only [List.setIfInBounds_toArray,List.set_cons_zero,List.set_cons_succ]using h5
theorem zad{B:Nat}{w0 w:World}{g:Nat}(h:Below B w0 w)(hg:B≤g)(b0 b1 b2 b3 b4:Value) :
 Below B w0 (((((w.setCell ⟨g,0,none⟩ b0).setCell ⟨g,1,none⟩ b1).setCell ⟨g,2,none⟩ b2).setCell ⟨g,3,none⟩ b3).setCell ⟨g,4,none⟩ b4) :=
 ((((h.setCell hg b0).setCell hg b1).setCell hg b2).setCell hg b3).setCell hg b4
theorem zal{w:World}{g:Nat}{a0 a1 a2 a3 a4:Value}{t:TypeId}(h:w.heap[g]?=some (.cells #[a0,a1,a2,a3,a4] t)):w.cell? ⟨g,0,none⟩=some a0∧w.cell? ⟨g,1,none⟩=some a1∧w.cell? ⟨g,2,none⟩=some a2∧w.cell? ⟨g,3,none⟩=some a3∧w.cell? ⟨g,4,none⟩=some a4∧∀i,w.frozen? ⟨g,i,none⟩=false :=
 ⟨zme h 0,zme h 1,zme h 2,zme h 3,zme h 4,zx8 h⟩
theorem zhf{fn:Func}{p u v:Tmp}{ty:TypeId}(h:fn.results=#[.cell p ty,.tmp u,.tmp v])(tmps:Array Value)(P:Program)(w:World) :
 (results fn tmps).run P w =
  ((asAddr (tmps.getD p undef)).run P w).andThen fun a w₁=>((loadVar ty a).run P w₁).andThen fun x w₂=>.ok (.tuple #[x,tmps.getD u undef,tmps.getD v undef]) w₂:=by
 simp only[results,h];simp[Sem.run_bind,Result.andThen]
theorem zaa{P:Program}{fn:Func}{p u v:Tmp}{ty:TypeId}(h:fn.results=#[.cell p ty,.tmp u,.tmp v])(tmps:Array Value)(w:World)(g:Nat)(t:TypeId)(cs:Array Value)(d:TypeDesc)
 (hp:tmps.getD p undef=.pointer (some ⟨g,0,none⟩)) (hg:w.heap[g]?=some (.cells cs t))
 (hu:P.underlying ty=some d) (hd:(match d with | .struct _ | .array _ _=>true |_=>false)=true) (hi:(P.info? ty).map (·.size)=some cs.size) :
 (results fn tmps).run P w=.ok (.tuple #[.agg cs,tmps.getD u undef,tmps.getD v undef]) w:=by
 rw[zhf h,hp];simp[asAddr,run_loadVar_row w g t ty cs (0,0) d hg hu hd hi]
theorem z4u:clsB [3,2,4]=wdQ:=by
 funext c
 obtain⟨_,_,h,_⟩:=zc0 c;unfold clsB;rw[Bool.eq_iff_iff,←h];simp;omega
theorem ztw(s:ByteArray)(i:Nat)(hs:s.size≤1000000)(hi:i≤s.size)(W:World) :
 Calls Tryz.prog 140 #[.string s,.int .i64 (i:Int),.slice (some ⟨W.heap.size,0,none⟩) 3 3] (W.alloc (.cells #[.int .i64 3,.int .i64 2,.int .i64 4] 3)) (RetI (W.alloc (.cells #[.int .i64 3,.int .i64 2,.int .i64 4] 3)) ((i+spn wdQ (s.data.toList.drop i):Nat):Int)):=by
 rw[←z4u];refine zha s i 3 3 _ [3,2,4] _ hs hi rfl (by omega) (fun j hj=>⟨W.heap.size,0,rfl,by simp,?_⟩);have:=World.alloc_heap_new W (.cells #[.int .i64 3,.int .i64 2,.int .i64 4] 3);have UX:j=0∨j=1∨j=2:=by simp at hj;omega
 show(match (W.alloc (.cells #[.int .i64 3,.int .i64 2,.int .i64 4] 3)).heap[W.heap.size]? with |some (.cells c _ _)=>c[0+j]? |_=>none)=_
 rw[this]
 rcases UX with rfl |rfl |rfl<;>rfl
theorem zuf(w:World)(a0 a1 a2 a3 a4:Value)(t:TypeId)(o:Obj):((w.alloc (.cells #[a0,a1,a2,a3,a4] t)).alloc o).heap[w.heap.size]?=some (.cells #[a0,a1,a2,a3,a4] t):=by
 rw[Below.heap_alloc _ _ _ (by simp)];exact World.alloc_heap_new w _
theorem zvu(s:ByteArray)(i:Nat)(R:OneR)(w:World)(en:Nat)(tx:ByteArray)(S6:i≤en)(hes:en≤s.size)(Zz:s.extract i en=tx)(hb:decide ((40:Int)<(tx.size:Int))=false)(hR:R=.yes ⟨1,tx,bsL [],0,0⟩ (en-i))
 (ZI:Hid (∀W,Calls Tryz.prog 141 #[.string s,.int .i64 (i:Int)] W (RetI W 3)))
 (Vi:Hid (∀W:World,Calls Tryz.prog 140 #[.string s,.int .i64 (i:Int),.slice (some ⟨W.heap.size,0,none⟩) 3 3] (W.alloc (.cells #[.int .i64 3,.int .i64 2,.int .i64 4] 3)) (RetI (W.alloc (.cells #[.int .i64 3,.int .i64 2,.int .i64 4] 3)) (en:Int)))) :
 Calls Tryz.prog 84 #[.string s,.int .i64 (i:Int)] w (zai w i R):=by
 have HR:=Z9 hR;have HTX:=Z9 Zz;have haf:=Vi.out (w.alloc (.cells #[.int .u8 0,.string ⟨#[]⟩,.string ⟨#[]⟩,.int .i64 0,.int .i64 (i:Int)] 100));rw[World.size_alloc]at haf;have V4:=Z9 haf;clear haf Zz hR;go_enter Tryz.func84,Tryz.ntmps84;go_wp2_with fail;refine(ZI.out _).mono ?_;rintro e w' ⟨rfl,rfl⟩;go_wp2_with fail;refine V4.out.mono ?_;rintro e w' ⟨rfl,rfl⟩;obtain⟨W2,Z4⟩:∃W2,W2=(w.alloc (.cells #[.int .u8 0,.string ⟨#[]⟩,.string ⟨#[]⟩,.int .i64 0,.int .i64 (i:Int)] 100)).alloc (.cells #[.int .i64 3,.int .i64 2,.int .i64 4] 3):=⟨_,rfl⟩
 have hg:W2.heap[w.heap.size]?=some (.cells #[.int .u8 0,.string ⟨#[]⟩,.string ⟨#[]⟩,.int .i64 0,.int .i64 (i:Int)] 100):=by rw[Z4];exact zuf ..
 have Z6:Below w.heap.size w W2:=by rw[Z4];exact((Below.refl _ w).alloc (Nat.le_refl _) _).alloc (by simp) _
 rw[←Z4];obtain⟨c0,c1,c2,c3,c4,fz⟩:=zal hg;have HG:=Z9 hg;have HBEL:=Z9 Z6;clear Z4 hg Z6;go_wp2_with fail;go_region;rw[HTX.out];go_wp2_with fail;refine bodyPost_ret (zaa rfl _ _ w.heap.size 100 _ _ rfl (zfm (zvo HG.out _ _) _ _ _ _ _) Tryz.underlying100 rfl rfl) rfl ?_
 show zai _ _ _ _ _
 rw[HR.out];exact zap (by omega) (zad ((HBEL.out.setCell (p:=⟨w.heap.size,0,none⟩) (Nat.le_refl _) _).setCell (p:=⟨w.heap.size,1,none⟩) (Nat.le_refl _) _) (Nat.le_refl _) _ _ _ _ _).drew
theorem zvt(s:ByteArray)(i:Nat)(R:OneR)(w:World)(en:Nat)(tx:ByteArray)(S6:i≤en)(hes:en≤s.size)(Zz:s.extract i en=tx)(hb:decide ((40:Int)<(tx.size:Int))=true)(hR:R=.no 12)
 (ZI:Hid (∀W,Calls Tryz.prog 141 #[.string s,.int .i64 (i:Int)] W (RetI W 3)))
 (Vi:Hid (∀W:World,Calls Tryz.prog 140 #[.string s,.int .i64 (i:Int),.slice (some ⟨W.heap.size,0,none⟩) 3 3] (W.alloc (.cells #[.int .i64 3,.int .i64 2,.int .i64 4] 3)) (RetI (W.alloc (.cells #[.int .i64 3,.int .i64 2,.int .i64 4] 3)) (en:Int)))) :
 Calls Tryz.prog 84 #[.string s,.int .i64 (i:Int)] w (zai w i R):=by
 have HR:=Z9 hR;have HTX:=Z9 Zz;have haf:=Vi.out (w.alloc (.cells #[.int .u8 0,.string ⟨#[]⟩,.string ⟨#[]⟩,.int .i64 0,.int .i64 (i:Int)] 100));rw[World.size_alloc]at haf;have V4:=Z9 haf;clear haf Zz hR;go_enter Tryz.func84,Tryz.ntmps84;go_wp2_with fail;refine(ZI.out _).mono ?_;rintro e w' ⟨rfl,rfl⟩;go_wp2_with fail;refine V4.out.mono ?_;rintro e w' ⟨rfl,rfl⟩;obtain⟨W2,Z4⟩:∃W2,W2=(w.alloc (.cells #[.int .u8 0,.string ⟨#[]⟩,.string ⟨#[]⟩,.int .i64 0,.int .i64 (i:Int)] 100)).alloc (.cells #[.int .i64 3,.int .i64 2,.int .i64 4] 3):=⟨_,rfl⟩
 have hg:W2.heap[w.heap.size]?=some (.cells #[.int .u8 0,.string ⟨#[]⟩,.string ⟨#[]⟩,.int .i64 0,.int .i64 (i:Int)] 100):=by rw[Z4];exact zuf ..
 have Z6:Below w.heap.size w W2:=by rw[Z4];exact((Below.refl _ w).alloc (Nat.le_refl _) _).alloc (by simp) _
 rw[←Z4];obtain⟨c0,c1,c2,c3,c4,fz⟩:=zal hg;have HG:=Z9 hg;have HBEL:=Z9 Z6;clear Z4 hg Z6;go_wp2_with fail;go_region;rw[HTX.out];go_wp2_with fail;refine bodyPost_ret (zaa rfl _ _ w.heap.size 100 _ _ rfl (zfm (zvo HG.out _ _) _ _ _ _ _) Tryz.underlying100 rfl rfl) rfl ?_
 show zai _ _ _ _ _
 rw[HR.out];exact za8 (zad ((HBEL.out.setCell (p:=⟨w.heap.size,0,none⟩) (Nat.le_refl _) _).setCell (p:=⟨w.heap.size,1,none⟩) (Nat.le_refl _) _) (Nat.le_refl _) _ _ _ _ _).drew
theorem zj4(s:ByteArray)(i:Nat)(R:OneR)(w:World)(_hs:s.size≤100000)(_hi:i<s.size)(hR:R=.no 12)(ZI:Hid (∀W,Calls Tryz.prog 141 #[.string s,.int .i64 (i:Int)] W (RetI W 6)))
 (Xp:Hid (∀W,Calls Tryz.prog 142 #[.string (s.extract (i+1) s.size),.int .u8 34] W fun e w'=>e=.returned (.int .i64 (-1))∧W=w')):Calls Tryz.prog 84 #[.string s,.int .i64 (i:Int)] w (zai w i R):=by
 have HR:=Z9 hR;clear hR;go_enter Tryz.func84,Tryz.ntmps84;go_wp2_with fail;refine(ZI.out _).mono ?_;rintro e w' ⟨rfl,rfl⟩;obtain⟨W2,Z4⟩:∃W2,W2=(w.alloc (.cells #[.int .u8 0,.string ⟨#[]⟩,.string ⟨#[]⟩,.int .i64 0,.int .i64 (i:Int)] 100)):=⟨_,rfl⟩
 have hg:W2.heap[w.heap.size]?=some (.cells #[.int .u8 0,.string ⟨#[]⟩,.string ⟨#[]⟩,.int .i64 0,.int .i64 (i:Int)] 100):=by rw[Z4];exact World.alloc_heap_new w _
 have Z6:Below w.heap.size w W2:=by rw[Z4];exact zaf w _
 rw[←Z4];obtain⟨c0,c1,c2,c3,c4,fz⟩:=zal hg;have HG:=Z9 hg;have HBEL:=Z9 Z6;clear Z4 hg Z6;go_wp2_with fail;refine(Xp.out _).mono ?_;rintro e w' ⟨rfl,rfl⟩;go_wp2_with fail;refine bodyPost_ret (zaa rfl _ _ w.heap.size 100 _ _ rfl (zag (HG.out) _ _ _ _ _) Tryz.underlying100 rfl rfl) rfl ?_
 show zai _ _ _ _ _
 rw[HR.out];exact za8 (zad (HBEL.out) (Nat.le_refl _) _ _ _ _ _)
theorem zlh(s:ByteArray)(i:Nat)(R:OneR)(w:World)(_hs:s.size≤100000)(_hi:i<s.size)(k:Nat)(tx:ByteArray)(hk:i+1+k≤s.size)(Zz:s.extract (i+1) (i+1+k)=tx)(hR:R=.no 12)(ZI:Hid (∀W,Calls Tryz.prog 141 #[.string s,.int .i64 (i:Int)] W (RetI W 6)))
 (Xp:Hid (∀W,Calls Tryz.prog 142 #[.string (s.extract (i+1) s.size),.int .u8 34] W fun e w'=>e=.returned (.int .i64 (k:Int))∧W=w')) (Zx:Hid (∀W,Calls Tryz.prog 51 #[.string tx] W (RetB W false))):Calls Tryz.prog 84 #[.string s,.int .i64 (i:Int)] w (zai w i R):=by
 have HR:=Z9 hR;have HTX:=Z9 Zz;clear hR Zz;go_enter Tryz.func84,Tryz.ntmps84;go_wp2_with fail;refine(ZI.out _).mono ?_;rintro e w' ⟨rfl,rfl⟩;obtain⟨W2,Z4⟩:∃W2,W2=(w.alloc (.cells #[.int .u8 0,.string ⟨#[]⟩,.string ⟨#[]⟩,.int .i64 0,.int .i64 (i:Int)] 100)):=⟨_,rfl⟩
 have hg:W2.heap[w.heap.size]?=some (.cells #[.int .u8 0,.string ⟨#[]⟩,.string ⟨#[]⟩,.int .i64 0,.int .i64 (i:Int)] 100):=by rw[Z4];exact World.alloc_heap_new w _
 have Z6:Below w.heap.size w W2:=by rw[Z4];exact zaf w _
 rw[←Z4];obtain⟨c0,c1,c2,c3,c4,fz⟩:=zal hg;have HG:=Z9 hg;have HBEL:=Z9 Z6;clear Z4 hg Z6;go_wp2_with fail;refine(Xp.out _).mono ?_;rintro e w' ⟨rfl,rfl⟩;go_wp2_with fail;rw[HTX.out];refine(Zx.out _).mono ?_;rintro e w' ⟨rfl,rfl⟩;go_wp2_with fail;refine bodyPost_ret (zaa rfl _ _ w.heap.size 100 _ _ rfl (zag (HG.out) _ _ _ _ _) Tryz.underlying100 rfl rfl) rfl ?_
 show zai _ _ _ _ _
 rw[HR.out];exact za8 (zad (HBEL.out) (Nat.le_refl _) _ _ _ _ _)
theorem zvv(s:ByteArray)(i:Nat)(R:OneR)(w:World)(_hs:s.size≤100000)(_hi:i<s.size)(k:Nat)(tx:ByteArray)(hk:i+1+k<s.size)(Zz:s.extract (i+1) (i+1+k)=tx)(hR:R=.yes ⟨2,tx,bsL [],0,0⟩ (k+2))(ZI:Hid (∀W,Calls Tryz.prog 141 #[.string s,.int .i64 (i:Int)] W (RetI W 6)))
 (Xp:Hid (∀W,Calls Tryz.prog 142 #[.string (s.extract (i+1) s.size),.int .u8 34] W fun e w'=>e=.returned (.int .i64 (k:Int))∧W=w')) (Zx:Hid (∀W,Calls Tryz.prog 51 #[.string tx] W (RetB W true))):Calls Tryz.prog 84 #[.string s,.int .i64 (i:Int)] w (zai w i R):=by
 have HR:=Z9 hR;have HTX:=Z9 Zz
 have HTX2:Hid (s.extract (i+1) (i+k+1)=tx):=by rw[show i+k+1=i+1+k by omega];exact Zz
 clear hR Zz;go_enter Tryz.func84,Tryz.ntmps84;go_wp2_with fail;refine(ZI.out _).mono ?_;rintro e w' ⟨rfl,rfl⟩;obtain⟨W2,Z4⟩:∃W2,W2=(w.alloc (.cells #[.int .u8 0,.string ⟨#[]⟩,.string ⟨#[]⟩,.int .i64 0,.int .i64 (i:Int)] 100)):=⟨_,rfl⟩
 have hg:W2.heap[w.heap.size]?=some (.cells #[.int .u8 0,.string ⟨#[]⟩,.string ⟨#[]⟩,.int .i64 0,.int .i64 (i:Int)] 100):=by rw[Z4];exact World.alloc_heap_new w _
 have Z6:Below w.heap.size w W2:=by rw[Z4];exact zaf w _
 rw[←Z4];obtain⟨c0,c1,c2,c3,c4,fz⟩:=zal hg;have HG:=Z9 hg;have HBEL:=Z9 Z6;clear Z4 hg Z6;go_wp2_with fail;refine(Xp.out _).mono ?_;rintro e w' ⟨rfl,rfl⟩;go_wp2_with fail;rw[HTX.out];refine(Zx.out _).mono ?_;rintro e w' ⟨rfl,rfl⟩;go_wp2_with fail;go_region;rw[HTX2.out];go_wp2_with fail;refine bodyPost_ret (zaa rfl _ _ w.heap.size 100 _ _ rfl (zfm (zvo HG.out _ _) _ _ _ _ _) Tryz.underlying100 rfl rfl) rfl ?_
 show zai _ _ _ _ _
 rw[HR.out];exact zap (by omega) (zad ((HBEL.out.setCell (p:=⟨w.heap.size,0,none⟩) (Nat.le_refl _) _).setCell (p:=⟨w.heap.size,1,none⟩) (Nat.le_refl _) _) (Nat.le_refl _) _ _ _ _ _).drew
theorem zpb(s:ByteArray)(i:Nat)(R:OneR)(w:World)(_hs:s.size≤100000)(_hi:i<s.size)(hR:R=.no 12)(hl:i+10≤s.size)(ZI:Hid (∀W,Calls Tryz.prog 141 #[.string s,.int .i64 (i:Int)] W (RetI W 2)))(Y3:Hid (∀W,Calls Tryz.prog 143 #[.string (s.extract i s.size)] W (zgo W true)))(YR:Hid (∀W,Calls Tryz.prog 144 #[.string s,.int .i64 ((i:Int)+10)] W (RetB W false))):Calls Tryz.prog 84 #[.string s,.int .i64 (i:Int)] w (zai w i R):=by
 have HR:=Z9 hR;clear hR;have X9:(w.alloc (.cells #[.int .u8 0,.string ⟨#[]⟩,.string ⟨#[]⟩,.int .i64 0,.int .i64 (i:Int)] 100)).heap[w.heap.size]?=some (.cells #[.int .u8 0,.string ⟨#[]⟩,.string ⟨#[]⟩,.int .i64 0,.int .i64 (i:Int)] 100):=World.alloc_heap_new w _;have YJ:Below w.heap.size w (w.alloc (.cells #[.int .u8 0,.string ⟨#[]⟩,.string ⟨#[]⟩,.int .i64 0,.int .i64 (i:Int)] 100)):=zaf w _;have HG0:=Z9 X9;have HB0:=Z9 YJ;clear X9 YJ;go_enter Tryz.func84,Tryz.ntmps84;go_wp2_with fail;refine(ZI.out _).mono ?_;rintro e w' ⟨rfl,rfl⟩;go_wp2_with fail;refine(Y3.out _).mono ?_;rintro e w1 ⟨rfl,b1⟩;have hg:w1.heap[w.heap.size]?=some (.cells #[.int .u8 0,.string ⟨#[]⟩,.string ⟨#[]⟩,.int .i64 0,.int .i64 (i:Int)] 100):=by rw[b1.block _ (by simp)];exact HG0.out
 have Z6:Below w.heap.size w w1:=HB0.out.trans (b1.mono HB0.out.size);obtain⟨c0,c1,c2,c3,c4,fz⟩:=zal hg;have ZO:w.heap.size<w1.heap.size:=by have:=b1.size;simp at this;omega
 have HG:=Z9 hg;have HBEL:=Z9 Z6;clear hg Z6 b1;go_wp2_with fail;refine(YR.out _).mono ?_;rintro e w' ⟨rfl,rfl⟩;go_wp2_with fail;refine bodyPost_ret (zaa rfl _ _ w.heap.size 100 _ _ rfl (zag (HG.out) _ _ _ _ _) Tryz.underlying100 rfl rfl) rfl ?_
 show zai _ _ _ _ _
 rw[HR.out];exact za8 (zad (HBEL.out) (Nat.le_refl _) _ _ _ _ _)
theorem zsu(s:ByteArray)(i:Nat)(R:OneR)(w:World)(_hs:s.size≤100000)(_hi:i<s.size)(D:Int)(tx:ByteArray)(Zz:s.extract i (i+10)=tx)(hR:R=.yes ⟨4,bsL [],bsL [],D,0⟩ 10)(hl:i+10≤s.size)(ZI:Hid (∀W,Calls Tryz.prog 141 #[.string s,.int .i64 (i:Int)] W (RetI W 2)))(Y3:Hid (∀W,Calls Tryz.prog 143 #[.string (s.extract i s.size)] W (zgo W true)))(YR:Hid (∀W,Calls Tryz.prog 144 #[.string s,.int .i64 ((i:Int)+10)] W (RetB W true)))(HP:Hid (∀W,Calls Tryz.prog 145 #[.string tx] W fun e w'=>e=.returned (.tuple #[.int .i64 D,.int .i64 0])∧Below W.heap.size W w')):Calls Tryz.prog 84 #[.string s,.int .i64 (i:Int)] w (zai w i R):=by
 have HR:=Z9 hR;have HTX:=Z9 Zz;clear hR Zz;have X9:(w.alloc (.cells #[.int .u8 0,.string ⟨#[]⟩,.string ⟨#[]⟩,.int .i64 0,.int .i64 (i:Int)] 100)).heap[w.heap.size]?=some (.cells #[.int .u8 0,.string ⟨#[]⟩,.string ⟨#[]⟩,.int .i64 0,.int .i64 (i:Int)] 100):=World.alloc_heap_new w _;have YJ:Below w.heap.size w (w.alloc (.cells #[.int .u8 0,.string ⟨#[]⟩,.string ⟨#[]⟩,.int .i64 0,.int .i64 (i:Int)] 100)):=zaf w _;have HG0:=Z9 X9;have HB0:=Z9 YJ;clear X9 YJ;go_enter Tryz.func84,Tryz.ntmps84;go_wp2_with fail;refine(ZI.out _).mono ?_;rintro e w' ⟨rfl,rfl⟩;go_wp2_with fail;refine(Y3.out _).mono ?_;rintro e w1 ⟨rfl,b1⟩
 have hg:w1.heap[w.heap.size]?=some (.cells #[.int .u8 0,.string ⟨#[]⟩,.string ⟨#[]⟩,.int .i64 0,.int .i64 (i:Int)] 100):=by rw[b1.block _ (by simp)];exact HG0.out
 have Z6:Below w.heap.size w w1:=HB0.out.trans (b1.mono HB0.out.size);obtain⟨c0,c1,c2,c3,c4,fz⟩:=zal hg;have ZO:w.heap.size<w1.heap.size:=by have:=b1.size;simp at this;omega
 have HG:=Z9 hg;have HBEL:=Z9 Z6;clear hg Z6 b1;go_wp2_with fail;refine(YR.out _).mono ?_;rintro e w' ⟨rfl,rfl⟩;go_wp2_with fail;rw[HTX.out];refine(HP.out _).mono ?_;rintro e w3 ⟨rfl,b3⟩
 have ZY:w3.heap[w.heap.size]?=some (.cells #[.int .u8 4,.string ⟨#[]⟩,.string ⟨#[]⟩,.int .i64 0,.int .i64 (i:Int)] 100):=by
  rw[b3.block _ (by show _<(w1.setCell _ _).heap.size;simp;exact ZO)];exact put0 HG.out _
 have Z0:Below w.heap.size w w3:=(HBEL.out.setCell (p:=⟨w.heap.size,0,none⟩) (Nat.le_refl _) _).trans (b3.mono (by simp;omega));obtain⟨d0,d1,d2,d3,d4,fz3⟩:=zal ZY;have HG3:=Z9 ZY;have HB3:=Z9 Z0;clear ZY Z0 b3 c0 c1 c2 c3 c4 fz;go_wp2_with fail;refine bodyPost_ret (zaa rfl _ _ w.heap.size 100 _ _ rfl (zag (put3 HG3.out _) _ _ _ _ _) Tryz.underlying100 rfl rfl) rfl ?_
 show zai _ _ _ _ _
 rw[HR.out];exact zap (by omega) (zad (HB3.out.setCell (p:=⟨w.heap.size,3,none⟩) (Nat.le_refl _) _) (Nat.le_refl _) _ _ _ _ _)
theorem zpc(s:ByteArray)(i:Nat)(R:OneR)(w:World)(_hs:s.size≤100000)(_hi:i<s.size)(tx:ByteArray)(Zz:s.extract i (i+10)=tx)(hR:R=.no 40)(hl:i+10≤s.size)(ZI:Hid (∀W,Calls Tryz.prog 141 #[.string s,.int .i64 (i:Int)] W (RetI W 2)))(Y3:Hid (∀W,Calls Tryz.prog 143 #[.string (s.extract i s.size)] W (zgo W true)))(YR:Hid (∀W,Calls Tryz.prog 144 #[.string s,.int .i64 ((i:Int)+10)] W (RetB W true)))(HP:Hid (∀W,Calls Tryz.prog 145 #[.string tx] W (zc4 W))):Calls Tryz.prog 84 #[.string s,.int .i64 (i:Int)] w (zai w i R):=by
 have HR:=Z9 hR;have HTX:=Z9 Zz;clear hR Zz;have X9:(w.alloc (.cells #[.int .u8 0,.string ⟨#[]⟩,.string ⟨#[]⟩,.int .i64 0,.int .i64 (i:Int)] 100)).heap[w.heap.size]?=some (.cells #[.int .u8 0,.string ⟨#[]⟩,.string ⟨#[]⟩,.int .i64 0,.int .i64 (i:Int)] 100):=World.alloc_heap_new w _;have YJ:Below w.heap.size w (w.alloc (.cells #[.int .u8 0,.string ⟨#[]⟩,.string ⟨#[]⟩,.int .i64 0,.int .i64 (i:Int)] 100)):=zaf w _;have HG0:=Z9 X9;have HB0:=Z9 YJ;clear X9 YJ;go_enter Tryz.func84,Tryz.ntmps84;go_wp2_with fail;refine(ZI.out _).mono ?_;rintro e w' ⟨rfl,rfl⟩;go_wp2_with fail;refine(Y3.out _).mono ?_;rintro e w1 ⟨rfl,b1⟩
 have hg:w1.heap[w.heap.size]?=some (.cells #[.int .u8 0,.string ⟨#[]⟩,.string ⟨#[]⟩,.int .i64 0,.int .i64 (i:Int)] 100):=by rw[b1.block _ (by simp)];exact HG0.out
 have Z6:Below w.heap.size w w1:=HB0.out.trans (b1.mono HB0.out.size);obtain⟨c0,c1,c2,c3,c4,fz⟩:=zal hg;have ZO:w.heap.size<w1.heap.size:=by have:=b1.size;simp at this;omega
 have HG:=Z9 hg;have HBEL:=Z9 Z6;clear hg Z6 b1;go_wp2_with fail;refine(YR.out _).mono ?_;rintro e w' ⟨rfl,rfl⟩;go_wp2_with fail;rw[HTX.out];refine(HP.out _).mono ?_;rintro e w3 ⟨q,hq,rfl,b3⟩
 have ZY:w3.heap[w.heap.size]?=some (.cells #[.int .u8 4,.string ⟨#[]⟩,.string ⟨#[]⟩,.int .i64 0,.int .i64 (i:Int)] 100):=by
  rw[b3.block _ (by show _<(w1.setCell _ _).heap.size;simp;exact ZO)];exact put0 HG.out _
 have Z0:Below w.heap.size w w3:=(HBEL.out.setCell (p:=⟨w.heap.size,0,none⟩) (Nat.le_refl _) _).trans (b3.mono (by simp;omega));obtain⟨d0,d1,d2,d3,d4,fz3⟩:=zal ZY;have HG3:=Z9 ZY;have HB3:=Z9 Z0;clear ZY Z0 b3 c0 c1 c2 c3 c4 fz;have tq:(q != 0)=true:=by simp;omega
 have HQ:=Z9 hq;clear hq;go_wp2_with fail;refine bodyPost_ret (zaa rfl _ _ w.heap.size 100 _ _ rfl (zag (put3 HG3.out _) _ _ _ _ _) Tryz.underlying100 rfl rfl) rfl ?_
 show zai _ _ _ _ _
 rw[HR.out];exact za8 (zad (HB3.out.setCell (p:=⟨w.heap.size,3,none⟩) (Nat.le_refl _) _) (Nat.le_refl _) _ _ _ _ _)
theorem zm5(s:ByteArray)(i:Nat)(R:OneR)(w:World)(_hs:s.size≤100000)(_hi:i<s.size)(rt:ByteArray)(n:Nat)(hR:R=.yes ⟨3,bsL [],rt,0,0⟩ n)(ZI:Hid (∀W,Calls Tryz.prog 141 #[.string s,.int .i64 (i:Int)] W (RetI W 2)))(Y3:Hid (∀W,Calls Tryz.prog 143 #[.string (s.extract i s.size)] W (zgo W false)))(HN:Hid (∀W,Calls Tryz.prog 146 #[.string s,.int .i64 (i:Int)] W (zcp W i (.yes ⟨3,bsL [],rt,0,0⟩ n)))):Calls Tryz.prog 84 #[.string s,.int .i64 (i:Int)] w (zai w i R):=by
 have HR:=Z9 hR;clear hR;have X9:(w.alloc (.cells #[.int .u8 0,.string ⟨#[]⟩,.string ⟨#[]⟩,.int .i64 0,.int .i64 (i:Int)] 100)).heap[w.heap.size]?=some (.cells #[.int .u8 0,.string ⟨#[]⟩,.string ⟨#[]⟩,.int .i64 0,.int .i64 (i:Int)] 100):=World.alloc_heap_new w _;have YJ:Below w.heap.size w (w.alloc (.cells #[.int .u8 0,.string ⟨#[]⟩,.string ⟨#[]⟩,.int .i64 0,.int .i64 (i:Int)] 100)):=zaf w _;have HG0:=Z9 X9;have HB0:=Z9 YJ;clear X9 YJ;go_enter Tryz.func84,Tryz.ntmps84;go_wp2_with fail;refine(ZI.out _).mono ?_;rintro e w' ⟨rfl,rfl⟩;go_wp2_with fail;refine(Y3.out _).mono ?_;rintro e w1 ⟨rfl,b1⟩;have hg:w1.heap[w.heap.size]?=some (.cells #[.int .u8 0,.string ⟨#[]⟩,.string ⟨#[]⟩,.int .i64 0,.int .i64 (i:Int)] 100):=by rw[b1.block _ (by simp)];exact HG0.out
 have Z6:Below w.heap.size w w1:=HB0.out.trans (b1.mono HB0.out.size);obtain⟨c0,c1,c2,c3,c4,fz⟩:=zal hg;have ZO:w.heap.size<w1.heap.size:=by have:=b1.size;simp at this;omega
 have HG:=Z9 hg;have HBEL:=Z9 Z6;clear hg Z6 b1;go_wp2_with fail;refine(HN.out _).mono ?_;rintro e w3 ⟨rfl,b3⟩
 have ZY:w3.heap[w.heap.size]?=some (.cells #[.int .u8 3,.string ⟨#[]⟩,.string ⟨#[]⟩,.int .i64 0,.int .i64 (i:Int)] 100):=by
  rw[b3.block _ (by show _<(w1.setCell _ _).heap.size;simp;exact ZO)];exact put0 HG.out _
 have Z0:Below w.heap.size w w3:=(HBEL.out.setCell (p:=⟨w.heap.size,0,none⟩) (Nat.le_refl _) _).trans (b3.mono (by simp;omega));obtain⟨d0,d1,d2,d3,d4,fz3⟩:=zal ZY;have HG3:=Z9 ZY;have HB3:=Z9 Z0;clear ZY Z0 b3 c0 c1 c2 c3 c4 fz;go_wp2_with fail;refine bodyPost_ret (zaa rfl _ _ w.heap.size 100 _ _ rfl (zag (put2 HG3.out _) _ _ _ _ _) Tryz.underlying100 rfl rfl) rfl ?_
 show zai _ _ _ _ _
 rw[HR.out];exact zap rfl (zad (HB3.out.setCell (p:=⟨w.heap.size,2,none⟩) (Nat.le_refl _) _) (Nat.le_refl _) _ _ _ _ _)
theorem zm6(s:ByteArray)(i:Nat)(R:OneR)(w:World)(_hs:s.size≤100000)(_hi:i<s.size)(er:Int)(hR:R=.no er)(ZI:Hid (∀W,Calls Tryz.prog 141 #[.string s,.int .i64 (i:Int)] W (RetI W 2)))(Y3:Hid (∀W,Calls Tryz.prog 143 #[.string (s.extract i s.size)] W (zgo W false)))(HN:Hid (∀W,Calls Tryz.prog 146 #[.string s,.int .i64 (i:Int)] W (zcp W i (.no er)))):Calls Tryz.prog 84 #[.string s,.int .i64 (i:Int)] w (zai w i R):=by
 have HR:=Z9 hR;clear hR;have X9:(w.alloc (.cells #[.int .u8 0,.string ⟨#[]⟩,.string ⟨#[]⟩,.int .i64 0,.int .i64 (i:Int)] 100)).heap[w.heap.size]?=some (.cells #[.int .u8 0,.string ⟨#[]⟩,.string ⟨#[]⟩,.int .i64 0,.int .i64 (i:Int)] 100):=World.alloc_heap_new w _;have YJ:Below w.heap.size w (w.alloc (.cells #[.int .u8 0,.string ⟨#[]⟩,.string ⟨#[]⟩,.int .i64 0,.int .i64 (i:Int)] 100)):=zaf w _;have HG0:=Z9 X9;have HB0:=Z9 YJ;clear X9 YJ;go_enter Tryz.func84,Tryz.ntmps84;go_wp2_with fail;refine(ZI.out _).mono ?_;rintro e w' ⟨rfl,rfl⟩;go_wp2_with fail;refine(Y3.out _).mono ?_;rintro e w1 ⟨rfl,b1⟩;have hg:w1.heap[w.heap.size]?=some (.cells #[.int .u8 0,.string ⟨#[]⟩,.string ⟨#[]⟩,.int .i64 0,.int .i64 (i:Int)] 100):=by rw[b1.block _ (by simp)];exact HG0.out
 have Z6:Below w.heap.size w w1:=HB0.out.trans (b1.mono HB0.out.size);obtain⟨c0,c1,c2,c3,c4,fz⟩:=zal hg;have ZO:w.heap.size<w1.heap.size:=by have:=b1.size;simp at this;omega
 have HG:=Z9 hg;have HBEL:=Z9 Z6;clear hg Z6 b1;go_wp2_with fail;refine(HN.out _).mono ?_;rintro e w3 ⟨⟨rt,en,rfl⟩,b3⟩
 have ZY:w3.heap[w.heap.size]?=some (.cells #[.int .u8 3,.string ⟨#[]⟩,.string ⟨#[]⟩,.int .i64 0,.int .i64 (i:Int)] 100):=by
  rw[b3.block _ (by show _<(w1.setCell _ _).heap.size;simp;exact ZO)];exact put0 HG.out _
 have Z0:Below w.heap.size w w3:=(HBEL.out.setCell (p:=⟨w.heap.size,0,none⟩) (Nat.le_refl _) _).trans (b3.mono (by simp;omega));obtain⟨d0,d1,d2,d3,d4,fz3⟩:=zal ZY;have HG3:=Z9 ZY;have HB3:=Z9 Z0;clear ZY Z0 b3 c0 c1 c2 c3 c4 fz;go_wp2_with fail;refine bodyPost_ret (zaa rfl _ _ w.heap.size 100 _ _ rfl (zag (put2 HG3.out _) _ _ _ _ _) Tryz.underlying100 rfl rfl) rfl ?_
 show zai _ _ _ _ _
 rw[HR.out];exact za8 (zad (HB3.out.setCell (p:=⟨w.heap.size,2,none⟩) (Nat.le_refl _) _) (Nat.le_refl _) _ _ _ _ _)
theorem zm3(s:ByteArray)(i:Nat)(R:OneR)(w:World)(_hs:s.size≤100000)(_hi:i<s.size)(rt:ByteArray)(n:Nat)(hR:R=.yes ⟨3,bsL [],rt,0,0⟩ n)(t45:((s[i].toNat:Int) == 45)=true)(ZI:Hid (∀W,Calls Tryz.prog 141 #[.string s,.int .i64 (i:Int)] W (RetI W 4)))(XR:Hid (∀W,Calls Tryz.prog 141 #[.string s,.int .i64 ((i:Int)+1)] W (RetI W 2)))(HN:Hid (∀W,Calls Tryz.prog 146 #[.string s,.int .i64 (i:Int)] W (zcp W i (.yes ⟨3,bsL [],rt,0,0⟩ n)))):Calls Tryz.prog 84 #[.string s,.int .i64 (i:Int)] w (zai w i R):=by
 have HR:=Z9 hR;clear hR;have X9:(w.alloc (.cells #[.int .u8 0,.string ⟨#[]⟩,.string ⟨#[]⟩,.int .i64 0,.int .i64 (i:Int)] 100)).heap[w.heap.size]?=some (.cells #[.int .u8 0,.string ⟨#[]⟩,.string ⟨#[]⟩,.int .i64 0,.int .i64 (i:Int)] 100):=World.alloc_heap_new w _;have YJ:Below w.heap.size w (w.alloc (.cells #[.int .u8 0,.string ⟨#[]⟩,.string ⟨#[]⟩,.int .i64 0,.int .i64 (i:Int)] 100)):=zaf w _;have HG0:=Z9 X9;have HB0:=Z9 YJ;clear X9 YJ;go_enter Tryz.func84,Tryz.ntmps84;go_wp2_with fail;refine(ZI.out _).mono ?_;rintro e w' ⟨rfl,rfl⟩;obtain⟨W2,Z4⟩:∃W2,W2=(w.alloc (.cells #[.int .u8 0,.string ⟨#[]⟩,.string ⟨#[]⟩,.int .i64 0,.int .i64 (i:Int)] 100)):=⟨_,rfl⟩
 have hg:W2.heap[w.heap.size]?=some (.cells #[.int .u8 0,.string ⟨#[]⟩,.string ⟨#[]⟩,.int .i64 0,.int .i64 (i:Int)] 100):=by rw[Z4];exact World.alloc_heap_new w _
 have Z6:Below w.heap.size w W2:=by rw[Z4];exact zaf w _
 rw[←Z4];obtain⟨c0,c1,c2,c3,c4,fz⟩:=zal hg;have HG:=Z9 hg;have HBEL:=Z9 Z6;have ZO:w.heap.size<W2.heap.size:=(Z8 hg);clear Z4 hg Z6;go_wp2_with fail;refine(XR.out _).mono ?_;rintro e w' ⟨rfl,rfl⟩;go_wp2_with fail;refine(HN.out _).mono ?_;rintro e w3 ⟨rfl,b3⟩
 have ZY:w3.heap[w.heap.size]?=some (.cells #[.int .u8 3,.string ⟨#[]⟩,.string ⟨#[]⟩,.int .i64 0,.int .i64 (i:Int)] 100):=by
  rw[b3.block _ (by show _<(W2.setCell _ _).heap.size;simp;exact ZO)];exact put0 HG.out _
 have Z0:Below w.heap.size w w3:=(HBEL.out.setCell (p:=⟨w.heap.size,0,none⟩) (Nat.le_refl _) _).trans (b3.mono (by simp;omega));obtain⟨d0,d1,d2,d3,d4,fz3⟩:=zal ZY;have HG3:=Z9 ZY;have HB3:=Z9 Z0;clear ZY Z0 b3 c0 c1 c2 c3 c4 fz;go_wp2_with fail;refine bodyPost_ret (zaa rfl _ _ w.heap.size 100 _ _ rfl (zag (put2 HG3.out _) _ _ _ _ _) Tryz.underlying100 rfl rfl) rfl ?_
 show zai _ _ _ _ _
 rw[HR.out];exact zap rfl (zad (HB3.out.setCell (p:=⟨w.heap.size,2,none⟩) (Nat.le_refl _) _) (Nat.le_refl _) _ _ _ _ _)
theorem zm4(s:ByteArray)(i:Nat)(R:OneR)(w:World)(_hs:s.size≤100000)(_hi:i<s.size)(er:Int)(hR:R=.no er)(t45:((s[i].toNat:Int) == 45)=true)(ZI:Hid (∀W,Calls Tryz.prog 141 #[.string s,.int .i64 (i:Int)] W (RetI W 4)))(XR:Hid (∀W,Calls Tryz.prog 141 #[.string s,.int .i64 ((i:Int)+1)] W (RetI W 2)))(HN:Hid (∀W,Calls Tryz.prog 146 #[.string s,.int .i64 (i:Int)] W (zcp W i (.no er)))):Calls Tryz.prog 84 #[.string s,.int .i64 (i:Int)] w (zai w i R):=by
 have HR:=Z9 hR;clear hR;have X9:(w.alloc (.cells #[.int .u8 0,.string ⟨#[]⟩,.string ⟨#[]⟩,.int .i64 0,.int .i64 (i:Int)] 100)).heap[w.heap.size]?=some (.cells #[.int .u8 0,.string ⟨#[]⟩,.string ⟨#[]⟩,.int .i64 0,.int .i64 (i:Int)] 100):=World.alloc_heap_new w _;have YJ:Below w.heap.size w (w.alloc (.cells #[.int .u8 0,.string ⟨#[]⟩,.string ⟨#[]⟩,.int .i64 0,.int .i64 (i:Int)] 100)):=zaf w _;have HG0:=Z9 X9;have HB0:=Z9 YJ;clear X9 YJ;go_enter Tryz.func84,Tryz.ntmps84;go_wp2_with fail;refine(ZI.out _).mono ?_;rintro e w' ⟨rfl,rfl⟩;obtain⟨W2,Z4⟩:∃W2,W2=(w.alloc (.cells #[.int .u8 0,.string ⟨#[]⟩,.string ⟨#[]⟩,.int .i64 0,.int .i64 (i:Int)] 100)):=⟨_,rfl⟩
 have hg:W2.heap[w.heap.size]?=some (.cells #[.int .u8 0,.string ⟨#[]⟩,.string ⟨#[]⟩,.int .i64 0,.int .i64 (i:Int)] 100):=by rw[Z4];exact World.alloc_heap_new w _
 have Z6:Below w.heap.size w W2:=by rw[Z4];exact zaf w _
 rw[←Z4];obtain⟨c0,c1,c2,c3,c4,fz⟩:=zal hg;have HG:=Z9 hg;have HBEL:=Z9 Z6;have ZO:w.heap.size<W2.heap.size:=(Z8 hg);clear Z4 hg Z6;go_wp2_with fail;refine(XR.out _).mono ?_;rintro e w' ⟨rfl,rfl⟩;go_wp2_with fail;refine(HN.out _).mono ?_;rintro e w3 ⟨⟨rt,en,rfl⟩,b3⟩
 have ZY:w3.heap[w.heap.size]?=some (.cells #[.int .u8 3,.string ⟨#[]⟩,.string ⟨#[]⟩,.int .i64 0,.int .i64 (i:Int)] 100):=by
  rw[b3.block _ (by show _<(W2.setCell _ _).heap.size;simp;exact ZO)];exact put0 HG.out _
 have Z0:Below w.heap.size w w3:=(HBEL.out.setCell (p:=⟨w.heap.size,0,none⟩) (Nat.le_refl _) _).trans (b3.mono (by simp;omega));obtain⟨d0,d1,d2,d3,d4,fz3⟩:=zal ZY;have HG3:=Z9 ZY;have HB3:=Z9 Z0;clear ZY Z0 b3 c0 c1 c2 c3 c4 fz;go_wp2_with fail;refine bodyPost_ret (zaa rfl _ _ w.heap.size 100 _ _ rfl (zag (put2 HG3.out _) _ _ _ _ _) Tryz.underlying100 rfl rfl) rfl ?_
 show zai _ _ _ _ _
 rw[HR.out];exact za8 (zad (HB3.out.setCell (p:=⟨w.heap.size,2,none⟩) (Nat.le_refl _) _) (Nat.le_refl _) _ _ _ _ _)
theorem zzb(s:ByteArray)(i:Nat)(R:OneR)(w:World)(_hs:s.size≤100000)(_hi:i<s.size)(tx:ByteArray)(Zz:s.extract i (i+1)=tx)(hR:R=.yes ⟨5,tx,bsL [],0,0⟩ 1)(t45:((s[i].toNat:Int) == 45)=false)(ZI:Hid (∀W,Calls Tryz.prog 141 #[.string s,.int .i64 (i:Int)] W (RetI W 5))):Calls Tryz.prog 84 #[.string s,.int .i64 (i:Int)] w (zai w i R):=by
 have HR:=Z9 hR;have HTX:=Z9 Zz;clear hR Zz;go_enter Tryz.func84,Tryz.ntmps84;go_wp2_with fail;refine(ZI.out _).mono ?_;rintro e w' ⟨rfl,rfl⟩;obtain⟨W2,Z4⟩:∃W2,W2=(w.alloc (.cells #[.int .u8 0,.string ⟨#[]⟩,.string ⟨#[]⟩,.int .i64 0,.int .i64 (i:Int)] 100)):=⟨_,rfl⟩
 have hg:W2.heap[w.heap.size]?=some (.cells #[.int .u8 0,.string ⟨#[]⟩,.string ⟨#[]⟩,.int .i64 0,.int .i64 (i:Int)] 100):=by rw[Z4];exact World.alloc_heap_new w _
 have Z6:Below w.heap.size w W2:=by rw[Z4];exact zaf w _
 rw[←Z4];obtain⟨c0,c1,c2,c3,c4,fz⟩:=zal hg;have HG:=Z9 hg;have HBEL:=Z9 Z6;clear Z4 hg Z6;go_wp2_with fail;go_region;rw[HTX.out];go_wp2_with fail;refine bodyPost_ret (zaa rfl _ _ w.heap.size 100 _ _ rfl (zfm (zvo HG.out _ _) _ _ _ _ _) Tryz.underlying100 rfl rfl) rfl ?_
 show zai _ _ _ _ _
 rw[HR.out];exact zap (by omega) (zad ((HBEL.out.setCell (p:=⟨w.heap.size,0,none⟩) (Nat.le_refl _) _).setCell (p:=⟨w.heap.size,1,none⟩) (Nat.le_refl _) _) (Nat.le_refl _) _ _ _ _ _).drew
theorem zvw(s:ByteArray)(i:Nat)(R:OneR)(w:World)(_hs:s.size≤100000)(_hi:i<s.size)(tx:ByteArray)(Zz:s.extract i (i+1)=tx)(hR:R=.yes ⟨5,tx,bsL [],0,0⟩ 1)(a2:Int)(ta:(a2 == 2)=false)(t45:((s[i].toNat:Int) == 45)=true)(ZI:Hid (∀W,Calls Tryz.prog 141 #[.string s,.int .i64 (i:Int)] W (RetI W 4)))(XR:Hid (∀W,Calls Tryz.prog 141 #[.string s,.int .i64 ((i:Int)+1)] W (RetI W a2))):Calls Tryz.prog 84 #[.string s,.int .i64 (i:Int)] w (zai w i R):=by
 have HR:=Z9 hR;have HTX:=Z9 Zz;clear hR Zz;go_enter Tryz.func84,Tryz.ntmps84;go_wp2_with fail;refine(ZI.out _).mono ?_;rintro e w' ⟨rfl,rfl⟩;obtain⟨W2,Z4⟩:∃W2,W2=(w.alloc (.cells #[.int .u8 0,.string ⟨#[]⟩,.string ⟨#[]⟩,.int .i64 0,.int .i64 (i:Int)] 100)):=⟨_,rfl⟩
 have hg:W2.heap[w.heap.size]?=some (.cells #[.int .u8 0,.string ⟨#[]⟩,.string ⟨#[]⟩,.int .i64 0,.int .i64 (i:Int)] 100):=by rw[Z4];exact World.alloc_heap_new w _
 have Z6:Below w.heap.size w W2:=by rw[Z4];exact zaf w _
 rw[←Z4];obtain⟨c0,c1,c2,c3,c4,fz⟩:=zal hg;have HG:=Z9 hg;have HBEL:=Z9 Z6;clear Z4 hg Z6;go_wp2_with fail;refine(XR.out _).mono ?_;rintro e w' ⟨rfl,rfl⟩;go_wp2_with fail;go_region;rw[HTX.out];go_wp2_with fail;refine bodyPost_ret (zaa rfl _ _ w.heap.size 100 _ _ rfl (zfm (zvo HG.out _ _) _ _ _ _ _) Tryz.underlying100 rfl rfl) rfl ?_
 show zai _ _ _ _ _
 rw[HR.out];exact zap (by omega) (zad ((HBEL.out.setCell (p:=⟨w.heap.size,0,none⟩) (Nat.le_refl _) _).setCell (p:=⟨w.heap.size,1,none⟩) (Nat.le_refl _) _) (Nat.le_refl _) _ _ _ _ _).drew
theorem zza(s:ByteArray)(i:Nat)(R:OneR)(w:World)(_hs:s.size≤100000)(_hi:i<s.size)(C:Int)(hR:R=.no 12)(t45:((s[i].toNat:Int) == 45)=false)(k2:(C == 2)=false)(k3:(C == 3)=false)(k5:(C == 5)=false)(k6:(C == 6)=false)(ZI:Hid (∀W,Calls Tryz.prog 141 #[.string s,.int .i64 (i:Int)] W (RetI W C))):Calls Tryz.prog 84 #[.string s,.int .i64 (i:Int)] w (zai w i R):=by
 have HR:=Z9 hR;clear hR;go_enter Tryz.func84,Tryz.ntmps84;go_wp2_with fail;refine(ZI.out _).mono ?_;rintro e w' ⟨rfl,rfl⟩;obtain⟨W2,Z4⟩:∃W2,W2=(w.alloc (.cells #[.int .u8 0,.string ⟨#[]⟩,.string ⟨#[]⟩,.int .i64 0,.int .i64 (i:Int)] 100)):=⟨_,rfl⟩
 have hg:W2.heap[w.heap.size]?=some (.cells #[.int .u8 0,.string ⟨#[]⟩,.string ⟨#[]⟩,.int .i64 0,.int .i64 (i:Int)] 100):=by rw[Z4];exact World.alloc_heap_new w _
 have Z6:Below w.heap.size w W2:=by rw[Z4];exact zaf w _
 rw[←Z4];obtain⟨c0,c1,c2,c3,c4,fz⟩:=zal hg;have HG:=Z9 hg;have HBEL:=Z9 Z6;clear Z4 hg Z6;go_wp2_with fail;refine bodyPost_ret (zaa rfl _ _ w.heap.size 100 _ _ rfl (zag (HG.out) _ _ _ _ _) Tryz.underlying100 rfl rfl) rfl ?_
 show zai _ _ _ _ _
 rw[HR.out];exact za8 (zad (HBEL.out) (Nat.le_refl _) _ _ _ _ _)
theorem z4e(l:List UInt8):Lib.indexByte l 34=if spn (fun x=>decide (x.toNat≠34)) l<l.length then(spn (fun x=>decide (x.toNat≠34)) l:Int)else -1:=by
 obtain⟨p,hp⟩:∃p:UInt8→Bool,p=fun x=>decide (x.toNat≠34):=⟨_,rfl⟩
 rw[←hp]
 have Ue:∀c:UInt8,p c=true↔c.toNat≠34:=fun c=>by rw[hp];simp
 clear hp
 induction l with
 |nil=>rfl
 |cons c l ih =>
  unfold Lib.indexByte
  by_cases h:c.toNat=34
  ·have e:c=34:=by rw[←UInt8.toNat_inj];exact h
   have e2:spn p (c :: l)=0:=by unfold spn;rw[if_neg (fun a=>(Ue c).1 a h)]
   rw[e2,if_pos (by rw[e];rfl),if_pos (by simp)];rfl
  ·have e2:spn p (c :: l)=spn p l+1:=by
    show(if p c=true then spn p l+1 else 0)=_
    rw[if_pos ((Ue c).2 h)]
   have e3:¬(c == 34)=true:=fun a=>h (by rw[beq_iff_eq.1 a];rfl)
   rw[e2,if_neg e3,ih,List.length_cons]
   by_cases h2:spn p l<l.length
   ·have e4:¬(((spn p l:Nat):Int) == -1)=true:=fun a=>by have:=beq_iff_eq.1 a;omega
    rw[if_pos h2,if_neg e4,if_pos (by omega)];omega
   ·rw[if_neg h2,if_pos (by decide),if_neg (by omega)]
theorem zq6{l:List UInt8}{t:Tk}{n:Nat}(h:numK l=.yes t n):t=⟨3,bsL [],t.rat,0,0⟩:=by
 have key:∀{neg:Bool}{front back:List UInt8}{mk:Nat}{ended:Bool}{m:Nat},numO neg front mk back ended m=.yes t n→t=⟨3,bsL [],t.rat,0,0⟩:=by
  intro neg front back mk ended m h;unfold numO at h
  split at h
  ·cases h
  ·split at h
   ·cases h
   ·injection h with h _;rw[←h]
 unfold numK at h;dsimp only at h
 split at h
 ·exact key h
 ·exact key h
theorem zzf{l:List UInt8}{e:Int}(h:numK l=.no e):(e != 0)=true:=by
 have key:∀{neg:Bool}{front back:List UInt8}{mk:Nat}{ended:Bool}{m:Nat},numO neg front mk back ended m=.no e→(e != 0)=true:=by
  intro neg front back mk ended m h;unfold numO at h
  split at h
  ·injection h with h;subst h;rfl
  ·split at h
   ·injection h with h;subst h;rfl
   ·cases h
 unfold numK at h;dsimp only at h
 split at h
 ·exact key h
 ·exact key h
theorem z3k(s:ByteArray)(i:Nat)(w:World)(hs:s.size≤100000)(hi:i<s.size):Calls Tryz.prog 84 #[.string s,.int .i64 (i:Int)] w (zai w i (oneL (s.data.toList.drop i))):=by
 have hli:=zbw s i hi;obtain⟨r,hr⟩:∃r,r=s.data.toList.drop (i+1):=⟨_,rfl⟩
 rw[←hr]at hli;have WD:r.length=s.size-(i+1):=by rw[hr,List.length_drop,zab]
 have ZI:Hid (∀W,Calls Tryz.prog 141 #[.string s,.int .i64 (i:Int)] W (RetI W (zaj s[i]))):=fun W=>by rw[←zwk hi];exact zje s i W
 have XR:Hid (∀W,Calls Tryz.prog 141 #[.string s,.int .i64 ((i:Int)+1)] W (RetI W (atN r))):=fun W=>by
  rw[show((i:Int)+1)=((i+1:Nat):Int)by omega,hr];exact zje s (i+1) W
 obtain⟨p2,p3,p4,p6,p1,p7,p5⟩:=zc0 s[i];obtain⟨C,hC⟩:∃C,C=zaj s[i]:=⟨_,rfl⟩
 rw[←hC]at ZI p2 p3 p4 p6 p1 p7 p5
 have extL:∀a b:Nat,i≤a→(s.extract a b)=bsL (((s[i] :: r).drop (a-i)).take (b-a)):=fun a b h=>Go.WideShapes.bytes_inj (by
  rw[zcb,←hli,List.drop_drop,show i+(a-i)=a by omega];rfl)
 have hmin:∀b,((s[i].toNat:Int) == 45)=b↔(decide (s[i].toNat=45))=b:=fun b=>by
  have:((s[i].toNat:Int) == 45)=decide (s[i].toNat=45):=by rw[Bool.eq_iff_iff];simp;omega
  rw[this]
 have HDYg:∀v,dayQ (s[i] :: r)=v→Hid (∀W,Calls Tryz.prog 143 #[.string (s.extract i s.size)] W (zgo W v)):=fun v hv W=>by
  have:=z4s (s.extract i s.size) W (by simp;omega);rw[zcb,List.take_of_length_le (by rw[List.length_drop,zab];exact Nat.le_refl _),hli,hv]at this;exact this
 rw[hli]
 rcases zfn s[i] r with w1 |w1 |w1 |⟨w1,v1⟩ |⟨w1,v1⟩ |⟨w1,w2,w3,w4⟩
 ·-- a word
  have hC3:=p3.2 w1;rw[hC3]at ZI;have V3:=zd4 wdQ r;have hw:wdQ s[i]=true:=by unfold wdQ;rw[w1];rfl
  have hsp2:spn wdQ (s.data.toList.drop i)=spn wdQ r+1:=by rw[hli];show(if wdQ s[i]=true then spn wdQ r+1 else 0)=_;rw[if_pos hw]
  have Vi:Hid (∀W:World,Calls Tryz.prog 140 #[.string s,.int .i64 (i:Int),.slice (some ⟨W.heap.size,0,none⟩) 3 3] (W.alloc (.cells #[.int .i64 3,.int .i64 2,.int .i64 4] 3)) (RetI (W.alloc (.cells #[.int .i64 3,.int .i64 2,.int .i64 4] 3)) ((i+(spn wdQ r+1):Nat):Int))):=fun W=>by
   have:=ztw s i (by omega) (by omega) W;rw[hsp2]at this;exact this
  have Zz:s.extract i (i+(spn wdQ r+1))=bsL ((s[i] :: r).take (spn wdQ r+1)):=by
   rw[extL _ _ (Nat.le_refl _)];congr 1;rw[Nat.sub_self,Nat.add_sub_cancel_left];rfl
  have Zo:(bsL ((s[i] :: r).take (spn wdQ r+1))).size=spn wdQ r+1:=by rw[←zab];show((s[i] :: r).take _).length=_;simp;omega
  rw[zem w1]
  by_cases Vl:40<spn wdQ r+1
  ·rw[if_pos Vl]
   exact zvt s i _ w _ _ (by omega) (by omega) Zz (by rw[Zo];simp;omega) rfl ZI Vi
  ·rw[if_neg Vl]
   exact zvu s i _ w _ _ (by omega) (by omega) Zz (by rw[Zo];simp;omega) (by congr 1;omega) ZI Vi
 ·-- a quote
  have hC6:=p6.2 w1;rw[hC6]at ZI;have hix:=z4e r
  obtain⟨k,hk⟩:∃k,k=spn (fun x=>decide (x.toNat≠34)) r:=⟨_,rfl⟩
  rw[zdk w1,←hk];rw[←hk]at hix
  have Xp:Hid (∀W,Calls Tryz.prog 142 #[.string (s.extract (i+1) s.size),.int .u8 34] W fun e w'=>e=.returned (.int .i64 (if k<r.length then(k:Int)else -1))∧W=w'):=fun W=>by
   have:=Tryz.strings_IndexByte (s.extract (i+1) s.size) 34 W;rw[zcb,List.take_of_length_le (by rw[List.length_drop,zab];exact Nat.le_refl _),←hr]at this
   refine this.mono fun e w' ⟨a,b⟩=>⟨?_,b.symm⟩
   rw[a,←hix];rfl
  by_cases h1:k<r.length
  ·rw[if_pos h1]at Xp
   have Zz:s.extract (i+1) (i+1+k)=bsL (r.take k):=by
    rw[extL _ _ (by omega)];congr 1;rw[show i+1-i=1 by omega,Nat.add_sub_cancel_left];rfl
   have Zx:∀b,nmB (r.take k)=b→Hid (∀W,Calls Tryz.prog 51 #[.string (bsL (r.take k))] W (RetB W b)):=fun b hb W=>by
    have:=zln (bsL (r.take k)) W;rw[zim,hb]at this;exact this
   cases hb:nmB (r.take k)with
   |false =>
    rw[if_neg (by rintro⟨_,h⟩;cases h)];exact zlh s i _ w hs hi k _ (by omega) Zz rfl ZI Xp (Zx _ hb)
   |true =>
    rw[if_pos ⟨h1,rfl⟩];exact zvv s i _ w hs hi k _ (by omega) Zz rfl ZI Xp (Zx _ hb)
  ·rw[if_neg h1]at Xp
   rw[if_neg (fun h=>h1 h.1)];exact zj4 s i _ w hs hi rfl ZI Xp
 ·-- a date
  have hd:=zlz w1;have hC2:=p2.2 hd;rw[hC2]at ZI;have Za:=zgc w1;rw[List.length_cons]at Za;have Y3:=HDYg true w1;have hdr:(s[i] :: r).drop 10=s.data.toList.drop (i+10):=by rw[←hli,List.drop_drop]
  have YR:∀b,endQ ((s[i] :: r).drop 10)=b→Hid (∀W,Calls Tryz.prog 144 #[.string s,.int .i64 ((i:Int)+10)] W (RetB W b)):=fun b hb W=>by
   rw[show((i:Int)+10)=((i+10:Nat):Int)by omega,←hb,hdr];exact zn2 s (i+10) W
  rw[zf4 w1]
  cases he:endQ ((s[i] :: r).drop 10)with
  |false =>
   rw[if_neg (by decide)];exact zpb s i _ w hs hi rfl (by omega) ZI Y3 (YR _ he)
  |true =>
   rw[if_pos rfl]
   have Zz:s.extract i (i+10)=bsL ((s[i] :: r).take 10):=by
    rw[extL _ _ (Nat.le_refl _)];congr 1;rw[Nat.sub_self,Nat.add_sub_cancel_left];rfl
   have hdt:=fun day=>zxb (day:=day) w1
   rcases ztp (bsL ((s[i] :: r).take 10))with⟨day,Zm,hp⟩ |⟨Xl,hp⟩
   ·rw[zim]at Zm
    rw[(hdt day).2 Zm];exact zsu s i _ w hs hi (day:Int) _ Zz rfl (by omega) ZI Y3 (YR _ he) (Z9 hp)
   ·have hn:datV (s[i] :: r)=none:=by
     cases hv:datV (s[i] :: r)with
     |none=>rfl
     |some day=>exact absurd ((hdt day).1 hv) (by rw[←zim (List.take 10 _)];exact Xl day)
    rw[hn];exact zpc s i _ w hs hi _ Zz rfl (by omega) ZI Y3 (YR _ he) (Z9 hp)
 ·-- a number
  rw[zez w1 v1]
  have HN:∀R,numK (s[i] :: r)=R→Hid (∀W,Calls Tryz.prog 146 #[.string s,.int .i64 (i:Int)] W (zcp W i R)):=fun R hR W=>by
   have:=zsx s i W hs hi (by rw[←hr];exact v1);rw[hli,hR]at this;exact this
  have hdy:=HDYg false (by simpa using w1)
  rcases v1 with hd |⟨YN,hd⟩
  ·have hC2:=p2.2 hd
   rw[hC2]at ZI
   cases hk:numK (s[i] :: r)with
   |no er=>exact zm6 s i _ w hs hi er rfl ZI hdy (HN _ hk)
   |yes t n =>
    have ht:=zq6 hk;have HN2:=HN _ hk;rw[ht]at HN2 ⊢;exact zm5 s i _ w hs hi t.rat n rfl ZI hdy HN2
  ·have hC4:C=4:=by
    rw[hC];unfold zaj letB;rw[YN];rfl
   rw[hC4]at ZI
   have TK:atN r=2:=by
    have:=zxs (l:=r);rw[hd]at this;simpa using this
   rw[TK]at XR;have t45:((s[i].toNat:Int) == 45)=true:=(hmin true).2 (decide_eq_true YN)
   cases hk:numK (s[i] :: r)with
   |no er=>exact zm4 s i _ w hs hi er rfl t45 ZI XR (HN _ hk)
   |yes t n =>
    have ht:=zq6 hk;have HN2:=HN _ hk;rw[ht]at HN2 ⊢;exact zm3 s i _ w hs hi t.rat n rfl t45 ZI XR HN2
 ·-- a mark
  rw[zdo w1 v1]
  have Zz:s.extract i (i+1)=bsL [s[i]]:=by
   rw[extL _ _ (Nat.le_refl _)];congr 1;rw[Nat.sub_self,Nat.add_sub_cancel_left];rfl
  by_cases YN:s[i].toNat=45
  ·have hC4:C=4:=by
    rw[hC];unfold zaj letB;rw[YN];rfl
   rw[hC4]at ZI;have t45:((s[i].toNat:Int) == 45)=true:=(hmin true).2 (decide_eq_true YN)
   have TK:(atN r == 2)=false:=by
    rw[zxs]
    cases hd:dgH r with
    |false=>rfl
    |true=>exact absurd ⟨YN,hd⟩ v1
   exact zvw s i _ w hs hi _ Zz rfl (atN r) TK t45 ZI XR
  ·have hC5:C=5:=by
    rcases p5.2 w1 with h |h
    ·exact h
    ·exact absurd h YN
   rw[hC5]at ZI;exact zzb s i _ w hs hi _ Zz rfl ((hmin false).2 (decide_eq_false YN)) ZI
 ·-- none
  rw[zen w1 w2 w3 w4]
  have n2:¬C=2:=fun h=>w3 (p2.1 h)
  have n3:¬C=3:=fun h=>w1 (p3.1 h)
  have n5:¬C=5:=fun h=>w4 (p5.1 (.inl h))
  have n6:¬C=6:=fun h=>w2 (p6.1 h)
  have n45:¬s[i].toNat=45:=fun h=>w4 (p5.1 (.inr h))
  exact zza s i _ w hs hi C rfl ((hmin false).2 (decide_eq_false n45)) (by simpa using n2) (by simpa using n3) (by simpa using n5) (by simpa using n6) ZI
open Go.Shelf
attribute [local go_sem] Oper.semAt_some
def z7t(J:Nat→World→Prop):Prop:=∀s W W',J s W→W.grownBy W' none→J s W'
def z6u(P:Program)(n gf:Nat)(lb:Array Value)(enc:Nat→Value)(E:Nat→World→Prop)(Go Fin:Nat→Prop)(w:World):Prop :=
 ∀(l:Nat)(J:Nat→World→Prop)(Jx:World→Prop)(W:World)(s0:Nat),z7t J→(∀W1 W2,Jx W1→W1.grownBy W2 none→Jx W2)→(∀s W1,J s W1→E s W1) →
  (∀s W1,J s W1→Go s→YieldAt Fence.wide (n-1) P l #[enc s] W1 fun e W2=>(e=.returned (.bool true)∧∃s2,s<s2∧J s2 W2)∨(e=.returned (.bool false)∧Jx W2)) →
  Below w.heap.size w W→J s0 W→CallsIn Fence.wide n P gf (#[.func (.yield l) #[] #[]] ++ lb) W fun e W2=>(∃v,e=.returned v)∧((∃s,Fin s∧J s W2)∨Jx W2)
def z09(B s:Nat)(I:Nat→World→Prop)(Ix:World→Prop)(W:World):Exit→Act→World→Prop
 | .normal,_,W2=>KeepsFrom B W W2∧∃s2,s<s2∧I s2 W2
 | .ret,_,W2=>KeepsFrom B W W2∧Ix W2
 |_,_,_=>False
theorem zf7{W W2:World}(h:W.grownBy W2 none){k:Nat}{o:Obj}(hk:W.heap[k]?=some o):W2.heap[k]?=some o :=
 (h.block k (Z8 hk) (by simp)).trans hk
theorem zy2{P:Program}{n:Nat}{g:Operand}{ps:Array Tmp}{assign body:Code}{Q:Exit→Act→World→Prop}{a:Act}{w:World}(h1:1≤n){gf:Nat}{lb:Array Value}
 (hg:a.eval g=.func (.func gf) #[] lb) (eg:∀args w,(callFunc gf args).run P w=.ok (.enter gf args) w) {enc:Nat→Value} {E:Nat→World→Prop} {Go Fin:Nat→Prop} {w0:World}
 (SR:z6u P (n-1) gf lb enc E Go Fin w0) (YJ:Below w0.heap.size w0 w) (Wt:ps.size=1)
 (I:Nat→World→Prop) (Ix:World→Prop) (hI:OwnFrom w.heap.size I) (hIx:OwnFrom w.heap.size (fun(_:Unit) W=>Ix W)) (hE:∀s W,I s W→E s W) (s0:Nat) (h0:I s0 w) (a₁:Nat→Act)
 (VF:∀(l s:Nat)(W:World)(K:Act→World→Prop),K (a₁ s) W→assign.wpIn (Fence.wide.inRound l) (n-1-1) P (Exit.then K (fun _ _ _=>False)) { tmps:=(ps.zip #[enc s]).foldl (fun t (p,v)=>t.setIfInBounds p v) a.tmps,defers:=[] } W)
 (TR:∀(l s:Nat)(W:World),I s W→Go s→body.wpIn (Fence.wide.inRound l) (n-1-1) P (z09 w.heap.size s I Ix W) (a₁ s) W)
 (Wc:∀(D s:Nat)(W:World),w.heap.size≤D→Fin s→I s W→W.heap[D]?=some (.deferred (some []))→Q .normal { a with defers:={ target:=.collected D,args:=#[] } :: a.defers } W)
 (Ui:∀(D:Nat)(W:World),w.heap.size≤D→Ix W→W.heap[D]?=some (.deferred (some []))→Code.ret.wpIn Fence.wide n P Q { a with defers:={ target:=.collected D,args:=#[] } :: a.defers } W) :
 (Code.rangeFunc g ps assign body).wpIn Fence.wide n P Q a w:=by
 refine wpIn_rangeFunc fun fn UU => ?_
 -- the loop's record and the block behind it
 obtain⟨L,hL⟩:∃L:LoopState→Option Code→Loop,L=fun st pe=>{ state:=st,pending:=pe,fn,tmps:=a.tmps,params:=ps,assign,body,defers:=w.heap.size }:=⟨_,rfl⟩
 obtain⟨V,hV⟩:∃V,V=(w.alloc (.deferred (some []))).alloc (.loop (L .ready none)):=⟨_,rfl⟩
 have hloop:V.heap[w.heap.size+1]?=some (.loop (L .ready none)):=by
  rw[hV];have:=World.alloc_heap_new (w.alloc (.deferred (some []))) (.loop (L .ready none))
  rwa [World.size_alloc]at this
 have hdef:V.heap[w.heap.size]?=some (.deferred (some [])):=by
  rw[hV];exact(Below.heap_alloc _ _ _ (by simp)).trans (World.alloc_heap_new w _)
 have hIV:I s0 V:=by rw[hV];exact hI.alloc _ (hI.alloc _ h0)
 have hbV:Below w0.heap.size w0 V:=by
  rw[hV];exact YJ.trans ((((Below.refl _ w).alloc (Nat.le_refl _) _).alloc (by simp) _).mono YJ.size)
 refine⟨w.heap.size+1,[{ target:=.collected w.heap.size,args:=#[] }],V,{ target:=.fn (.func gf) lb,args:=#[.func (.yield (w.heap.size+1)) #[] #[]] },V,gf,
  #[.func (.yield (w.heap.size+1)) #[] #[]] ++ lb,V,?_,?_,fun _ _=>trivial,?_,fun _=>h1,?_⟩
 ·rw[hV,hL];exact run_enterLoop_outer _ _ _ _ _
 ·simp only[resolve,hg]
  simp[go_sem]
 ·simp[invoke,go_sem,eg]
 -- the record's turns
 have turn:∀(W:World)(o o':Obj),I=I→W.heap[w.heap.size+1]?=some o→o.isCells=false→∀s,I s W→I s (W.putObj (w.heap.size+1) o'):=fun W o o' _ ho hc s hs=>hI.putObj o' hs (by omega) ho hc
 have turnx:∀(W:World)(o o':Obj),W.heap[w.heap.size+1]?=some o→o.isCells=false→Ix W→Ix (W.putObj (w.heap.size+1) o'):=fun W o o' ho hc hs=>hIx.putObj (s:=()) o' hs (by omega) ho hc
 have step:=SR (w.heap.size+1) (fun s W=>I s W∧W.heap[w.heap.size+1]?=some (.loop (L .ready none))∧W.heap[w.heap.size]?=some (.deferred (some [])))
  (fun W=>Ix W∧W.heap[w.heap.size+1]?=some (.loop (L .done (some .ret)))∧W.heap[w.heap.size]?=some (.deferred (some []))) V s0
  (fun s W W2 hs Y1=>⟨hI s W W2 none hs.1 Y1 (fun r e=>by cases e),zf7 Y1 hs.2.1,zf7 Y1 hs.2.2⟩)
  (fun W W2 hs Y1=>⟨hIx () W W2 none hs.1 Y1 (fun r e=>by cases e),zf7 Y1 hs.2.1,zf7 Y1 hs.2.2⟩)
  (fun s W hs=>hE s W hs.1) ?_ hbV ⟨hIV,hloop,hdef⟩
 ·refine step.mono ?_
  rintro e W2 ⟨⟨v,rfl⟩,(⟨s,hF,hi,hl,hk⟩ |⟨hi,hl,hk⟩)⟩
  ·have YS:=run_endLoop (P:=P) hl (by rw[hL];simp)
   rw[hL]at YS;exact⟨none,_,YS,Wc _ s _ (Nat.le_refl _) hF (turn W2 _ _ rfl hl rfl s hi) ((World.putObj_heap_other (by omega)).trans hk)⟩
  ·have YS:=run_endLoop (P:=P) hl (by rw[hL];simp)
   rw[hL]at YS;exact⟨some .ret,_,YS,Ui _ _ (Nat.le_refl _) (turnx W2 _ _ hl rfl hi) ((World.putObj_heap_other (by omega)).trans hk)⟩
 ·-- one round
  rintro s W ⟨hi,hl,hk⟩ VZ;have Z7:w.heap.size+1<W.heap.size:=(Z8 hl);have hy:=run_yield (P:=P) (args:=#[enc s]) hl (by rw[hL];simp[Wt]);rw[hL]at hy;refine⟨fn,_,assign,body,hy,roundIn_of_wpIn UU (VF _ s W _ ⟨_,run_beginRound hl (by rw[hL]),?_⟩)⟩;have YK:(W.putObj (w.heap.size+1) (.loop { L .ready none with state:=.busy })).heap[w.heap.size+1]?=some (.loop { L .ready none with state:=.busy }):=World.putObj_heap_same Z7;have YC:(W.putObj (w.heap.size+1) (.loop { L .ready none with state:=.busy })).heap[w.heap.size]?=some (.deferred (some [])):=(World.putObj_heap_other (by omega)).trans hk;refine wpIn_mono (TR _ s _ (turn W _ _ rfl hl rfl s hi) VZ) ?_
  intro e a3 W3 hp
  have shut:∀(jump:Option Code),KeepsFrom w.heap.size (W.putObj (w.heap.size+1) (.loop { L .ready none with state:=.busy })) W3 →
   W3.heap[w.heap.size+1]?=some (.loop { L .ready none with state:=.busy }) ∧
   (Instr.endRound (w.heap.size+1) jump).run P W3=.ok (.bool jump.isNone) (W3.putObj (w.heap.size+1) (.loop (L (if jump.isNone then .ready else .done) jump))) ∧
   (W3.putObj (w.heap.size+1) (.loop (L (if jump.isNone then .ready else .done) jump))).heap[w.heap.size+1]?=some (.loop (L (if jump.isNone then .ready else .done) jump)) ∧
   (W3.putObj (w.heap.size+1) (.loop (L (if jump.isNone then .ready else .done) jump))).heap[w.heap.size]?=some (.deferred (some [])):=fun jump UB=>by
   have ZE:=UB.same _ _ (by omega) YK rfl;have S5:=UB.same _ _ (Nat.le_refl _) YC rfl;have he:=run_endRound (P:=P) jump ZE;refine⟨ZE,?_,World.putObj_heap_same (Z8 ZE),(World.putObj_heap_other (by omega)).trans S5⟩;rw[hL]at he ⊢;exact he
  cases e with
  |normal =>
   obtain⟨UB,s2,ZX,Xy⟩:=hp;obtain⟨c1,c2,c3,c4⟩:=shut none UB;exact⟨_,_,c2,.inl ⟨rfl,s2,ZX,turn W3 _ _ rfl c1 rfl s2 Xy,c3,c4⟩⟩
  |ret =>
   obtain⟨UB,Xy⟩:=hp;obtain⟨c1,c2,c3,c4⟩:=shut (some .ret) UB;exact⟨_,_,c2,.inr ⟨rfl,turnx W3 _ _ c1 rfl Xy,c3,c4⟩⟩
  |exit id=>exact hp.elim
  |goto t=>exact hp.elim
  |panic c=>exact hp.elim
  |outgrown=>exact hp.elim
end Go.Proofs.YtkobkpepgdddeaaGreatDoor
