/-
  The program's number, walked: what it reads at a place. No condition.
-/
import Derived.Test.YtkobkpepgdddeaaGreatDoorYam
import Derived.Test.YtkobkpepgdddeaaGreatDoorYal
import Derived.Test.YtkobkpepgdddeaaGreatDoorYae
import Derived.Test.YtkobkpepgdddeaaGreatDoorYak
import Derived.RegionTactic
import Derived.Outline
import Derived.RangeFuncNested
import Derived.RangeFuncBound
import Derived.RangeFuncCalls
import Derived.RangeFuncLeaves
import Derived.RangeFuncBox
import Derived.Shelf.Abstract
import Derived.WalkKit
import Derived.OwnWalkIn
import Derived.TacticsInMore
import Derived.LoopNIn
import Derived.LoopIn
import Derived.Deep.RegionHeld3
import Derived.Test.YtkobkpepgdddeaaGreatDoorYah
import Derived.RegionIn
namespace Go.Proofs.YtkobkpepgdddeaaGreatDoor
open Go.RowKit
set_option maxHeartbeats 16000000
set_option maxRecDepth 100000
theorem zyt(l:List UInt8):numV (48 :: l)=numV l:=by
 unfold numV;rw[List.foldl_cons];rfl
theorem zqn{l:List UInt8}(h:∀c ∈ l,dgQ c=true):l.dropWhile (· == 48)=if numV l=0 then[]else txtN (numV l):=by
 induction l with
 |nil=>rfl
 |cons c l ih =>
  by_cases hc:c=48
  ·subst hc
   rw[zyt,←ih fun x hx=>h x (List.mem_cons_of_mem _ hx)];rfl
  ·have hcan:CanN (c :: l):=⟨List.cons_ne_nil _ _,fun x hx=>by have:=h x hx;unfold dgQ at this;simpa using this,fun a=>by simp at a;exact absurd a hc⟩
   have e:=zgx _ hcan;rw[←zg4]at e;have hp:=znp (List.cons_ne_nil c l) h (by intro a;simp at a;exact hc a);rw[if_neg (by omega),e,List.dropWhile_cons,if_neg (by simpa using hc)]
theorem z3s(k:Nat):numV (49 :: List.replicate k 48)=10 ^ k:=by
 induction k with
 |zero=>rfl
 |succ k ih =>
  rw[List.replicate_succ']
  show numV ((49 :: List.replicate k 48) ++ [48])=_
  rw[zei,ih,Nat.pow_succ]
  show 10*10 ^ k+(48-48)=_
  omega
theorem z1i(k:Nat):49 :: List.replicate k 48=txtN (10 ^ k):=by
 have hcan:CanN (49 :: List.replicate k 48):=⟨List.cons_ne_nil _ _,fun x hx=>by
  rcases List.mem_cons.1 hx with rfl |hx
  ·decide
  ·rw[List.eq_of_mem_replicate hx];decide,fun a=>by simp at a⟩
 have e:=zgx _ hcan;rw[←zg4,z3s]at e;exact e.symm
theorem z1j{l:List UInt8}(hl:l≠[])(h:∀c ∈ l,dgQ c=true)(h0:l.head?≠some 48):l=txtN (numV l):=by
 have hcan:CanN l:=⟨hl,fun x hx=>by have:=h x hx;unfold dgQ at this;simpa using this,fun a=>absurd a h0⟩;have e:=zgx _ hcan;rw[←zg4]at e;exact e.symm
def zc2(w:World)(i:Nat)(R:OneR)(e:Ending)(w':World):Prop :=
 (match R with
  | .no er=>∃(r:ByteArray)(en:Int),e=.returned (.tuple #[.string r,.int .i64 en,.int .i64 er])
  | .yes t n=>e=.returned (.tuple #[.string t.rat,.int .i64 ((i+n:Nat):Int),.int .i64 0]))∧Below w.heap.size w w'
theorem zht{w w':World}{i n en:Nat}{t:Tk}(h:i+n=en)(b:Below w.heap.size w w'):zc2 w i (.yes t n) (.returned (.tuple #[.string t.rat,.int .i64 (en:Int),.int .i64 0])) w':=by
 subst h;exact⟨rfl,b⟩
theorem zqc(s:ByteArray)(i0 k:Nat)(hs:s.size≤1000000)(hi:i0≤s.size)(W:World) :
 Calls Tryz.prog 140 #[.string s,.int .i64 (i0:Int),.slice (some ⟨W.heap.size,0,none⟩) 1 1] (W.alloc (.cells #[.int .i64 (k:Int)] 3)) (RetI (W.alloc (.cells #[.int .i64 (k:Int)] 3)) ((i0+spn (clsB [k]) (s.data.toList.drop i0):Nat):Int)) :=
 ziu s i0 1 1 _ [k] _ hs hi rfl (by omega) (fun j hj=>⟨W.heap.size,0,rfl,by simp,by
  have Vn:j=0:=by simp at hj;exact hj
  subst Vn;have:=World.alloc_heap_new W (.cells #[.int .i64 (k:Int)] 3)
  show(match (W.alloc (.cells #[.int .i64 (k:Int)] 3)).heap[W.heap.size]? with |some (.cells c _ _)=>c[0]? |_=>none)=_
  rw[this];rfl⟩)
theorem z0j:clsB [2]=dgQ:=by
 funext c
 unfold clsB;have:=(zdj c).1
 cases h:dgQ c
 ·have:¬zac c=2:=fun a=>by rw[this.1 a]at h;cases h
  simpa using this
 ·simpa using this.2 h
theorem ze1(s:ByteArray)(a b:Nat):(s.extract a b).data.toList=(s.data.toList.drop a).take (b-a):=by
 rw[ByteArray.data_extract,Array.toList_extract,List.extract_eq_take_drop]
theorem zzn{t:ByteArray}{l:List UInt8}{n:Nat}(e:t.data.toList=l.take n)(h:0<t.size):((t[0].toNat:Int) == 48)=decide (l.head?=some 48):=by
 have h1:=zdi t h;rw[e]at h1;have hl:t.data.toList.length=t.size:=zab t;rw[e]at hl
 have h2:(l.take n).head?=l.head?:=by
  cases l with
  |nil=>simp
  |cons c l=>cases n with
   |zero=>simp at hl;omega
   |succ n=>rfl
 rw[←h2,h1,Bool.eq_iff_iff,beq_iff_eq,decide_eq_true_eq,Option.some.injEq,←UInt8.toNat_inj]
 show _↔t[0].toNat=48
 omega
theorem ybo(k:Nat):Lib.repeatL [48] k=List.replicate k 48:=by
 induction k with
 |zero=>rfl
 |succ k ih=>show[48] ++ Lib.repeatL [48] k=_;rw[ih];rfl
theorem z05{l:List UInt8}:(atN l == 2)=dgH l:=by
 cases l with
 |nil=>rfl
 |cons c l =>
  have:=(zdj c).1
  show(zac c == 2)=dgQ c
  cases h:dgQ c
  ·have:¬zac c=2:=fun a=>by rw[this.1 a]at h;cases h
   simpa using this
  ·simpa using this.2 h
theorem z1r{NN:List UInt8}(h:∀c ∈ NN,dgQ c=true)(hl:NN.length≤1000)(sg:Bool) :
 (if (NN.dropWhile (· == 48))=[]then[48]else if sg=true then 45 :: NN.dropWhile (· == 48)else NN.dropWhile (· == 48))=txtZ (if sg=true then -(numV NN:Int)else(numV NN:Int)) ∧
  bigZ (if sg=true then -(numV NN:Int)else(numV NN:Int))=false:=by
 obtain⟨M,hM⟩:∃M,M=1000:=⟨_,rfl⟩
 have hv:numV NN<10 ^ M:=Nat.lt_of_lt_of_le (zgl NN fun c hc=>by have:=h c hc;unfold dgQ at this;simpa using this) (Nat.pow_le_pow_right (by omega) (by omega));have hb:=zj5 hv (by omega) (by omega);refine⟨?_,zcp (x:=(numV NN:Int)) (by split<;>simp) hb⟩;rw[zqn h]
 by_cases h0:numV NN=0
 ·rw[if_pos h0,if_pos rfl,h0]
  cases sg<;>rfl
 ·rw[if_neg h0,if_neg (zgb _)]
  cases sg
  ·rw[if_neg (by decide),if_neg (by decide)]
   unfold txtZ;rw[if_neg (by omega),Int.natAbs_natCast]
  ·rw[if_pos rfl,if_pos rfl]
   unfold txtZ;rw[if_pos (by omega)]
   congr 2
   omega
theorem zys(s:ByteArray)(i F P EN:Nat)(NN DD tr nz res:ByteArray)(sg frc pt FO ended big:Bool)(w:World)(hs:s.size≤100000)(hi:i<s.size)(t45:((s[i].toNat:Int) == 45)=sg)
 (hF:F=i+(if sg=true then 1 else 0)) (R6:F≤s.size) (hP:P=F+spn dgQ (s.data.toList.drop F)) (Sa:P≤s.size) (X8:frc=frcQ (s.data.toList.drop P))
 (YN:∀h:P<s.size,frc=true→pt=decide (s[P].toNat=46))
 (Xb:EN=if frc=true then P+1+spn dgQ (s.data.toList.drop (P+1))else P) (Tr:EN≤s.size)
 (hFP:F≤P) (hPE:P+1≤EN∨frc=false)
 (VF:NN=if frc=true∧pt=true then s.extract F P ++ s.extract (P+1) EN else s.extract F P)
 (Ui:DD=if frc=true then(if pt=true then⟨#[49]⟩ ++ ⟨(Lib.repeatL [48] (EN-(P+1))).toArray⟩else s.extract (P+1) EN)else⟨#[49]⟩)
 (Ts:FO=((decide (1<P-F) && decide ((s.data.toList.drop F).head?=some 48)) ||(frc && !pt && decide ((s.data.toList.drop (P+1)).head?=some 48))))
 (Zj:ended=endQ (s.data.toList.drop EN)) (ZM:big=(decide (1000<NN.size) ||decide (1000<DD.size)))
 (Y4:tr=⟨(NN.data.toList.dropWhile (· == 48)).toArray⟩) (Xv:nz=if tr.toList.isEmpty=true then⟨#[48]⟩else if sg=true then⟨#[45]⟩ ++ tr else tr)
 (HMK:Hid (FO=false→big=false→∀W,Calls Tryz.prog 186 #[.string nz,.string DD] W (StE W res 0))) :
 Calls Tryz.prog 146 #[.string s,.int .i64 (i:Int)] w (zc2 w i (if FO=true∨ended=false then .no 12 else if big=true then .no 14 else .yes ⟨3,bsL [],res,0,0⟩ (EN-i))):=by
 have HA1:Hid (∀W:World,Calls Tryz.prog 140 #[.string s,.int .i64 (F:Int),.slice (some ⟨W.heap.size,0,none⟩) 1 1] (W.alloc (.cells #[.int .i64 2] 3)) (RetI (W.alloc (.cells #[.int .i64 2] 3)) (P:Int))):=fun W=>by
  have:=zqc s F 2 (by omega) R6 W;rw[z0j,←hP]at this;exact this
 have HA2:Hid (∀W:World,P+1≤s.size→frc=true→Calls Tryz.prog 140 #[.string s,.int .i64 ((P:Int)+1),.slice (some ⟨W.heap.size,0,none⟩) 1 1] (W.alloc (.cells #[.int .i64 2] 3)) (RetI (W.alloc (.cells #[.int .i64 2] 3)) (EN:Int))):=fun W h1 h2=>by
  rw[show((P:Int)+1)=((P+1:Nat):Int)by omega];have:=zqc s (P+1) 2 (by omega) h1 W;rw[z0j]at this;rw[Xb,if_pos h2];exact this
 have ZQ:Hid (∀W,Calls Tryz.prog 141 #[.string s,.int .i64 ((P:Int)+1)] W (RetI W (atN (s.data.toList.drop (P+1))))):=fun W=>by
  rw[show((P:Int)+1)=((P+1:Nat):Int)by omega];exact zk6 s (P+1) W
 have XG:Hid (∀W,Calls Tryz.prog 144 #[.string s,.int .i64 (EN:Int)] W (RetB W ended)):=fun W=>by rw[Zj];exact zp1 s EN W
 have ZF:Hid (∀W,Calls Tryz.prog 185 #[.string NN,.string ⟨#[48]⟩] W fun e w'=>e=.returned (.string tr)∧W=w'):=fun W=>by
  rw[Y4]
  exact(Tryz.strings_TrimLeft_one NN 48 (by decide) W).mono fun e w' ⟨a,b⟩=>⟨a,b.symm⟩
 have HRP:Hid (∀W,Calls Tryz.prog 184 #[.string ⟨#[48]⟩,.int .i64 ((EN-(P+1):Nat):Int)] W fun e w'=>e=.returned (.string ⟨(Lib.repeatL [48] (EN-(P+1))).toArray⟩)∧Below W.heap.size W w'):=fun W =>
  Tryz.strings_Repeat ⟨#[48]⟩ (EN-(P+1)) W (by omega) (by show 1*_≤_;omega)
 have HTL:Hid (NN.size≤1000→tr.size≤1000):=fun h=>by
  rw[Y4,←zab]
  show(NN.data.toList.dropWhile _).length≤_
  have:=(List.dropWhile_sublist (l:=NN.data.toList) (· == 48)).length_le;rw[zab]at this;omega
 have hPEN:P≤EN:=by rw[Xb];split<;>omega
 obtain⟨ds,YZ⟩:∃ds,ds=dgH (s.data.toList.drop (P+1)):=⟨_,rfl⟩
 have hadig:(atN (s.data.toList.drop (P+1)) == 2)=ds:=by rw[YZ];exact z05
 have hfrc2:∀h:P<s.size,frc=(decide (s[P].toNat=46∨s[P].toNat=47) && ds):=fun h=>by
  rw[X8,YZ,zcv s P h]
  cases s.data.toList.drop (P+1)with
  |nil=>show false=(_ && false);rw[Bool.and_false]
  |cons x l=>rfl
 have hfrc3:¬P<s.size→frc=false:=fun h=>by
  rw[X8,List.drop_eq_nil_of_le (by rw[zab];omega)];rfl
 have VI:frc=true→P+2≤EN:=fun h=>by
  have Z4:P<s.size:=Decidable.byContradiction fun hn=>by rw[hfrc3 hn]at h;cases h
  have h2:=hfrc2 Z4;rw[h]at h2
  have hd:ds=true:=by cases ds with
   |true=>rfl
   |false=>rw[Bool.and_false]at h2;cases h2
  rw[YZ]at hd;rw[Xb,if_pos h]
  cases hl:s.data.toList.drop (P+1)with
  |nil=>rw[hl]at hd;cases hd
  |cons c l =>
   rw[hl]at hd;have:=zho (r:=l) (show dgQ c=true from hd);omega
 obtain⟨atv,TB⟩:∃atv,atv=atN (s.data.toList.drop (P+1)):=⟨_,rfl⟩
 rw[←TB]at ZQ hadig
 obtain⟨RES,UI⟩:∃RES:OneR,RES=(if FO=true∨ended=false then .no 12 else if big=true then .no 14 else .yes ⟨3,bsL [],res,0,0⟩ (EN-i)):=⟨_,rfl⟩
 rw[←UI];obtain⟨fr,TL⟩:∃fr,fr=s.extract F P:=⟨_,rfl⟩
 obtain⟨bk,Vi⟩:∃bk,bk=s.extract (P+1) EN:=⟨_,rfl⟩
 have hfrs:fr.size=P-F:=by rw[TL];simp;omega
 have hbks:frc=true→bk.size=EN-(P+1):=fun h=>by rw[Vi];simp;omega
 have hbk0:∀h:0<bk.size,((bk[0].toNat:Int) == 48)=decide ((s.data.toList.drop (P+1)).head?=some 48):=fun h=>zzn (by rw[Vi,ze1]) h
 have hfr0:∀h:0<fr.size,((fr[0].toNat:Int) == 48)=decide ((s.data.toList.drop F).head?=some 48):=fun h=>zzn (by rw[TL,ze1]) h
 rw[←TL,←Vi]at VF;rw[←Vi]at Ui;have HF:=Z9 hF;have HFO:=Z9 Ts;have HR:=Z9 UI;have HNN:=Z9 VF;have HDD:=Z9 Ui;have HNZ:=Z9 Xv;have HBIG:=Z9 ZM;have HFRC:=Z9 hfrc2;have HFRC3:=Z9 hfrc3;have HPT:=Z9 YN;have HADIG:=Z9 hadig;have HFR:=Z9 TL;have HBK:=Z9 Vi;have HFRS:=Z9 hfrs;have HBKS:=Z9 hbks;have HFR0:=Z9 hfr0;have HBK0:=Z9 hbk0;have HENE:=Z9 Xb;have HBP:=Z9 VI;clear hF Ts UI VF Ui Xv ZM X8 hfrc2 hfrc3 YN hadig TL Vi hP Zj Y4 YZ TB Xb hfrs hbks hbk0 hfr0 VI;go_enter Tryz.func146,Tryz.ntmps146
 go_upto_if 17 with(fail)
 go_cut [7] (fun s7 wx=>s7=.int .i64 (F:Int)∧w=wx)
 case first=>as_aux_lemma =>
  cases sg
  ·have e:=HF.out
   rw[if_neg (by decide),Nat.add_zero]at e;have E:=Z9 e;clear e;go_wp2_with fail;go_meet;exact⟨by rw[E.out],rfl⟩
  ·have e:=HF.out
   rw[if_pos rfl]at e;have E:=Z9 e;clear e;go_wp2_with fail;go_meet;exact⟨by rw[E.out];go_num,rfl⟩
 case rest=>as_aux_lemma =>
  obtain⟨rfl,rfl⟩:=hcut;go_wp2_with fail;refine(HA1.out _).mono ?_;rintro e w' ⟨rfl,rfl⟩;have B1:Hid (Below w.heap.size w (w.alloc (.cells #[.int .i64 2] 3))):=zaa w _;obtain⟨W1,YK⟩:∃W1,W1=w.alloc (.cells #[.int .i64 2] 3):=⟨_,rfl⟩
  rw[←YK]at B1 ⊢;obtain⟨f0,Uo⟩:∃f0,f0=(decide (1<P-F) && decide ((s.data.toList.drop F).head?=some 48)):=⟨_,rfl⟩
  have HF0:=Z9 Uo;clear YK Uo
  go_upto_region 7 with(fail)
  rw[←HFR.out];go_cut [11] (fun s11 wx=>s11=.bool f0∧W1=wx)
  case first=>as_aux_lemma =>
   have Zt:=HFRS.out
   by_cases h1:1<P-F
   ·have hp:0<fr.size:=by omega
    have h2:1<fr.size:=by omega
    have e:=HFR0.out hp;have e2:=HF0.out;rw[decide_eq_true h1,Bool.true_and,←e]at e2;have E2:=Z9 e2;clear e e2 Zt;go_wp2_with fail;go_meet;exact⟨by rw[E2.out],rfl⟩
   ·have h2:¬1<fr.size:=by omega
    have e2:=HF0.out;rw[decide_eq_false h1,Bool.false_and]at e2;have E2:=Z9 e2;clear e2 Zt;go_wp2_with fail;go_meet;exact⟨by rw[E2.out],rfl⟩
  case rest=>as_aux_lemma =>
   obtain⟨rfl,rfl⟩:=hcut
   go_upto_region 8 with(fail)
   go_cut [59] (fun s59 wx=>s59=.bool frc∧W1=wx)
   case first=>as_aux_lemma =>
    by_cases h1:P<s.size
    ·have e:=HFRC.out h1
     by_cases XY:s[P].toNat=46
     ·have t1:((s[P].toNat:Int) == 46)=true:=by simp;omega
      rw[decide_eq_true (Or.inl XY),Bool.true_and,←HADIG.out]at e;have E:=Z9 e;clear e XY;go_wp2_with fail;refine(ZQ.out _).mono ?_;rintro e w' ⟨rfl,rfl⟩;go_wp2_with fail;go_meet;exact⟨by rw[E.out],rfl⟩
     ·have t1:((s[P].toNat:Int) == 46)=false:=by simp;omega
      by_cases XZ:s[P].toNat=47
      ·have t2:((s[P].toNat:Int) == 47)=true:=by simp;omega
       rw[decide_eq_true (Or.inr XZ),Bool.true_and,←HADIG.out]at e;have E:=Z9 e;clear e XY XZ;go_wp2_with fail;refine(ZQ.out _).mono ?_;rintro e w' ⟨rfl,rfl⟩;go_wp2_with fail;go_meet;exact⟨by rw[E.out],rfl⟩
      ·have t2:((s[P].toNat:Int) == 47)=false:=by simp;omega
       rw[decide_eq_false (by rintro(h |h);exact XY h;exact XZ h),Bool.false_and]at e;have E:=Z9 e;clear e XY XZ;go_wp2_with fail;go_meet;exact⟨by rw[E.out],rfl⟩
    ·have e:=HFRC3.out h1
     have E:=Z9 e;clear e;go_wp2_with fail;go_meet;exact⟨by rw[E.out],rfl⟩
   case rest=>as_aux_lemma =>
    obtain⟨rfl,rfl⟩:=hcut
    go_upto_if 59 with(fail)
    go_cut [5,9,10,11] (fun s5 s9 s10 s11 wx=>s5=.int .i64 (EN:Int)∧s9=.string NN∧s10=.string DD∧s11=.bool FO∧Below w.heap.size w wx)
    case first=>as_aux_lemma =>
     cases frc
     ·have e1:=HNN.out
      have e2:=HDD.out;have e3:=HFO.out;have e4:=HENE.out;rw[if_neg (by rintro⟨h,_⟩;cases h)]at e1;rw[if_neg (by decide)]at e2 e4;rw[Bool.false_and,Bool.false_and,Bool.or_false,←HF0.out]at e3;have E1:=Z9 e1;have E2:=Z9 e2;have E3:=Z9 e3;have E4:=Z9 e4;clear e1 e2 e3 e4;go_wp2_with fail;go_meet;exact⟨by rw[E4.out],by rw[E1.out],by rw[E2.out],by rw[E3.out],B1.out⟩
     ·have Z4:P<s.size:=Decidable.byContradiction fun hn=>by have:=HFRC3.out hn;cases this
      have VI:=HBP.out rfl;have X0:=HBKS.out rfl;have hbs0:0<bk.size:=by omega
      have HB0:=Z9 (HBK0.out hbs0);have HPT2:=Z9 (HPT.out Z4 rfl);have e1:=HNN.out;have e2:=HDD.out;have e3:=HFO.out;rw[if_pos rfl]at e2;rw[Bool.true_and,←HF0.out,←HB0.out]at e3
      have HRP2:Hid (∀W,Calls Tryz.prog 184 #[.string ⟨#[48]⟩,.int .i64 (bk.size:Int)] W fun e w'=>e=.returned (.string ⟨(Lib.repeatL [48] (EN-(P+1))).toArray⟩)∧Below W.heap.size W w'):=fun W=>by rw[X0];exact HRP.out W
      have BKS:=Z9 X0;have hbkle:bk.size≤100000:=by omega
      have hP1s:P+1≤EN:=by omega
      have rlen:(⟨(Lib.repeatL [48] (EN-(P+1))).toArray⟩:ByteArray).size≤100000:=by
       rw[←zab]
       show(Lib.repeatL [48] (EN-(P+1))).length≤_
       rw[Lib.repeatL_length];simp;omega
      obtain⟨rp,hrp⟩:∃rp:ByteArray,rp=⟨(Lib.repeatL [48] (EN-(P+1))).toArray⟩:=⟨_,rfl⟩
      rw[←hrp]at rlen e2 HRP2;have hfrle:fr.size≤100000:=by have:=HFRS.out;omega
      clear X0 hrp
      cases pt
      ·rw[if_neg (by rintro⟨_,h⟩;cases h)]at e1
       rw[if_neg (by decide)]at e2
       have XY:¬s[P].toNat=46:=fun h=>by have:=HPT2.out;rw[decide_eq_true h]at this;cases this
       have t1:((s[P].toNat:Int) == 46)=false:=by simp;omega
       have E1:=Z9 e1;have E2:=Z9 e2;have E3:=Z9 e3;clear e1 e2 e3 XY;go_wp2_with fail;refine(HA2.out _ (by omega) trivial).mono ?_;rintro e w' ⟨rfl,rfl⟩;have B2:Hid (Below w.heap.size w (W1.alloc (.cells #[.int .i64 2] 3))):=B1.out.alloc B1.out.size _;obtain⟨W2,ZU⟩:∃W2,W2=W1.alloc (.cells #[.int .i64 2] 3):=⟨_,rfl⟩
       rw[←ZU]at B2 ⊢;clear ZU
       go_upto_if 73 with(fail)
       rw[←HBK.out]
       cases f0
       ·go_wp2_with fail
        go_meet;exact⟨rfl,by rw[E1.out],by rw[E2.out],by rw[E3.out];rfl,B2.out⟩
       ·go_wp2_with fail
        go_meet;exact⟨rfl,by rw[E1.out],by rw[E2.out],by rw[E3.out];rfl,B2.out⟩
      ·rw[if_pos ⟨rfl,rfl⟩]at e1
       rw[if_pos rfl]at e2;rw[show(!true)=false from rfl,Bool.false_and,Bool.or_false]at e3;have XY:s[P].toNat=46:=by have:=HPT2.out;simpa using this.symm
       have t1:((s[P].toNat:Int) == 46)=true:=by simp;omega
       have E1:=Z9 e1;have E2:=Z9 e2;have E3:=Z9 e3;clear e1 e2 e3 XY;go_wp2_with fail;refine(HA2.out _ (by omega) trivial).mono ?_;rintro e w' ⟨rfl,rfl⟩;have B2:Hid (Below w.heap.size w (W1.alloc (.cells #[.int .i64 2] 3))):=B1.out.alloc B1.out.size _;obtain⟨W2,ZU⟩:∃W2,W2=W1.alloc (.cells #[.int .i64 2] 3):=⟨_,rfl⟩
       rw[←ZU]at B2 ⊢;clear ZU
       go_upto_if 73 with(fail)
       rw[←HBK.out];go_wp2_with fail;refine(HRP2.out _).mono ?_;rintro e w3 ⟨rfl,b3⟩;have B3:=Z9 (B2.out.trans (b3.mono B2.out.size));clear b3;go_wp2_with fail;go_meet;exact⟨rfl,by rw[E1.out],by rw[E2.out],by rw[E3.out],B3.out⟩
    case rest=>as_aux_lemma =>
     obtain⟨rfl,rfl,rfl,rfl,b2⟩:=hcut;have B2:=Z9 b2;clear b2
     cases FO
     ·go_wp2_with fail
      refine(XG.out _).mono ?_;rintro e w' ⟨rfl,rfl⟩
      cases ended
      ·have hR:RES=.no 12:=HR.out.trans (if_pos (.inr rfl))
       have HRR:=Z9 hR;clear hR;go_wp2_with fail;go_ret3
       show zc2 _ _ _ _ _
       rw[HRR.out];exact⟨⟨_,_,rfl⟩,B2.out⟩
      ·have hR0:RES=if big=true then .no 14 else .yes ⟨3,bsL [],res,0,0⟩ (EN-i):=HR.out.trans (if_neg (by rintro(h |h)<;>cases h))
       by_cases h1:1000<NN.size
       ·have hb:big=true:=by rw[HBIG.out,decide_eq_true h1];rfl
        rw[if_pos hb]at hR0;have HRR:=Z9 hR0;clear hR0 hb;go_wp2_with fail;go_ret3
        show zc2 _ _ _ _ _
        rw[HRR.out];exact⟨⟨_,_,rfl⟩,B2.out⟩
       ·by_cases h2:1000<DD.size
        ·have hb:big=true:=by rw[HBIG.out,decide_eq_true h2,Bool.or_true]
         rw[if_pos hb]at hR0;have HRR:=Z9 hR0;clear hR0 hb;go_wp2_with fail;go_ret3
         show zc2 _ _ _ _ _
         rw[HRR.out];exact⟨⟨_,_,rfl⟩,B2.out⟩
        ·have hb:¬big=true:=by rw[HBIG.out,decide_eq_false h1,decide_eq_false h2];decide
         rw[if_neg hb]at hR0;have HRR:=Z9 hR0;have TG:big=false:=by simpa using hb
         have HMK1:=Z9 (HMK.out (by trivial) TG);clear hR0 hb TG;have Xv:=HNZ.out;have htl:tr.size≤1000:=HTL.out (by omega)
         have Sk:i≤EN:=by
          have:i≤F:=by rw[HF.out];exact Nat.le_add_right _ _
          omega
         cases htz:tr.toList.isEmpty
         ·rw[htz,if_neg (by decide)]at Xv
          cases sg
          ·rw[if_neg (by decide)]at Xv
           have hFi:=HF.out;rw[if_neg (by decide),Nat.add_zero]at hFi;have hgt:¬i<F:=by omega
           have HM:=HMK1.out;rw[Xv]at HM;have HM2:=Z9 HM;clear HM Xv hFi;go_wp2_with fail;refine(ZF.out _).mono ?_;rintro e w' ⟨rfl,rfl⟩;go_wp2_with fail;refine(HM2.out _).mono ?_;rintro e w4 ⟨rfl,b4⟩;have B4:=Z9 (B2.out.trans (b4.mono B2.out.size));clear b4;go_wp2_with fail;go_ret3
           show zc2 _ _ _ _ _
           rw[HRR.out];exact zht (by omega) B4.out
          ·rw[if_pos rfl]at Xv
           have hFi:=HF.out;rw[if_pos rfl]at hFi;have hgt:i<F:=by omega
           have HM:=HMK1.out;rw[Xv]at HM;have HM2:=Z9 HM;clear HM Xv hFi;go_wp2_with fail;refine(ZF.out _).mono ?_;rintro e w' ⟨rfl,rfl⟩;go_wp2_with fail;refine(HM2.out _).mono ?_;rintro e w4 ⟨rfl,b4⟩;have B4:=Z9 (B2.out.trans (b4.mono B2.out.size));clear b4;go_wp2_with fail;go_ret3
           show zc2 _ _ _ _ _
           rw[HRR.out];exact zht (by omega) B4.out
         ·rw[htz,if_pos rfl]at Xv
          have HM:=HMK1.out;rw[Xv]at HM;have HM2:=Z9 HM;clear HM Xv;go_wp2_with fail;refine(ZF.out _).mono ?_;rintro e w' ⟨rfl,rfl⟩;go_wp2_with fail;refine(HM2.out _).mono ?_;rintro e w4 ⟨rfl,b4⟩;have B4:=Z9 (B2.out.trans (b4.mono B2.out.size));clear b4;go_wp2_with fail;go_ret3
          show zc2 _ _ _ _ _
          rw[HRR.out];exact zht (by omega) B4.out
     ·have hR:RES=.no 12:=HR.out.trans (if_pos (.inl rfl))
      have HRR:=Z9 hR;clear hR;go_wp2_with fail;go_ret3
      show zc2 _ _ _ _ _
      rw[HRR.out];exact⟨⟨_,_,rfl⟩,B2.out⟩
theorem zhc(l:List UInt8)(a b:Nat):(l.drop a).drop b=l.drop (a+b):=List.drop_drop
theorem zu1(s:ByteArray)(i:Nat)(w:World)(hs:s.size≤100000)(hi:i<s.size)(hd:dgQ s[i]=true∨(s[i].toNat=45∧dgH (s.data.toList.drop (i+1))=true)) :
 Calls Tryz.prog 146 #[.string s,.int .i64 (i:Int)] w (zc2 w i (numK (s.data.toList.drop i))):=by
 obtain⟨L,hL⟩:∃L,L=s.data.toList:=⟨_,rfl⟩
 have Z6:L.length=s.size:=by rw[hL];exact zab s
 have WJ:L.drop i=s[i] :: L.drop (i+1):=by rw[hL];exact zcv s i hi
 obtain⟨sg,U7⟩:∃sg,((s[i].toNat:Int) == 45)=sg:=⟨_,rfl⟩
 have hnS:numS (L.drop i)=if sg=true then 1 else 0:=by
  rw[WJ];unfold numS;rw[←U7]
  by_cases h:s[i].toNat=45
  ·have:s[i]=45:=by rw[←UInt8.toNat_inj];exact h
   rw[if_pos (by rw[this];rfl),if_pos (by simp;omega)]
  ·rw[if_neg (by intro a;simp at a;exact h (by rw[a];rfl)),if_neg (by simp;omega)]
 obtain⟨F,hF⟩:∃F,F=i+(if sg=true then 1 else 0):=⟨_,rfl⟩
 have R6:F≤s.size:=by rw[hF];split<;>omega
 have hdF:(L.drop i).drop (numS (L.drop i))=L.drop F:=by rw[zhc,hnS,←hF]
 obtain⟨P,hP⟩:∃P,P=F+spn dgQ (L.drop F):=⟨_,rfl⟩
 have ha:=zeg dgQ (L.drop F);rw[List.length_drop,Z6]at ha;have Sa:P≤s.size:=by omega
 have Tz:1≤spn dgQ (L.drop F):=by
  rcases hd with hd |⟨XN,hd⟩
  ·have:¬s[i].toNat=45:=by unfold dgQ at hd;simp at hd;omega
   have e:sg=false:=by rw[←U7];simp;omega
   rw[hF,e,if_neg (by decide),Nat.add_zero,WJ];exact zho hd
  ·have e:sg=true:=by rw[←U7];simp;omega
   rw[hF,e,if_pos rfl];rw[←hL]at hd
   cases hl:L.drop (i+1)with
   |nil=>rw[hl]at hd;cases hd
   |cons c l=>rw[hl]at hd;exact zho hd
 have hdP:(L.drop i).drop (numS (L.drop i)+spn dgQ (L.drop F))=L.drop P:=by rw[zhc,hnS,hP,hF];congr 1;omega
 obtain⟨frc,X8⟩:∃frc,frc=frcQ (L.drop P):=⟨_,rfl⟩
 obtain⟨EN,Xb⟩:∃EN,EN=if frc=true then P+1+spn dgQ (L.drop (P+1))else P:=⟨_,rfl⟩
 have hb:=zeg dgQ (L.drop (P+1));rw[List.length_drop,Z6]at hb
 have hfl:frc=true→P+2≤s.size:=fun h=>by
  rw[X8]at h;have:=znx h;rw[List.length_drop,Z6]at this;omega
 have Tr:EN≤s.size:=by
  rw[Xb]
  cases hc:frc with
  |true=>rw[if_pos rfl];have:=hfl hc;omega
  |false=>rw[if_neg (by decide)];exact Sa
 obtain⟨pt,YN⟩:∃pt,pt=decide ((L.drop P).head?=some 46):=⟨_,rfl⟩
 have hpt2:∀h:P<s.size,frc=true→pt=decide (s[P].toNat=46):=fun h _=>by
  rw[YN,hL,zcv s P h,Bool.eq_iff_iff,decide_eq_true_eq,decide_eq_true_eq]
  show some s[P]=some 46↔_
  rw[Option.some.injEq,←UInt8.toNat_inj];rfl
 obtain⟨fl,Ws⟩:∃fl,fl=(L.drop F).take (spn dgQ (L.drop F)):=⟨_,rfl⟩
 obtain⟨bl,ZK⟩:∃bl,bl=if frc=true then(L.drop (P+1)).take (spn dgQ (L.drop (P+1)))else[]:=⟨_,rfl⟩
 have hfd:∀c ∈ fl,dgQ c=true:=by rw[Ws];exact zc5 _ _
 have hbd:∀c ∈ bl,dgQ c=true:=by
  rw[ZK];split
  ·exact zc5 _ _
  ·intro c hc;cases hc
 have hfll:fl.length=P-F:=by rw[Ws,List.length_take,List.length_drop,Z6];omega
 have hbll:frc=true→bl.length=EN-(P+1):=fun h=>by rw[ZK,if_pos h,Xb,if_pos h,List.length_take,List.length_drop,Z6];omega
 obtain⟨NN,VF⟩:∃NN,NN=if frc=true∧pt=true then s.extract F P ++ s.extract (P+1) EN else s.extract F P:=⟨_,rfl⟩
 obtain⟨DD,Ui⟩:∃DD:ByteArray,DD=if frc=true then(if pt=true then⟨#[49]⟩ ++ ⟨(Lib.repeatL [48] (EN-(P+1))).toArray⟩else s.extract (P+1) EN)else⟨#[49]⟩:=⟨_,rfl⟩
 have exF:(s.extract F P).data.toList=fl:=by rw[ze1,←hL,Ws,hP];congr 1;omega
 have exB:frc=true→(s.extract (P+1) EN).data.toList=bl:=fun h=>by rw[ze1,←hL,ZK,if_pos h,Xb,if_pos h];congr 1;omega
 have lNN:NN.data.toList=if frc=true∧pt=true then fl ++ bl else fl:=by
  rw[VF];split
  ·rename_i h;rw[zis,exF,exB h.1]
  ·exact exF
 have lDD:DD.data.toList=if frc=true then(if pt=true then 49 :: List.replicate bl.length 48 else bl)else[49]:=by
  rw[Ui];split
  ·rename_i h
   split
   ·rw[zis,ybo,hbll h];rfl
   ·exact exB h
  ·rfl
 have hNd:∀c ∈ NN.data.toList,dgQ c=true:=by
  rw[lNN];split
  ·intro c hc
   rcases List.mem_append.1 hc with hc |hc
   ·exact hfd c hc
   ·exact hbd c hc
  ·exact hfd
 obtain⟨mk,Wx⟩:∃mk:Nat,mk=if frc=true then(if pt=true then 46 else 47)else 0:=⟨_,rfl⟩
 have hmkP:frc=true→((L.drop P).headD 0).toNat=mk:=fun h=>by
  have h2:=hfl h;have Z4:P<s.size:=by omega
  have e:=hpt2 Z4 h;rw[Wx,if_pos h];rw[X8]at h;rw[hL,zcv s P Z4]at h ⊢
  show s[P].toNat=_
  cases hl:s.data.toList.drop (P+1)with
  |nil=>rw[hl]at h;cases h
  |cons x l =>
   rw[hl]at h;unfold frcQ at h;simp only[Bool.and_eq_true,decide_eq_true_eq]at h;rw[e]
   by_cases XY:s[P].toNat=46
   ·rw[decide_eq_true XY,if_pos rfl];exact XY
   ·rw[decide_eq_false XY,if_neg (by decide)];omega
 obtain⟨ended,Xp⟩:∃ended,ended=endQ (L.drop EN):=⟨_,rfl⟩
 -- what it reads,by its parts
 have hnum:numK (L.drop i)=numO (decide (sg=true)) fl mk bl ended (EN-i):=by
  unfold numK;dsimp only
  have hneg:decide (numS (L.drop i)=1)=decide (sg=true):=by rw[hnS];cases sg<;>rfl
  rw[hdF,hdP,hneg,←Ws]
  cases hc:frc with
  |true =>
   have hc':frcQ (L.drop P)=true:=by rw[←X8];exact hc
   rw[if_pos hc',zhc,zhc];have e1:bl=(L.drop (P+1)).take (spn dgQ (L.drop (P+1))):=by rw[ZK,if_pos hc]
   have e2:EN=P+(1+spn dgQ (L.drop (P+1))):=by rw[Xb,if_pos hc];omega
   rw[←e1,←e2,←Xp,hmkP hc]
   congr 1
   rw[hnS,Xb,if_pos hc,hP,hF];omega
  |false =>
   have hc':¬frcQ (L.drop P)=true:=by rw[←X8,hc];decide
   rw[if_neg hc'];have e1:bl=[]:=by rw[ZK,if_neg (by rw[hc];decide)]
   have e2:EN=P:=by rw[Xb,if_neg (by rw[hc];decide)]
   rw[e1,Wx,if_neg (by rw[hc];decide),Xp,e2]
   congr 1
   rw[hnS,hP,hF];omega
 obtain⟨FO,Ts⟩:∃FO,FO=((decide (1<P-F) && decide ((L.drop F).head?=some 48)) ||(frc && !pt && decide ((L.drop (P+1)).head?=some 48))):=⟨_,rfl⟩
 obtain⟨big,ZM⟩:∃big,big=(decide (1000<NN.size) ||decide (1000<DD.size)):=⟨_,rfl⟩
 obtain⟨tr,Y4⟩:∃tr:ByteArray,tr=⟨(NN.data.toList.dropWhile (· == 48)).toArray⟩:=⟨_,rfl⟩
 obtain⟨nz,Xv⟩:∃nz:ByteArray,nz=if tr.toList.isEmpty=true then⟨#[48]⟩else if sg=true then⟨#[45]⟩ ++ tr else tr:=⟨_,rfl⟩
 have hflh:fl.head?=(L.drop F).head?:=by
  rw[Ws]
  cases hl:L.drop F with
  |nil=>simp
  |cons c l =>
   rw[hl]at Tz;obtain⟨k,hk⟩:∃k,spn dgQ (c :: l)=k+1:=⟨spn dgQ (c :: l)-1,by omega⟩
   rw[hk];rfl
 have hblh:frc=true→bl≠[]∧bl.head?=(L.drop (P+1)).head?:=fun h=>by
  rw[ZK,if_pos h];have h2:=hfl h;have Z4:P<s.size:=by omega
  rw[X8,hL,zcv s P Z4,←hL]at h
  cases hl:L.drop (P+1)with
  |nil=>rw[hl]at h;cases h
  |cons c l =>
   rw[hl]at h;have hc:dgQ c=true:=by unfold frcQ at h;simp only[Bool.and_eq_true]at h;exact h.2
   obtain⟨k,hk⟩:∃k,spn dgQ (c :: l)=k+1:=⟨spn dgQ (c :: l)-1,by have:=zho (r:=l) hc;omega⟩
   rw[hk];exact⟨by simp,rfl⟩
 have hNs:NN.size=if frc=true∧pt=true then fl.length+bl.length else fl.length:=by
  rw[←zab,lNN];split
  ·rw[List.length_append]
  ·rfl
 have hDs:DD.size=if frc=true then(if pt=true then 1+bl.length else bl.length)else 1:=by
  rw[←zab,lDD];split
  ·split
   ·simp;omega
   ·rfl
  ·rfl
 have VE:FO=true↔((1<fl.length∧fl.head?=some 48)∨(mk=47∧bl.head?=some 48)):=by
  rw[Ts,hfll,hflh];simp only[Bool.or_eq_true,Bool.and_eq_true,decide_eq_true_eq,Bool.not_eq_true']
  constructor
  ·rintro(h |⟨⟨h1,h2⟩,h3⟩)
   ·exact .inl h
   ·exact .inr ⟨by rw[Wx,if_pos h1,h2];rfl,by rw[(hblh h1).2];exact h3⟩
  ·rintro(h |⟨h1,h2⟩)
   ·exact .inl h
   ·cases hc:frc with
    |false=>rw[Wx,hc]at h1;cases h1
    |true =>
     cases hp:pt with
     |true=>rw[Wx,hc,hp]at h1;cases h1
     |false=>exact .inr ⟨⟨rfl,rfl⟩,by rw[←(hblh hc).2];exact h2⟩
 have hfl1:1≤fl.length:=by omega
 have hbig2:big=true↔(1000<fl.length∨(mk=46∧1000<fl.length+bl.length)∨1000<bl.length):=by
  rw[ZM];simp only[Bool.or_eq_true,decide_eq_true_eq];rw[hNs,hDs,Wx]
  cases hc:frc with
  |false =>
   have:bl.length=0:=by rw[ZK,if_neg (by rw[hc];decide)];rfl
   simp;omega
  |true =>
   cases hp:pt with
   |true=>simp;omega
   |false=>simp
 obtain⟨res,YI⟩:∃res,res=bsL (zhr (decide (sg=true)) fl mk bl):=⟨_,rfl⟩
 have hfin:numK (L.drop i)=if FO=true∨ended=false then .no 12 else if big=true then .no 14 else .yes ⟨3,bsL [],res,0,0⟩ (EN-i):=by
  rw[hnum];unfold numO
  by_cases h1:FO=true∨ended=false
  ·rw[if_pos h1,if_pos]
   rcases h1 with h1 |h1
   ·rcases VE.1 h1 with h |h
    ·exact .inl h
    ·exact .inr (.inr h)
   ·exact .inr (.inl h1)
  ·rw[if_neg h1,if_neg]
   ·by_cases h2:big=true
    ·rw[if_pos h2,if_pos (hbig2.1 h2)]
    ·rw[if_neg h2,if_neg (fun a=>h2 (hbig2.2 a)),YI]
   ·rintro(h |h |h)
    ·exact h1 (.inl (VE.2 (.inl h)))
    ·exact h1 (.inr h)
    ·exact h1 (.inl (VE.2 (.inr h)))
 rw[←hL,hfin]
 refine zys s i F P EN NN DD tr nz res sg frc pt FO ended big w hs hi U7 hF R6 (by rw[←hL];exact hP) Sa (by rw[←hL];exact X8) hpt2 (by rw[←hL];exact Xb) Tr (by omega)
  (by cases hc:frc with
   |false=>exact .inr rfl
   |true=>left;rw[Xb,if_pos hc];omega) VF Ui (by rw[←hL];exact Ts) (by rw[←hL];exact Xp) ZM Y4 Xv (Z9 fun Tt TG W => ?_)
 -- Make
 have Zw:¬(1000<fl.length∨(mk=46∧1000<fl.length+bl.length)∨1000<bl.length):=fun a=>by rw[hbig2.2 a]at TG;cases TG
 have hf3:¬((1<fl.length∧fl.head?=some 48)∨(mk=47∧bl.head?=some 48)):=fun a=>by rw[VE.2 a]at Tt;cases Tt
 have hNl:NN.data.toList.length≤1000:=by
  rw[zab,hNs]
  split
  ·rename_i h
   have:mk=46:=by rw[Wx,if_pos h.1,if_pos h.2]
   omega
  ·omega
 obtain⟨v1,v2⟩:=z1r hNd hNl sg
 have hnzl:nz.data.toList=txtZ (if sg=true then -(numV NN.data.toList:Int)else(numV NN.data.toList:Int)):=by
  rw[←v1,Xv,zag,Y4]
  show(if (NN.data.toList.dropWhile (· == 48)).isEmpty=true then(⟨#[48]⟩:ByteArray)else if sg=true then⟨#[45]⟩ ++ ⟨(NN.data.toList.dropWhile (· == 48)).toArray⟩else⟨(NN.data.toList.dropWhile (· == 48)).toArray⟩).data.toList=_
  by_cases he:NN.data.toList.dropWhile (· == 48)=[]
  ·rw[if_pos (by rw[he];rfl),if_pos he]
  ·rw[if_neg (by simpa using he),if_neg he]
   cases sg
   ·rfl
   ·rw[if_pos rfl,if_pos rfl,zis];rfl
 obtain⟨Y,hY⟩:∃Y:Nat,Y=if mk=46 then 10 ^ bl.length else if mk=47 then numV bl else 1:=⟨_,rfl⟩
 obtain⟨M,hM⟩:∃M,M=1000:=⟨_,rfl⟩
 have hDl:DD.data.toList=txtZ (Y:Int)∧Y<10 ^ M∧0<Y:=by
  have tz:∀n:Nat,txtZ (n:Int)=txtN n:=fun n=>by unfold txtZ;rw[if_neg (by omega),Int.natAbs_natCast]
  rw[lDD,tz]
  cases hc:frc with
  |false =>
   have e:mk=0:=by rw[Wx,if_neg (by rw[hc];decide)]
   rw[hY,e,if_neg (by decide),if_neg (by decide),if_neg (by decide)];exact⟨by rw[←tz];exact txtZ_1.symm,Nat.one_lt_pow (by omega) (by omega),by decide⟩
  |true =>
   rw[if_pos rfl]
   cases hp:pt with
   |true =>
    have e:mk=46:=by rw[Wx,if_pos hc,if_pos hp]
    rw[hY,e,if_pos rfl,if_pos rfl];exact⟨z1i _,Nat.pow_lt_pow_right (by omega) (by omega),Nat.pow_pos (by omega)⟩
   |false =>
    have e:mk=47:=by rw[Wx,if_pos hc,if_neg (by rw[hp];decide)]
    rw[hY,e,if_neg (by decide),if_neg (by decide),if_pos rfl];have Z0:=(hblh hc).1
    have h0:bl.head?≠some 48:=fun a=>hf3 (.inr ⟨e,a⟩)
    exact⟨z1j Z0 hbd h0,Nat.lt_of_lt_of_le (zgl bl fun c YY=>by have:=hbd c YY;unfold dgQ at this;simpa using this) (Nat.pow_le_pow_right (by omega) (by omega)),znp Z0 hbd h0⟩
 obtain⟨d1,d2,d3⟩:=hDl
 have hX:numV NN.data.toList=if mk=46 then numV (fl ++ bl)else numV fl:=by
  rw[lNN,Wx]
  cases hc:frc with
  |false=>simp
  |true=>cases hp:pt with
   |true=>rw[if_pos ⟨rfl,rfl⟩];rfl
   |false=>rw[if_neg (by rintro⟨_,h⟩;cases h)];rfl
 have VZ:DD.size≤100000:=by
  rw[hDs];split
  ·split<;>omega
  ·omega
 have hnn:nz.size≤100000:=by
  rw[←zab,hnzl]
  have len:∀z:Int,bigZ z=false→(txtZ z).length≤1001:=fun z h=>by
   have:=zfl h;unfold txtZ
   split<;>simp[zfn]<;>omega
  exact Nat.le_trans (len _ v2) (by omega)
 have:=z9q nz DD _ (Y:Int) W hnn VZ hnzl d1 v2 (zj5 d2 (by omega) (by omega)) (by omega)
 refine this.mono fun e w' ⟨h1,h2⟩=>⟨?_,h2⟩
 rw[h1,YI];unfold zhr;dsimp only;rw[←hY,←hX]
 have hsg2:(if decide (sg=true)=true then -(numV NN.data.toList:Int)else(numV NN.data.toList:Int))=(if sg=true then -(numV NN.data.toList:Int)else(numV NN.data.toList:Int)):=by cases sg<;>rfl
 rw[hsg2];rfl
def za5(w:World)(i:Nat)(R:OneR)(e:Ending)(w':World):Prop :=
 (match R with
  | .no er=>∃(K:Int)(T Q:ByteArray)(D en:Int),e=.returned (.tuple #[.agg #[.int .u8 K,.string T,.string Q,.int .i64 D,.int .i64 (i:Int)],.int .i64 en,.int .i64 er])
  | .yes t n=>e=.returned (.tuple #[.agg #[.int .u8 t.kind,.string t.text,.string t.rat,.int .i64 t.date,.int .i64 (i:Int)],.int .i64 ((i+n:Nat):Int),.int .i64 0]))∧Below w.heap.size w w'
theorem zc8{w w':World}{i:Nat}{er K D en:Int}{T Q:ByteArray}(b:Below w.heap.size w w'):za5 w i (.no er) (.returned (.tuple #[.agg #[.int .u8 K,.string T,.string Q,.int .i64 D,.int .i64 (i:Int)],.int .i64 en,.int .i64 er])) w':=⟨⟨_,_,_,_,_,rfl⟩,b⟩
theorem zc1{w w':World}{i n:Nat}{en:Int}{t:Tk}(h:((i+n:Nat):Int)=en)(b:Below w.heap.size w w'):za5 w i (.yes t n) (.returned (.tuple #[.agg #[.int .u8 t.kind,.string t.text,.string t.rat,.int .i64 t.date,.int .i64 (i:Int)],.int .i64 en,.int .i64 0])) w':=by
 subst h;exact⟨rfl,b⟩
theorem zdr{w:World}{g:Nat}{cs:Array Value}{t:TypeId}(h:w.heap[g]?=some (.cells cs t))(i:Nat)(v:Value):(w.setCell ⟨g,i,none⟩ v).heap[g]?=some (.cells (cs.setIfInBounds i v) t):=by
 simp[World.setCell,Array.getElem?_modify,h]
theorem zok{w:World}{g:Nat}{cs:Array Value}{t:TypeId}(h:w.heap[g]?=some (.cells cs t))(i:Nat):w.cell? ⟨g,i,none⟩=cs[i]?:=by simp[World.cell?,h]
theorem z1p{w:World}{g:Nat}{cs:Array Value}{t:TypeId}(h:w.heap[g]?=some (.cells cs t))(i:Nat):w.frozen? ⟨g,i,none⟩=false:=by simp[World.frozen?,h]
theorem zch{w:World}{g:Nat}{a0 a1 a2 a3 a4:Value}{t:TypeId}(h:w.heap[g]?=some (.cells #[a0,a1,a2,a3,a4] t))(b0 b1 b2 b3 b4:Value) :
 (((((w.setCell ⟨g,0,none⟩ b0).setCell ⟨g,1,none⟩ b1).setCell ⟨g,2,none⟩ b2).setCell ⟨g,3,none⟩ b3).setCell ⟨g,4,none⟩ b4).heap[g]?=some (.cells #[b0,b1,b2,b3,b4] t):=by
 have h5:=zdr (zdr (zdr (zdr (zdr h 0 b0) 1 b1) 2 b2) 3 b3) 4 b4;simpa only [List.setIfInBounds_toArray,List.set_cons_zero,List.set_cons_succ]using h5
theorem zzy(w:World):w.drew.heap=w.heap:=rfl
theorem zgj{w:World}{g:Nat}{a0 a1 a2 a3 a4:Value}{t:TypeId}(h:w.heap[g]?=some (.cells #[a0,a1,a2,a3,a4] t))(b0 b1 b2 b3 b4:Value) :
 (((((w.setCell ⟨g,0,none⟩ b0).setCell ⟨g,1,none⟩ b1).setCell ⟨g,2,none⟩ b2).setCell ⟨g,3,none⟩ b3).setCell ⟨g,4,none⟩ b4).drew.heap[g]?=some (.cells #[b0,b1,b2,b3,b4] t):=by
 rw[zzy];exact zch h b0 b1 b2 b3 b4
theorem zx4{w:World}{g:Nat}{a0 a1 a2 a3 a4:Value}{t:TypeId}(h:w.heap[g]?=some (.cells #[a0,a1,a2,a3,a4] t))(b0 b1:Value) :
 ((w.setCell ⟨g,0,none⟩ b0).setCell ⟨g,1,none⟩ b1).heap[g]?=some (.cells #[b0,b1,a2,a3,a4] t):=by
 have h5:=zdr (zdr h 0 b0) 1 b1;simpa only [List.setIfInBounds_toArray,List.set_cons_zero,List.set_cons_succ]using h5
theorem put0{w:World}{g:Nat}{a0 a1 a2 a3 a4:Value}{t:TypeId}(h:w.heap[g]?=some (.cells #[a0,a1,a2,a3,a4] t))(b0:Value) :
 (w.setCell ⟨g,0,none⟩ b0).heap[g]?=some (.cells #[b0,a1,a2,a3,a4] t):=by
 have h5:=zdr h 0 b0;simpa only [List.setIfInBounds_toArray,List.set_cons_zero,List.set_cons_succ]using h5
theorem put2{w:World}{g:Nat}{a0 a1 a2 a3 a4:Value}{t:TypeId}(h:w.heap[g]?=some (.cells #[a0,a1,a2,a3,a4] t))(b2:Value) :
 (w.setCell ⟨g,2,none⟩ b2).heap[g]?=some (.cells #[a0,a1,b2,a3,a4] t):=by
 have h5:=zdr h 2 b2;simpa only [List.setIfInBounds_toArray,List.set_cons_zero,List.set_cons_succ]using h5
theorem put3{w:World}{g:Nat}{a0 a1 a2 a3 a4:Value}{t:TypeId}(h:w.heap[g]?=some (.cells #[a0,a1,a2,a3,a4] t))(b3:Value) :
 (w.setCell ⟨g,3,none⟩ b3).heap[g]?=some (.cells #[a0,a1,a2,b3,a4] t):=by
 have h5:=zdr h 3 b3;simpa only [List.setIfInBounds_toArray,List.set_cons_zero,List.set_cons_succ]using h5
theorem zbk{B:Nat}{w0 w:World}{g:Nat}(h:Below B w0 w)(hg:B≤g)(b0 b1 b2 b3 b4:Value) :
 Below B w0 (((((w.setCell ⟨g,0,none⟩ b0).setCell ⟨g,1,none⟩ b1).setCell ⟨g,2,none⟩ b2).setCell ⟨g,3,none⟩ b3).setCell ⟨g,4,none⟩ b4) :=
 ((((h.setCell hg b0).setCell hg b1).setCell hg b2).setCell hg b3).setCell hg b4
theorem zcs{w:World}{g:Nat}{a0 a1 a2 a3 a4:Value}{t:TypeId}(h:w.heap[g]?=some (.cells #[a0,a1,a2,a3,a4] t)):w.cell? ⟨g,0,none⟩=some a0∧w.cell? ⟨g,1,none⟩=some a1∧w.cell? ⟨g,2,none⟩=some a2∧w.cell? ⟨g,3,none⟩=some a3∧w.cell? ⟨g,4,none⟩=some a4∧∀i,w.frozen? ⟨g,i,none⟩=false :=
 ⟨zok h 0,zok h 1,zok h 2,zok h 3,zok h 4,z1p h⟩
theorem zi0{fn:Func}{p u v:Tmp}{ty:TypeId}(h:fn.results=#[.cell p ty,.tmp u,.tmp v])(tmps:Array Value)(P:Program)(w:World) :
 (results fn tmps).run P w =
  ((asAddr (tmps.getD p undef)).run P w).andThen fun a w₁=>((loadVar ty a).run P w₁).andThen fun x w₂=>.ok (.tuple #[x,tmps.getD u undef,tmps.getD v undef]) w₂:=by
 simp only[results,h];simp[Sem.run_bind,Result.andThen]
theorem zat{P:Program}{fn:Func}{p u v:Tmp}{ty:TypeId}(h:fn.results=#[.cell p ty,.tmp u,.tmp v])(tmps:Array Value)(w:World)(g:Nat)(t:TypeId)(cs:Array Value)(d:TypeDesc)
 (hp:tmps.getD p undef=.pointer (some ⟨g,0,none⟩)) (hg:w.heap[g]?=some (.cells cs t))
 (hu:P.underlying ty=some d) (hd:(match d with | .struct _ | .array _ _=>true |_=>false)=true) (hi:(P.info? ty).map (·.size)=some cs.size) :
 (results fn tmps).run P w=.ok (.tuple #[.agg cs,tmps.getD u undef,tmps.getD v undef]) w:=by
 rw[zi0 h,hp];simp[asAddr,run_loadVar_row w g t ty cs (0,0) d hg hu hd hi]
theorem yav:clsB [3,2,4]=wdQ:=by
 funext c
 obtain⟨_,_,h,_⟩:=zdj c;unfold clsB;rw[Bool.eq_iff_iff,←h];simp;omega
theorem zv0(s:ByteArray)(i:Nat)(hs:s.size≤1000000)(hi:i≤s.size)(W:World) :
 Calls Tryz.prog 140 #[.string s,.int .i64 (i:Int),.slice (some ⟨W.heap.size,0,none⟩) 3 3] (W.alloc (.cells #[.int .i64 3,.int .i64 2,.int .i64 4] 3)) (RetI (W.alloc (.cells #[.int .i64 3,.int .i64 2,.int .i64 4] 3)) ((i+spn wdQ (s.data.toList.drop i):Nat):Int)):=by
 rw[←yav];refine ziu s i 3 3 _ [3,2,4] _ hs hi rfl (by omega) (fun j hj=>⟨W.heap.size,0,rfl,by simp,?_⟩);have:=World.alloc_heap_new W (.cells #[.int .i64 3,.int .i64 2,.int .i64 4] 3);have Vn:j=0∨j=1∨j=2:=by simp at hj;omega
 show(match (W.alloc (.cells #[.int .i64 3,.int .i64 2,.int .i64 4] 3)).heap[W.heap.size]? with |some (.cells c _ _)=>c[0+j]? |_=>none)=_
 rw[this]
 rcases Vn with rfl |rfl |rfl<;>rfl
theorem zwq(w:World)(a0 a1 a2 a3 a4:Value)(t:TypeId)(o:Obj):((w.alloc (.cells #[a0,a1,a2,a3,a4] t)).alloc o).heap[w.heap.size]?=some (.cells #[a0,a1,a2,a3,a4] t):=by
 rw[Below.heap_alloc _ _ _ (by simp)];exact World.alloc_heap_new w _
theorem zyj(s:ByteArray)(i:Nat)(R:OneR)(w:World)(en:Nat)(tx:ByteArray)(hen:i≤en)(SU:en≤s.size)(Zm:s.extract i en=tx)(hb:decide ((40:Int)<(tx.size:Int))=false)(hR:R=.yes ⟨1,tx,bsL [],0,0⟩ (en-i))
 (ZQ:Hid (∀W,Calls Tryz.prog 141 #[.string s,.int .i64 (i:Int)] W (RetI W 3)))
 (Vd:Hid (∀W:World,Calls Tryz.prog 140 #[.string s,.int .i64 (i:Int),.slice (some ⟨W.heap.size,0,none⟩) 3 3] (W.alloc (.cells #[.int .i64 3,.int .i64 2,.int .i64 4] 3)) (RetI (W.alloc (.cells #[.int .i64 3,.int .i64 2,.int .i64 4] 3)) (en:Int)))) :
 Calls Tryz.prog 84 #[.string s,.int .i64 (i:Int)] w (za5 w i R):=by
 have HR:=Z9 hR;have HTX:=Z9 Zm;have haf:=Vd.out (w.alloc (.cells #[.int .u8 0,.string ⟨#[]⟩,.string ⟨#[]⟩,.int .i64 0,.int .i64 (i:Int)] 100));rw[World.size_alloc]at haf;have Wb:=Z9 haf;clear haf Zm hR;go_enter Tryz.func84,Tryz.ntmps84;go_wp2_with fail;refine(ZQ.out _).mono ?_;rintro e w' ⟨rfl,rfl⟩;go_wp2_with fail;refine Wb.out.mono ?_;rintro e w' ⟨rfl,rfl⟩;obtain⟨W2,ZU⟩:∃W2,W2=(w.alloc (.cells #[.int .u8 0,.string ⟨#[]⟩,.string ⟨#[]⟩,.int .i64 0,.int .i64 (i:Int)] 100)).alloc (.cells #[.int .i64 3,.int .i64 2,.int .i64 4] 3):=⟨_,rfl⟩
 have hg:W2.heap[w.heap.size]?=some (.cells #[.int .u8 0,.string ⟨#[]⟩,.string ⟨#[]⟩,.int .i64 0,.int .i64 (i:Int)] 100):=by rw[ZU];exact zwq ..
 have ZW:Below w.heap.size w W2:=by rw[ZU];exact((Below.refl _ w).alloc (Nat.le_refl _) _).alloc (by simp) _
 rw[←ZU];obtain⟨c0,c1,c2,c3,c4,fz⟩:=zcs hg;have HG:=Z9 hg;have HBEL:=Z9 ZW;clear ZU hg ZW;go_wp2_with fail;go_region;rw[HTX.out];go_wp2_with fail;refine bodyPost_ret (zat rfl _ _ w.heap.size 100 _ _ rfl (zgj (zx4 HG.out _ _) _ _ _ _ _) Tryz.underlying100 rfl rfl) rfl ?_
 show za5 _ _ _ _ _
 rw[HR.out];exact zc1 (by omega) (zbk ((HBEL.out.setCell (p:=⟨w.heap.size,0,none⟩) (Nat.le_refl _) _).setCell (p:=⟨w.heap.size,1,none⟩) (Nat.le_refl _) _) (Nat.le_refl _) _ _ _ _ _).drew
theorem zyi(s:ByteArray)(i:Nat)(R:OneR)(w:World)(en:Nat)(tx:ByteArray)(hen:i≤en)(SU:en≤s.size)(Zm:s.extract i en=tx)(hb:decide ((40:Int)<(tx.size:Int))=true)(hR:R=.no 12)
 (ZQ:Hid (∀W,Calls Tryz.prog 141 #[.string s,.int .i64 (i:Int)] W (RetI W 3)))
 (Vd:Hid (∀W:World,Calls Tryz.prog 140 #[.string s,.int .i64 (i:Int),.slice (some ⟨W.heap.size,0,none⟩) 3 3] (W.alloc (.cells #[.int .i64 3,.int .i64 2,.int .i64 4] 3)) (RetI (W.alloc (.cells #[.int .i64 3,.int .i64 2,.int .i64 4] 3)) (en:Int)))) :
 Calls Tryz.prog 84 #[.string s,.int .i64 (i:Int)] w (za5 w i R):=by
 have HR:=Z9 hR;have HTX:=Z9 Zm;have haf:=Vd.out (w.alloc (.cells #[.int .u8 0,.string ⟨#[]⟩,.string ⟨#[]⟩,.int .i64 0,.int .i64 (i:Int)] 100));rw[World.size_alloc]at haf;have Wb:=Z9 haf;clear haf Zm hR;go_enter Tryz.func84,Tryz.ntmps84;go_wp2_with fail;refine(ZQ.out _).mono ?_;rintro e w' ⟨rfl,rfl⟩;go_wp2_with fail;refine Wb.out.mono ?_;rintro e w' ⟨rfl,rfl⟩;obtain⟨W2,ZU⟩:∃W2,W2=(w.alloc (.cells #[.int .u8 0,.string ⟨#[]⟩,.string ⟨#[]⟩,.int .i64 0,.int .i64 (i:Int)] 100)).alloc (.cells #[.int .i64 3,.int .i64 2,.int .i64 4] 3):=⟨_,rfl⟩
 have hg:W2.heap[w.heap.size]?=some (.cells #[.int .u8 0,.string ⟨#[]⟩,.string ⟨#[]⟩,.int .i64 0,.int .i64 (i:Int)] 100):=by rw[ZU];exact zwq ..
 have ZW:Below w.heap.size w W2:=by rw[ZU];exact((Below.refl _ w).alloc (Nat.le_refl _) _).alloc (by simp) _
 rw[←ZU];obtain⟨c0,c1,c2,c3,c4,fz⟩:=zcs hg;have HG:=Z9 hg;have HBEL:=Z9 ZW;clear ZU hg ZW;go_wp2_with fail;go_region;rw[HTX.out];go_wp2_with fail;refine bodyPost_ret (zat rfl _ _ w.heap.size 100 _ _ rfl (zgj (zx4 HG.out _ _) _ _ _ _ _) Tryz.underlying100 rfl rfl) rfl ?_
 show za5 _ _ _ _ _
 rw[HR.out];exact zc8 (zbk ((HBEL.out.setCell (p:=⟨w.heap.size,0,none⟩) (Nat.le_refl _) _).setCell (p:=⟨w.heap.size,1,none⟩) (Nat.le_refl _) _) (Nat.le_refl _) _ _ _ _ _).drew
theorem zlu(s:ByteArray)(i:Nat)(R:OneR)(w:World)(_hs:s.size≤100000)(_hi:i<s.size)(hR:R=.no 12)(ZQ:Hid (∀W,Calls Tryz.prog 141 #[.string s,.int .i64 (i:Int)] W (RetI W 6)))
 (Xu:Hid (∀W,Calls Tryz.prog 142 #[.string (s.extract (i+1) s.size),.int .u8 34] W fun e w'=>e=.returned (.int .i64 (-1))∧W=w')):Calls Tryz.prog 84 #[.string s,.int .i64 (i:Int)] w (za5 w i R):=by
 have HR:=Z9 hR;clear hR;go_enter Tryz.func84,Tryz.ntmps84;go_wp2_with fail;refine(ZQ.out _).mono ?_;rintro e w' ⟨rfl,rfl⟩;obtain⟨W2,ZU⟩:∃W2,W2=(w.alloc (.cells #[.int .u8 0,.string ⟨#[]⟩,.string ⟨#[]⟩,.int .i64 0,.int .i64 (i:Int)] 100)):=⟨_,rfl⟩
 have hg:W2.heap[w.heap.size]?=some (.cells #[.int .u8 0,.string ⟨#[]⟩,.string ⟨#[]⟩,.int .i64 0,.int .i64 (i:Int)] 100):=by rw[ZU];exact World.alloc_heap_new w _
 have ZW:Below w.heap.size w W2:=by rw[ZU];exact zaa w _
 rw[←ZU];obtain⟨c0,c1,c2,c3,c4,fz⟩:=zcs hg;have HG:=Z9 hg;have HBEL:=Z9 ZW;clear ZU hg ZW;go_wp2_with fail;refine(Xu.out _).mono ?_;rintro e w' ⟨rfl,rfl⟩;go_wp2_with fail;refine bodyPost_ret (zat rfl _ _ w.heap.size 100 _ _ rfl (zch (HG.out) _ _ _ _ _) Tryz.underlying100 rfl rfl) rfl ?_
 show za5 _ _ _ _ _
 rw[HR.out];exact zc8 (zbk (HBEL.out) (Nat.le_refl _) _ _ _ _ _)
theorem znn(s:ByteArray)(i:Nat)(R:OneR)(w:World)(_hs:s.size≤100000)(_hi:i<s.size)(k:Nat)(tx:ByteArray)(hk:i+1+k≤s.size)(Zm:s.extract (i+1) (i+1+k)=tx)(hR:R=.no 12)(ZQ:Hid (∀W,Calls Tryz.prog 141 #[.string s,.int .i64 (i:Int)] W (RetI W 6)))
 (Xu:Hid (∀W,Calls Tryz.prog 142 #[.string (s.extract (i+1) s.size),.int .u8 34] W fun e w'=>e=.returned (.int .i64 (k:Int))∧W=w')) (Zd:Hid (∀W,Calls Tryz.prog 51 #[.string tx] W (RetB W false))):Calls Tryz.prog 84 #[.string s,.int .i64 (i:Int)] w (za5 w i R):=by
 have HR:=Z9 hR;have HTX:=Z9 Zm;clear hR Zm;go_enter Tryz.func84,Tryz.ntmps84;go_wp2_with fail;refine(ZQ.out _).mono ?_;rintro e w' ⟨rfl,rfl⟩;obtain⟨W2,ZU⟩:∃W2,W2=(w.alloc (.cells #[.int .u8 0,.string ⟨#[]⟩,.string ⟨#[]⟩,.int .i64 0,.int .i64 (i:Int)] 100)):=⟨_,rfl⟩
 have hg:W2.heap[w.heap.size]?=some (.cells #[.int .u8 0,.string ⟨#[]⟩,.string ⟨#[]⟩,.int .i64 0,.int .i64 (i:Int)] 100):=by rw[ZU];exact World.alloc_heap_new w _
 have ZW:Below w.heap.size w W2:=by rw[ZU];exact zaa w _
 rw[←ZU];obtain⟨c0,c1,c2,c3,c4,fz⟩:=zcs hg;have HG:=Z9 hg;have HBEL:=Z9 ZW;clear ZU hg ZW;go_wp2_with fail;refine(Xu.out _).mono ?_;rintro e w' ⟨rfl,rfl⟩;go_wp2_with fail;rw[HTX.out];refine(Zd.out _).mono ?_;rintro e w' ⟨rfl,rfl⟩;go_wp2_with fail;refine bodyPost_ret (zat rfl _ _ w.heap.size 100 _ _ rfl (zch (HG.out) _ _ _ _ _) Tryz.underlying100 rfl rfl) rfl ?_
 show za5 _ _ _ _ _
 rw[HR.out];exact zc8 (zbk (HBEL.out) (Nat.le_refl _) _ _ _ _ _)
theorem zyk(s:ByteArray)(i:Nat)(R:OneR)(w:World)(_hs:s.size≤100000)(_hi:i<s.size)(k:Nat)(tx:ByteArray)(hk:i+1+k<s.size)(Zm:s.extract (i+1) (i+1+k)=tx)(hR:R=.yes ⟨2,tx,bsL [],0,0⟩ (k+2))(ZQ:Hid (∀W,Calls Tryz.prog 141 #[.string s,.int .i64 (i:Int)] W (RetI W 6)))
 (Xu:Hid (∀W,Calls Tryz.prog 142 #[.string (s.extract (i+1) s.size),.int .u8 34] W fun e w'=>e=.returned (.int .i64 (k:Int))∧W=w')) (Zd:Hid (∀W,Calls Tryz.prog 51 #[.string tx] W (RetB W true))):Calls Tryz.prog 84 #[.string s,.int .i64 (i:Int)] w (za5 w i R):=by
 have HR:=Z9 hR;have HTX:=Z9 Zm
 have HTX2:Hid (s.extract (i+1) (i+k+1)=tx):=by rw[show i+k+1=i+1+k by omega];exact Zm
 clear hR Zm;go_enter Tryz.func84,Tryz.ntmps84;go_wp2_with fail;refine(ZQ.out _).mono ?_;rintro e w' ⟨rfl,rfl⟩;obtain⟨W2,ZU⟩:∃W2,W2=(w.alloc (.cells #[.int .u8 0,.string ⟨#[]⟩,.string ⟨#[]⟩,.int .i64 0,.int .i64 (i:Int)] 100)):=⟨_,rfl⟩
 have hg:W2.heap[w.heap.size]?=some (.cells #[.int .u8 0,.string ⟨#[]⟩,.string ⟨#[]⟩,.int .i64 0,.int .i64 (i:Int)] 100):=by rw[ZU];exact World.alloc_heap_new w _
 have ZW:Below w.heap.size w W2:=by rw[ZU];exact zaa w _
 rw[←ZU];obtain⟨c0,c1,c2,c3,c4,fz⟩:=zcs hg;have HG:=Z9 hg;have HBEL:=Z9 ZW;clear ZU hg ZW;go_wp2_with fail;refine(Xu.out _).mono ?_;rintro e w' ⟨rfl,rfl⟩;go_wp2_with fail;rw[HTX.out];refine(Zd.out _).mono ?_;rintro e w' ⟨rfl,rfl⟩;go_wp2_with fail;go_region;rw[HTX2.out];go_wp2_with fail;refine bodyPost_ret (zat rfl _ _ w.heap.size 100 _ _ rfl (zgj (zx4 HG.out _ _) _ _ _ _ _) Tryz.underlying100 rfl rfl) rfl ?_
 show za5 _ _ _ _ _
 rw[HR.out];exact zc1 (by omega) (zbk ((HBEL.out.setCell (p:=⟨w.heap.size,0,none⟩) (Nat.le_refl _) _).setCell (p:=⟨w.heap.size,1,none⟩) (Nat.le_refl _) _) (Nat.le_refl _) _ _ _ _ _).drew
theorem zra(s:ByteArray)(i:Nat)(R:OneR)(w:World)(_hs:s.size≤100000)(_hi:i<s.size)(hR:R=.no 12)(hl:i+10≤s.size)(ZQ:Hid (∀W,Calls Tryz.prog 141 #[.string s,.int .i64 (i:Int)] W (RetI W 2)))(Yx:Hid (∀W,Calls Tryz.prog 143 #[.string (s.extract i s.size)] W (zh0 W true)))(XG:Hid (∀W,Calls Tryz.prog 144 #[.string s,.int .i64 ((i:Int)+10)] W (RetB W false))):Calls Tryz.prog 84 #[.string s,.int .i64 (i:Int)] w (za5 w i R):=by
 have HR:=Z9 hR;clear hR;have Y2:(w.alloc (.cells #[.int .u8 0,.string ⟨#[]⟩,.string ⟨#[]⟩,.int .i64 0,.int .i64 (i:Int)] 100)).heap[w.heap.size]?=some (.cells #[.int .u8 0,.string ⟨#[]⟩,.string ⟨#[]⟩,.int .i64 0,.int .i64 (i:Int)] 100):=World.alloc_heap_new w _;have Zv:Below w.heap.size w (w.alloc (.cells #[.int .u8 0,.string ⟨#[]⟩,.string ⟨#[]⟩,.int .i64 0,.int .i64 (i:Int)] 100)):=zaa w _;have HG0:=Z9 Y2;have HB0:=Z9 Zv;clear Y2 Zv;go_enter Tryz.func84,Tryz.ntmps84;go_wp2_with fail;refine(ZQ.out _).mono ?_;rintro e w' ⟨rfl,rfl⟩;go_wp2_with fail;refine(Yx.out _).mono ?_;rintro e w1 ⟨rfl,b1⟩;have hg:w1.heap[w.heap.size]?=some (.cells #[.int .u8 0,.string ⟨#[]⟩,.string ⟨#[]⟩,.int .i64 0,.int .i64 (i:Int)] 100):=by rw[b1.block _ (by simp)];exact HG0.out
 have ZW:Below w.heap.size w w1:=HB0.out.trans (b1.mono HB0.out.size);obtain⟨c0,c1,c2,c3,c4,fz⟩:=zcs hg;have ZO:w.heap.size<w1.heap.size:=by have:=b1.size;simp at this;omega
 have HG:=Z9 hg;have HBEL:=Z9 ZW;clear hg ZW b1;go_wp2_with fail;refine(XG.out _).mono ?_;rintro e w' ⟨rfl,rfl⟩;go_wp2_with fail;refine bodyPost_ret (zat rfl _ _ w.heap.size 100 _ _ rfl (zch (HG.out) _ _ _ _ _) Tryz.underlying100 rfl rfl) rfl ?_
 show za5 _ _ _ _ _
 rw[HR.out];exact zc8 (zbk (HBEL.out) (Nat.le_refl _) _ _ _ _ _)
theorem zu0(s:ByteArray)(i:Nat)(R:OneR)(w:World)(_hs:s.size≤100000)(_hi:i<s.size)(D:Int)(tx:ByteArray)(Zm:s.extract i (i+10)=tx)(hR:R=.yes ⟨4,bsL [],bsL [],D,0⟩ 10)(hl:i+10≤s.size)(ZQ:Hid (∀W,Calls Tryz.prog 141 #[.string s,.int .i64 (i:Int)] W (RetI W 2)))(Yx:Hid (∀W,Calls Tryz.prog 143 #[.string (s.extract i s.size)] W (zh0 W true)))(XG:Hid (∀W,Calls Tryz.prog 144 #[.string s,.int .i64 ((i:Int)+10)] W (RetB W true)))(HP:Hid (∀W,Calls Tryz.prog 145 #[.string tx] W fun e w'=>e=.returned (.tuple #[.int .i64 D,.int .i64 0])∧Below W.heap.size W w')):Calls Tryz.prog 84 #[.string s,.int .i64 (i:Int)] w (za5 w i R):=by
 have HR:=Z9 hR;have HTX:=Z9 Zm;clear hR Zm;have Y2:(w.alloc (.cells #[.int .u8 0,.string ⟨#[]⟩,.string ⟨#[]⟩,.int .i64 0,.int .i64 (i:Int)] 100)).heap[w.heap.size]?=some (.cells #[.int .u8 0,.string ⟨#[]⟩,.string ⟨#[]⟩,.int .i64 0,.int .i64 (i:Int)] 100):=World.alloc_heap_new w _;have Zv:Below w.heap.size w (w.alloc (.cells #[.int .u8 0,.string ⟨#[]⟩,.string ⟨#[]⟩,.int .i64 0,.int .i64 (i:Int)] 100)):=zaa w _;have HG0:=Z9 Y2;have HB0:=Z9 Zv;clear Y2 Zv;go_enter Tryz.func84,Tryz.ntmps84;go_wp2_with fail;refine(ZQ.out _).mono ?_;rintro e w' ⟨rfl,rfl⟩;go_wp2_with fail;refine(Yx.out _).mono ?_;rintro e w1 ⟨rfl,b1⟩
 have hg:w1.heap[w.heap.size]?=some (.cells #[.int .u8 0,.string ⟨#[]⟩,.string ⟨#[]⟩,.int .i64 0,.int .i64 (i:Int)] 100):=by rw[b1.block _ (by simp)];exact HG0.out
 have ZW:Below w.heap.size w w1:=HB0.out.trans (b1.mono HB0.out.size);obtain⟨c0,c1,c2,c3,c4,fz⟩:=zcs hg;have ZO:w.heap.size<w1.heap.size:=by have:=b1.size;simp at this;omega
 have HG:=Z9 hg;have HBEL:=Z9 ZW;clear hg ZW b1;go_wp2_with fail;refine(XG.out _).mono ?_;rintro e w' ⟨rfl,rfl⟩;go_wp2_with fail;rw[HTX.out];refine(HP.out _).mono ?_;rintro e w3 ⟨rfl,b3⟩
 have Zk:w3.heap[w.heap.size]?=some (.cells #[.int .u8 4,.string ⟨#[]⟩,.string ⟨#[]⟩,.int .i64 0,.int .i64 (i:Int)] 100):=by
  rw[b3.block _ (by show _<(w1.setCell _ _).heap.size;simp;exact ZO)];exact put0 HG.out _
 have Zw:Below w.heap.size w w3:=(HBEL.out.setCell (p:=⟨w.heap.size,0,none⟩) (Nat.le_refl _) _).trans (b3.mono (by simp;omega));obtain⟨d0,d1,d2,d3,d4,fz3⟩:=zcs Zk;have HG3:=Z9 Zk;have Zx:=Z9 Zw;clear Zk Zw b3 c0 c1 c2 c3 c4 fz;go_wp2_with fail;refine bodyPost_ret (zat rfl _ _ w.heap.size 100 _ _ rfl (zch (put3 HG3.out _) _ _ _ _ _) Tryz.underlying100 rfl rfl) rfl ?_
 show za5 _ _ _ _ _
 rw[HR.out];exact zc1 (by omega) (zbk (Zx.out.setCell (p:=⟨w.heap.size,3,none⟩) (Nat.le_refl _) _) (Nat.le_refl _) _ _ _ _ _)
theorem zrb(s:ByteArray)(i:Nat)(R:OneR)(w:World)(_hs:s.size≤100000)(_hi:i<s.size)(tx:ByteArray)(Zm:s.extract i (i+10)=tx)(hR:R=.no 40)(hl:i+10≤s.size)(ZQ:Hid (∀W,Calls Tryz.prog 141 #[.string s,.int .i64 (i:Int)] W (RetI W 2)))(Yx:Hid (∀W,Calls Tryz.prog 143 #[.string (s.extract i s.size)] W (zh0 W true)))(XG:Hid (∀W,Calls Tryz.prog 144 #[.string s,.int .i64 ((i:Int)+10)] W (RetB W true)))(HP:Hid (∀W,Calls Tryz.prog 145 #[.string tx] W (zdq W))):Calls Tryz.prog 84 #[.string s,.int .i64 (i:Int)] w (za5 w i R):=by
 have HR:=Z9 hR;have HTX:=Z9 Zm;clear hR Zm;have Y2:(w.alloc (.cells #[.int .u8 0,.string ⟨#[]⟩,.string ⟨#[]⟩,.int .i64 0,.int .i64 (i:Int)] 100)).heap[w.heap.size]?=some (.cells #[.int .u8 0,.string ⟨#[]⟩,.string ⟨#[]⟩,.int .i64 0,.int .i64 (i:Int)] 100):=World.alloc_heap_new w _;have Zv:Below w.heap.size w (w.alloc (.cells #[.int .u8 0,.string ⟨#[]⟩,.string ⟨#[]⟩,.int .i64 0,.int .i64 (i:Int)] 100)):=zaa w _;have HG0:=Z9 Y2;have HB0:=Z9 Zv;clear Y2 Zv;go_enter Tryz.func84,Tryz.ntmps84;go_wp2_with fail;refine(ZQ.out _).mono ?_;rintro e w' ⟨rfl,rfl⟩;go_wp2_with fail;refine(Yx.out _).mono ?_;rintro e w1 ⟨rfl,b1⟩
 have hg:w1.heap[w.heap.size]?=some (.cells #[.int .u8 0,.string ⟨#[]⟩,.string ⟨#[]⟩,.int .i64 0,.int .i64 (i:Int)] 100):=by rw[b1.block _ (by simp)];exact HG0.out
 have ZW:Below w.heap.size w w1:=HB0.out.trans (b1.mono HB0.out.size);obtain⟨c0,c1,c2,c3,c4,fz⟩:=zcs hg;have ZO:w.heap.size<w1.heap.size:=by have:=b1.size;simp at this;omega
 have HG:=Z9 hg;have HBEL:=Z9 ZW;clear hg ZW b1;go_wp2_with fail;refine(XG.out _).mono ?_;rintro e w' ⟨rfl,rfl⟩;go_wp2_with fail;rw[HTX.out];refine(HP.out _).mono ?_;rintro e w3 ⟨q,hq,rfl,b3⟩
 have Zk:w3.heap[w.heap.size]?=some (.cells #[.int .u8 4,.string ⟨#[]⟩,.string ⟨#[]⟩,.int .i64 0,.int .i64 (i:Int)] 100):=by
  rw[b3.block _ (by show _<(w1.setCell _ _).heap.size;simp;exact ZO)];exact put0 HG.out _
 have Zw:Below w.heap.size w w3:=(HBEL.out.setCell (p:=⟨w.heap.size,0,none⟩) (Nat.le_refl _) _).trans (b3.mono (by simp;omega));obtain⟨d0,d1,d2,d3,d4,fz3⟩:=zcs Zk;have HG3:=Z9 Zk;have Zx:=Z9 Zw;clear Zk Zw b3 c0 c1 c2 c3 c4 fz;have tq:(q != 0)=true:=by simp;omega
 have HQ:=Z9 hq;clear hq;go_wp2_with fail;refine bodyPost_ret (zat rfl _ _ w.heap.size 100 _ _ rfl (zch (put3 HG3.out _) _ _ _ _ _) Tryz.underlying100 rfl rfl) rfl ?_
 show za5 _ _ _ _ _
 rw[HR.out];exact zc8 (zbk (Zx.out.setCell (p:=⟨w.heap.size,3,none⟩) (Nat.le_refl _) _) (Nat.le_refl _) _ _ _ _ _)
theorem zpg(s:ByteArray)(i:Nat)(R:OneR)(w:World)(_hs:s.size≤100000)(_hi:i<s.size)(rt:ByteArray)(n:Nat)(hR:R=.yes ⟨3,bsL [],rt,0,0⟩ n)(ZQ:Hid (∀W,Calls Tryz.prog 141 #[.string s,.int .i64 (i:Int)] W (RetI W 2)))(Yx:Hid (∀W,Calls Tryz.prog 143 #[.string (s.extract i s.size)] W (zh0 W false)))(HN:Hid (∀W,Calls Tryz.prog 146 #[.string s,.int .i64 (i:Int)] W (zc2 W i (.yes ⟨3,bsL [],rt,0,0⟩ n)))):Calls Tryz.prog 84 #[.string s,.int .i64 (i:Int)] w (za5 w i R):=by
 have HR:=Z9 hR;clear hR;have Y2:(w.alloc (.cells #[.int .u8 0,.string ⟨#[]⟩,.string ⟨#[]⟩,.int .i64 0,.int .i64 (i:Int)] 100)).heap[w.heap.size]?=some (.cells #[.int .u8 0,.string ⟨#[]⟩,.string ⟨#[]⟩,.int .i64 0,.int .i64 (i:Int)] 100):=World.alloc_heap_new w _;have Zv:Below w.heap.size w (w.alloc (.cells #[.int .u8 0,.string ⟨#[]⟩,.string ⟨#[]⟩,.int .i64 0,.int .i64 (i:Int)] 100)):=zaa w _;have HG0:=Z9 Y2;have HB0:=Z9 Zv;clear Y2 Zv;go_enter Tryz.func84,Tryz.ntmps84;go_wp2_with fail;refine(ZQ.out _).mono ?_;rintro e w' ⟨rfl,rfl⟩;go_wp2_with fail;refine(Yx.out _).mono ?_;rintro e w1 ⟨rfl,b1⟩;have hg:w1.heap[w.heap.size]?=some (.cells #[.int .u8 0,.string ⟨#[]⟩,.string ⟨#[]⟩,.int .i64 0,.int .i64 (i:Int)] 100):=by rw[b1.block _ (by simp)];exact HG0.out
 have ZW:Below w.heap.size w w1:=HB0.out.trans (b1.mono HB0.out.size);obtain⟨c0,c1,c2,c3,c4,fz⟩:=zcs hg;have ZO:w.heap.size<w1.heap.size:=by have:=b1.size;simp at this;omega
 have HG:=Z9 hg;have HBEL:=Z9 ZW;clear hg ZW b1;go_wp2_with fail;refine(HN.out _).mono ?_;rintro e w3 ⟨rfl,b3⟩
 have Zk:w3.heap[w.heap.size]?=some (.cells #[.int .u8 3,.string ⟨#[]⟩,.string ⟨#[]⟩,.int .i64 0,.int .i64 (i:Int)] 100):=by
  rw[b3.block _ (by show _<(w1.setCell _ _).heap.size;simp;exact ZO)];exact put0 HG.out _
 have Zw:Below w.heap.size w w3:=(HBEL.out.setCell (p:=⟨w.heap.size,0,none⟩) (Nat.le_refl _) _).trans (b3.mono (by simp;omega));obtain⟨d0,d1,d2,d3,d4,fz3⟩:=zcs Zk;have HG3:=Z9 Zk;have Zx:=Z9 Zw;clear Zk Zw b3 c0 c1 c2 c3 c4 fz;go_wp2_with fail;refine bodyPost_ret (zat rfl _ _ w.heap.size 100 _ _ rfl (zch (put2 HG3.out _) _ _ _ _ _) Tryz.underlying100 rfl rfl) rfl ?_
 show za5 _ _ _ _ _
 rw[HR.out];exact zc1 rfl (zbk (Zx.out.setCell (p:=⟨w.heap.size,2,none⟩) (Nat.le_refl _) _) (Nat.le_refl _) _ _ _ _ _)
theorem zph(s:ByteArray)(i:Nat)(R:OneR)(w:World)(_hs:s.size≤100000)(_hi:i<s.size)(er:Int)(hR:R=.no er)(ZQ:Hid (∀W,Calls Tryz.prog 141 #[.string s,.int .i64 (i:Int)] W (RetI W 2)))(Yx:Hid (∀W,Calls Tryz.prog 143 #[.string (s.extract i s.size)] W (zh0 W false)))(HN:Hid (∀W,Calls Tryz.prog 146 #[.string s,.int .i64 (i:Int)] W (zc2 W i (.no er)))):Calls Tryz.prog 84 #[.string s,.int .i64 (i:Int)] w (za5 w i R):=by
 have HR:=Z9 hR;clear hR;have Y2:(w.alloc (.cells #[.int .u8 0,.string ⟨#[]⟩,.string ⟨#[]⟩,.int .i64 0,.int .i64 (i:Int)] 100)).heap[w.heap.size]?=some (.cells #[.int .u8 0,.string ⟨#[]⟩,.string ⟨#[]⟩,.int .i64 0,.int .i64 (i:Int)] 100):=World.alloc_heap_new w _;have Zv:Below w.heap.size w (w.alloc (.cells #[.int .u8 0,.string ⟨#[]⟩,.string ⟨#[]⟩,.int .i64 0,.int .i64 (i:Int)] 100)):=zaa w _;have HG0:=Z9 Y2;have HB0:=Z9 Zv;clear Y2 Zv;go_enter Tryz.func84,Tryz.ntmps84;go_wp2_with fail;refine(ZQ.out _).mono ?_;rintro e w' ⟨rfl,rfl⟩;go_wp2_with fail;refine(Yx.out _).mono ?_;rintro e w1 ⟨rfl,b1⟩;have hg:w1.heap[w.heap.size]?=some (.cells #[.int .u8 0,.string ⟨#[]⟩,.string ⟨#[]⟩,.int .i64 0,.int .i64 (i:Int)] 100):=by rw[b1.block _ (by simp)];exact HG0.out
 have ZW:Below w.heap.size w w1:=HB0.out.trans (b1.mono HB0.out.size);obtain⟨c0,c1,c2,c3,c4,fz⟩:=zcs hg;have ZO:w.heap.size<w1.heap.size:=by have:=b1.size;simp at this;omega
 have HG:=Z9 hg;have HBEL:=Z9 ZW;clear hg ZW b1;go_wp2_with fail;refine(HN.out _).mono ?_;rintro e w3 ⟨⟨rt,en,rfl⟩,b3⟩
 have Zk:w3.heap[w.heap.size]?=some (.cells #[.int .u8 3,.string ⟨#[]⟩,.string ⟨#[]⟩,.int .i64 0,.int .i64 (i:Int)] 100):=by
  rw[b3.block _ (by show _<(w1.setCell _ _).heap.size;simp;exact ZO)];exact put0 HG.out _
 have Zw:Below w.heap.size w w3:=(HBEL.out.setCell (p:=⟨w.heap.size,0,none⟩) (Nat.le_refl _) _).trans (b3.mono (by simp;omega));obtain⟨d0,d1,d2,d3,d4,fz3⟩:=zcs Zk;have HG3:=Z9 Zk;have Zx:=Z9 Zw;clear Zk Zw b3 c0 c1 c2 c3 c4 fz;go_wp2_with fail;refine bodyPost_ret (zat rfl _ _ w.heap.size 100 _ _ rfl (zch (put2 HG3.out _) _ _ _ _ _) Tryz.underlying100 rfl rfl) rfl ?_
 show za5 _ _ _ _ _
 rw[HR.out];exact zc8 (zbk (Zx.out.setCell (p:=⟨w.heap.size,2,none⟩) (Nat.le_refl _) _) (Nat.le_refl _) _ _ _ _ _)
theorem zpe(s:ByteArray)(i:Nat)(R:OneR)(w:World)(_hs:s.size≤100000)(_hi:i<s.size)(rt:ByteArray)(n:Nat)(hR:R=.yes ⟨3,bsL [],rt,0,0⟩ n)(t45:((s[i].toNat:Int) == 45)=true)(ZQ:Hid (∀W,Calls Tryz.prog 141 #[.string s,.int .i64 (i:Int)] W (RetI W 4)))(X5:Hid (∀W,Calls Tryz.prog 141 #[.string s,.int .i64 ((i:Int)+1)] W (RetI W 2)))(HN:Hid (∀W,Calls Tryz.prog 146 #[.string s,.int .i64 (i:Int)] W (zc2 W i (.yes ⟨3,bsL [],rt,0,0⟩ n)))):Calls Tryz.prog 84 #[.string s,.int .i64 (i:Int)] w (za5 w i R):=by
 have HR:=Z9 hR;clear hR;have Y2:(w.alloc (.cells #[.int .u8 0,.string ⟨#[]⟩,.string ⟨#[]⟩,.int .i64 0,.int .i64 (i:Int)] 100)).heap[w.heap.size]?=some (.cells #[.int .u8 0,.string ⟨#[]⟩,.string ⟨#[]⟩,.int .i64 0,.int .i64 (i:Int)] 100):=World.alloc_heap_new w _;have Zv:Below w.heap.size w (w.alloc (.cells #[.int .u8 0,.string ⟨#[]⟩,.string ⟨#[]⟩,.int .i64 0,.int .i64 (i:Int)] 100)):=zaa w _;have HG0:=Z9 Y2;have HB0:=Z9 Zv;clear Y2 Zv;go_enter Tryz.func84,Tryz.ntmps84;go_wp2_with fail;refine(ZQ.out _).mono ?_;rintro e w' ⟨rfl,rfl⟩;obtain⟨W2,ZU⟩:∃W2,W2=(w.alloc (.cells #[.int .u8 0,.string ⟨#[]⟩,.string ⟨#[]⟩,.int .i64 0,.int .i64 (i:Int)] 100)):=⟨_,rfl⟩
 have hg:W2.heap[w.heap.size]?=some (.cells #[.int .u8 0,.string ⟨#[]⟩,.string ⟨#[]⟩,.int .i64 0,.int .i64 (i:Int)] 100):=by rw[ZU];exact World.alloc_heap_new w _
 have ZW:Below w.heap.size w W2:=by rw[ZU];exact zaa w _
 rw[←ZU];obtain⟨c0,c1,c2,c3,c4,fz⟩:=zcs hg;have HG:=Z9 hg;have HBEL:=Z9 ZW;have ZO:w.heap.size<W2.heap.size:=(Z8 hg);clear ZU hg ZW;go_wp2_with fail;refine(X5.out _).mono ?_;rintro e w' ⟨rfl,rfl⟩;go_wp2_with fail;refine(HN.out _).mono ?_;rintro e w3 ⟨rfl,b3⟩
 have Zk:w3.heap[w.heap.size]?=some (.cells #[.int .u8 3,.string ⟨#[]⟩,.string ⟨#[]⟩,.int .i64 0,.int .i64 (i:Int)] 100):=by
  rw[b3.block _ (by show _<(W2.setCell _ _).heap.size;simp;exact ZO)];exact put0 HG.out _
 have Zw:Below w.heap.size w w3:=(HBEL.out.setCell (p:=⟨w.heap.size,0,none⟩) (Nat.le_refl _) _).trans (b3.mono (by simp;omega));obtain⟨d0,d1,d2,d3,d4,fz3⟩:=zcs Zk;have HG3:=Z9 Zk;have Zx:=Z9 Zw;clear Zk Zw b3 c0 c1 c2 c3 c4 fz;go_wp2_with fail;refine bodyPost_ret (zat rfl _ _ w.heap.size 100 _ _ rfl (zch (put2 HG3.out _) _ _ _ _ _) Tryz.underlying100 rfl rfl) rfl ?_
 show za5 _ _ _ _ _
 rw[HR.out];exact zc1 rfl (zbk (Zx.out.setCell (p:=⟨w.heap.size,2,none⟩) (Nat.le_refl _) _) (Nat.le_refl _) _ _ _ _ _)
theorem zpf(s:ByteArray)(i:Nat)(R:OneR)(w:World)(_hs:s.size≤100000)(_hi:i<s.size)(er:Int)(hR:R=.no er)(t45:((s[i].toNat:Int) == 45)=true)(ZQ:Hid (∀W,Calls Tryz.prog 141 #[.string s,.int .i64 (i:Int)] W (RetI W 4)))(X5:Hid (∀W,Calls Tryz.prog 141 #[.string s,.int .i64 ((i:Int)+1)] W (RetI W 2)))(HN:Hid (∀W,Calls Tryz.prog 146 #[.string s,.int .i64 (i:Int)] W (zc2 W i (.no er)))):Calls Tryz.prog 84 #[.string s,.int .i64 (i:Int)] w (za5 w i R):=by
 have HR:=Z9 hR;clear hR;have Y2:(w.alloc (.cells #[.int .u8 0,.string ⟨#[]⟩,.string ⟨#[]⟩,.int .i64 0,.int .i64 (i:Int)] 100)).heap[w.heap.size]?=some (.cells #[.int .u8 0,.string ⟨#[]⟩,.string ⟨#[]⟩,.int .i64 0,.int .i64 (i:Int)] 100):=World.alloc_heap_new w _;have Zv:Below w.heap.size w (w.alloc (.cells #[.int .u8 0,.string ⟨#[]⟩,.string ⟨#[]⟩,.int .i64 0,.int .i64 (i:Int)] 100)):=zaa w _;have HG0:=Z9 Y2;have HB0:=Z9 Zv;clear Y2 Zv;go_enter Tryz.func84,Tryz.ntmps84;go_wp2_with fail;refine(ZQ.out _).mono ?_;rintro e w' ⟨rfl,rfl⟩;obtain⟨W2,ZU⟩:∃W2,W2=(w.alloc (.cells #[.int .u8 0,.string ⟨#[]⟩,.string ⟨#[]⟩,.int .i64 0,.int .i64 (i:Int)] 100)):=⟨_,rfl⟩
 have hg:W2.heap[w.heap.size]?=some (.cells #[.int .u8 0,.string ⟨#[]⟩,.string ⟨#[]⟩,.int .i64 0,.int .i64 (i:Int)] 100):=by rw[ZU];exact World.alloc_heap_new w _
 have ZW:Below w.heap.size w W2:=by rw[ZU];exact zaa w _
 rw[←ZU];obtain⟨c0,c1,c2,c3,c4,fz⟩:=zcs hg;have HG:=Z9 hg;have HBEL:=Z9 ZW;have ZO:w.heap.size<W2.heap.size:=(Z8 hg);clear ZU hg ZW;go_wp2_with fail;refine(X5.out _).mono ?_;rintro e w' ⟨rfl,rfl⟩;go_wp2_with fail;refine(HN.out _).mono ?_;rintro e w3 ⟨⟨rt,en,rfl⟩,b3⟩
 have Zk:w3.heap[w.heap.size]?=some (.cells #[.int .u8 3,.string ⟨#[]⟩,.string ⟨#[]⟩,.int .i64 0,.int .i64 (i:Int)] 100):=by
  rw[b3.block _ (by show _<(W2.setCell _ _).heap.size;simp;exact ZO)];exact put0 HG.out _
 have Zw:Below w.heap.size w w3:=(HBEL.out.setCell (p:=⟨w.heap.size,0,none⟩) (Nat.le_refl _) _).trans (b3.mono (by simp;omega));obtain⟨d0,d1,d2,d3,d4,fz3⟩:=zcs Zk;have HG3:=Z9 Zk;have Zx:=Z9 Zw;clear Zk Zw b3 c0 c1 c2 c3 c4 fz;go_wp2_with fail;refine bodyPost_ret (zat rfl _ _ w.heap.size 100 _ _ rfl (zch (put2 HG3.out _) _ _ _ _ _) Tryz.underlying100 rfl rfl) rfl ?_
 show za5 _ _ _ _ _
 rw[HR.out];exact zc8 (zbk (Zx.out.setCell (p:=⟨w.heap.size,2,none⟩) (Nat.le_refl _) _) (Nat.le_refl _) _ _ _ _ _)
theorem z3m(s:ByteArray)(i:Nat)(R:OneR)(w:World)(_hs:s.size≤100000)(_hi:i<s.size)(tx:ByteArray)(Zm:s.extract i (i+1)=tx)(hR:R=.yes ⟨5,tx,bsL [],0,0⟩ 1)(t45:((s[i].toNat:Int) == 45)=false)(ZQ:Hid (∀W,Calls Tryz.prog 141 #[.string s,.int .i64 (i:Int)] W (RetI W 5))):Calls Tryz.prog 84 #[.string s,.int .i64 (i:Int)] w (za5 w i R):=by
 have HR:=Z9 hR;have HTX:=Z9 Zm;clear hR Zm;go_enter Tryz.func84,Tryz.ntmps84;go_wp2_with fail;refine(ZQ.out _).mono ?_;rintro e w' ⟨rfl,rfl⟩;obtain⟨W2,ZU⟩:∃W2,W2=(w.alloc (.cells #[.int .u8 0,.string ⟨#[]⟩,.string ⟨#[]⟩,.int .i64 0,.int .i64 (i:Int)] 100)):=⟨_,rfl⟩
 have hg:W2.heap[w.heap.size]?=some (.cells #[.int .u8 0,.string ⟨#[]⟩,.string ⟨#[]⟩,.int .i64 0,.int .i64 (i:Int)] 100):=by rw[ZU];exact World.alloc_heap_new w _
 have ZW:Below w.heap.size w W2:=by rw[ZU];exact zaa w _
 rw[←ZU];obtain⟨c0,c1,c2,c3,c4,fz⟩:=zcs hg;have HG:=Z9 hg;have HBEL:=Z9 ZW;clear ZU hg ZW;go_wp2_with fail;go_region;rw[HTX.out];go_wp2_with fail;refine bodyPost_ret (zat rfl _ _ w.heap.size 100 _ _ rfl (zgj (zx4 HG.out _ _) _ _ _ _ _) Tryz.underlying100 rfl rfl) rfl ?_
 show za5 _ _ _ _ _
 rw[HR.out];exact zc1 (by omega) (zbk ((HBEL.out.setCell (p:=⟨w.heap.size,0,none⟩) (Nat.le_refl _) _).setCell (p:=⟨w.heap.size,1,none⟩) (Nat.le_refl _) _) (Nat.le_refl _) _ _ _ _ _).drew
theorem zyl(s:ByteArray)(i:Nat)(R:OneR)(w:World)(_hs:s.size≤100000)(_hi:i<s.size)(tx:ByteArray)(Zm:s.extract i (i+1)=tx)(hR:R=.yes ⟨5,tx,bsL [],0,0⟩ 1)(a2:Int)(ta:(a2 == 2)=false)(t45:((s[i].toNat:Int) == 45)=true)(ZQ:Hid (∀W,Calls Tryz.prog 141 #[.string s,.int .i64 (i:Int)] W (RetI W 4)))(X5:Hid (∀W,Calls Tryz.prog 141 #[.string s,.int .i64 ((i:Int)+1)] W (RetI W a2))):Calls Tryz.prog 84 #[.string s,.int .i64 (i:Int)] w (za5 w i R):=by
 have HR:=Z9 hR;have HTX:=Z9 Zm;clear hR Zm;go_enter Tryz.func84,Tryz.ntmps84;go_wp2_with fail;refine(ZQ.out _).mono ?_;rintro e w' ⟨rfl,rfl⟩;obtain⟨W2,ZU⟩:∃W2,W2=(w.alloc (.cells #[.int .u8 0,.string ⟨#[]⟩,.string ⟨#[]⟩,.int .i64 0,.int .i64 (i:Int)] 100)):=⟨_,rfl⟩
 have hg:W2.heap[w.heap.size]?=some (.cells #[.int .u8 0,.string ⟨#[]⟩,.string ⟨#[]⟩,.int .i64 0,.int .i64 (i:Int)] 100):=by rw[ZU];exact World.alloc_heap_new w _
 have ZW:Below w.heap.size w W2:=by rw[ZU];exact zaa w _
 rw[←ZU];obtain⟨c0,c1,c2,c3,c4,fz⟩:=zcs hg;have HG:=Z9 hg;have HBEL:=Z9 ZW;clear ZU hg ZW;go_wp2_with fail;refine(X5.out _).mono ?_;rintro e w' ⟨rfl,rfl⟩;go_wp2_with fail;go_region;rw[HTX.out];go_wp2_with fail;refine bodyPost_ret (zat rfl _ _ w.heap.size 100 _ _ rfl (zgj (zx4 HG.out _ _) _ _ _ _ _) Tryz.underlying100 rfl rfl) rfl ?_
 show za5 _ _ _ _ _
 rw[HR.out];exact zc1 (by omega) (zbk ((HBEL.out.setCell (p:=⟨w.heap.size,0,none⟩) (Nat.le_refl _) _).setCell (p:=⟨w.heap.size,1,none⟩) (Nat.le_refl _) _) (Nat.le_refl _) _ _ _ _ _).drew
theorem z3l(s:ByteArray)(i:Nat)(R:OneR)(w:World)(_hs:s.size≤100000)(_hi:i<s.size)(C:Int)(hR:R=.no 12)(t45:((s[i].toNat:Int) == 45)=false)(k2:(C == 2)=false)(k3:(C == 3)=false)(k5:(C == 5)=false)(k6:(C == 6)=false)(ZQ:Hid (∀W,Calls Tryz.prog 141 #[.string s,.int .i64 (i:Int)] W (RetI W C))):Calls Tryz.prog 84 #[.string s,.int .i64 (i:Int)] w (za5 w i R):=by
 have HR:=Z9 hR;clear hR;go_enter Tryz.func84,Tryz.ntmps84;go_wp2_with fail;refine(ZQ.out _).mono ?_;rintro e w' ⟨rfl,rfl⟩;obtain⟨W2,ZU⟩:∃W2,W2=(w.alloc (.cells #[.int .u8 0,.string ⟨#[]⟩,.string ⟨#[]⟩,.int .i64 0,.int .i64 (i:Int)] 100)):=⟨_,rfl⟩
 have hg:W2.heap[w.heap.size]?=some (.cells #[.int .u8 0,.string ⟨#[]⟩,.string ⟨#[]⟩,.int .i64 0,.int .i64 (i:Int)] 100):=by rw[ZU];exact World.alloc_heap_new w _
 have ZW:Below w.heap.size w W2:=by rw[ZU];exact zaa w _
 rw[←ZU];obtain⟨c0,c1,c2,c3,c4,fz⟩:=zcs hg;have HG:=Z9 hg;have HBEL:=Z9 ZW;clear ZU hg ZW;go_wp2_with fail;refine bodyPost_ret (zat rfl _ _ w.heap.size 100 _ _ rfl (zch (HG.out) _ _ _ _ _) Tryz.underlying100 rfl rfl) rfl ?_
 show za5 _ _ _ _ _
 rw[HR.out];exact zc8 (zbk (HBEL.out) (Nat.le_refl _) _ _ _ _ _)
theorem z99(l:List UInt8):Lib.indexByte l 34=if spn (fun x=>decide (x.toNat≠34)) l<l.length then(spn (fun x=>decide (x.toNat≠34)) l:Int)else -1:=by
 obtain⟨p,hp⟩:∃p:UInt8→Bool,p=fun x=>decide (x.toNat≠34):=⟨_,rfl⟩
 rw[←hp]
 have T6:∀c:UInt8,p c=true↔c.toNat≠34:=fun c=>by rw[hp];simp
 clear hp
 induction l with
 |nil=>rfl
 |cons c l ih =>
  unfold Lib.indexByte
  by_cases h:c.toNat=34
  ·have e:c=34:=by rw[←UInt8.toNat_inj];exact h
   have e2:spn p (c :: l)=0:=by unfold spn;rw[if_neg (fun a=>(T6 c).1 a h)]
   rw[e2,if_pos (by rw[e];rfl),if_pos (by simp)];rfl
  ·have e2:spn p (c :: l)=spn p l+1:=by
    show(if p c=true then spn p l+1 else 0)=_
    rw[if_pos ((T6 c).2 h)]
   have e3:¬(c == 34)=true:=fun a=>h (by rw[beq_iff_eq.1 a];rfl)
   rw[e2,if_neg e3,ih,List.length_cons]
   by_cases h2:spn p l<l.length
   ·have e4:¬(((spn p l:Nat):Int) == -1)=true:=fun a=>by have:=beq_iff_eq.1 a;omega
    rw[if_pos h2,if_neg e4,if_pos (by omega)];omega
   ·rw[if_neg h2,if_pos (by decide),if_neg (by omega)]
theorem zth{l:List UInt8}{t:Tk}{n:Nat}(h:numK l=.yes t n):t=⟨3,bsL [],t.rat,0,0⟩:=by
 have key:∀{neg:Bool}{front back:List UInt8}{mk:Nat}{ended:Bool}{m:Nat},numO neg front mk back ended m=.yes t n→t=⟨3,bsL [],t.rat,0,0⟩:=by
  intro neg front back mk ended m h;unfold numO at h
  split at h
  ·cases h
  ·split at h
   ·cases h
   ·injection h with h _;rw[←h]
 unfold numK at h;dsimp only at h
 split at h
 ·exact key h
 ·exact key h
theorem z3v{l:List UInt8}{e:Int}(h:numK l=.no e):(e != 0)=true:=by
 have key:∀{neg:Bool}{front back:List UInt8}{mk:Nat}{ended:Bool}{m:Nat},numO neg front mk back ended m=.no e→(e != 0)=true:=by
  intro neg front back mk ended m h;unfold numO at h
  split at h
  ·injection h with h;subst h;rfl
  ·split at h
   ·injection h with h;subst h;rfl
   ·cases h
 unfold numK at h;dsimp only at h
 split at h
 ·exact key h
 ·exact key h
theorem z9f(s:ByteArray)(i:Nat)(w:World)(hs:s.size≤100000)(hi:i<s.size):Calls Tryz.prog 84 #[.string s,.int .i64 (i:Int)] w (za5 w i (oneL (s.data.toList.drop i))):=by
 have WJ:=zcv s i hi;obtain⟨r,hr⟩:∃r,r=s.data.toList.drop (i+1):=⟨_,rfl⟩
 rw[←hr]at WJ;have hrl:r.length=s.size-(i+1):=by rw[hr,List.length_drop,zab]
 have ZQ:Hid (∀W,Calls Tryz.prog 141 #[.string s,.int .i64 (i:Int)] W (RetI W (zac s[i]))):=fun W=>by rw[←zzd hi];exact zk6 s i W
 have X5:Hid (∀W,Calls Tryz.prog 141 #[.string s,.int .i64 ((i:Int)+1)] W (RetI W (atN r))):=fun W=>by
  rw[show((i:Int)+1)=((i+1:Nat):Int)by omega,hr];exact zk6 s (i+1) W
 obtain⟨p2,p3,p4,p6,p1,p7,p5⟩:=zdj s[i];obtain⟨C,hC⟩:∃C,C=zac s[i]:=⟨_,rfl⟩
 rw[←hC]at ZQ p2 p3 p4 p6 p1 p7 p5
 have extL:∀a b:Nat,i≤a→(s.extract a b)=bsL (((s[i] :: r).drop (a-i)).take (b-a)):=fun a b h=>Go.WideShapes.bytes_inj (by
  rw[ze1,←WJ,List.drop_drop,show i+(a-i)=a by omega];rfl)
 have hmin:∀b,((s[i].toNat:Int) == 45)=b↔(decide (s[i].toNat=45))=b:=fun b=>by
  have:((s[i].toNat:Int) == 45)=decide (s[i].toNat=45):=by rw[Bool.eq_iff_iff];simp;omega
  rw[this]
 have HDYg:∀v,dayQ (s[i] :: r)=v→Hid (∀W,Calls Tryz.prog 143 #[.string (s.extract i s.size)] W (zh0 W v)):=fun v hv W=>by
  have:=yam (s.extract i s.size) W (by simp;omega);rw[ze1,List.take_of_length_le (by rw[List.length_drop,zab];exact Nat.le_refl _),WJ,hv]at this;exact this
 rw[WJ]
 rcases zfg s[i] r with w1 |w1 |w1 |⟨w1,v1⟩ |⟨w1,v1⟩ |⟨w1,w2,w3,w4⟩
 ·-- a word
  have hC3:=p3.2 w1;rw[hC3]at ZQ;have Xh:=zeg wdQ r;have hw:wdQ s[i]=true:=by unfold wdQ;rw[w1];rfl
  have hsp2:spn wdQ (s.data.toList.drop i)=spn wdQ r+1:=by rw[WJ];show(if wdQ s[i]=true then spn wdQ r+1 else 0)=_;rw[if_pos hw]
  have Vd:Hid (∀W:World,Calls Tryz.prog 140 #[.string s,.int .i64 (i:Int),.slice (some ⟨W.heap.size,0,none⟩) 3 3] (W.alloc (.cells #[.int .i64 3,.int .i64 2,.int .i64 4] 3)) (RetI (W.alloc (.cells #[.int .i64 3,.int .i64 2,.int .i64 4] 3)) ((i+(spn wdQ r+1):Nat):Int))):=fun W=>by
   have:=zv0 s i (by omega) (by omega) W;rw[hsp2]at this;exact this
  have Zm:s.extract i (i+(spn wdQ r+1))=bsL ((s[i] :: r).take (spn wdQ r+1)):=by
   rw[extL _ _ (Nat.le_refl _)];congr 1;rw[Nat.sub_self,Nat.add_sub_cancel_left];rfl
  have ZS:(bsL ((s[i] :: r).take (spn wdQ r+1))).size=spn wdQ r+1:=by rw[←zab];show((s[i] :: r).take _).length=_;simp;omega
  rw[zdd w1]
  by_cases UD:40<spn wdQ r+1
  ·rw[if_pos UD]
   exact zyi s i _ w _ _ (by omega) (by omega) Zm (by rw[ZS];simp;omega) rfl ZQ Vd
  ·rw[if_neg UD]
   exact zyj s i _ w _ _ (by omega) (by omega) Zm (by rw[ZS];simp;omega) (by congr 1;omega) ZQ Vd
 ·-- a quote
  have hC6:=p6.2 w1;rw[hC6]at ZQ;have TN:=z99 r
  obtain⟨k,hk⟩:∃k,k=spn (fun x=>decide (x.toNat≠34)) r:=⟨_,rfl⟩
  rw[zcn w1,←hk];rw[←hk]at TN
  have Xu:Hid (∀W,Calls Tryz.prog 142 #[.string (s.extract (i+1) s.size),.int .u8 34] W fun e w'=>e=.returned (.int .i64 (if k<r.length then(k:Int)else -1))∧W=w'):=fun W=>by
   have:=Tryz.strings_IndexByte (s.extract (i+1) s.size) 34 W;rw[ze1,List.take_of_length_le (by rw[List.length_drop,zab];exact Nat.le_refl _),←hr]at this
   refine this.mono fun e w' ⟨a,b⟩=>⟨?_,b.symm⟩
   rw[a,←TN];rfl
  by_cases h1:k<r.length
  ·rw[if_pos h1]at Xu
   have Zm:s.extract (i+1) (i+1+k)=bsL (r.take k):=by
    rw[extL _ _ (by omega)];congr 1;rw[show i+1-i=1 by omega,Nat.add_sub_cancel_left];rfl
   have Zd:∀b,nmB (r.take k)=b→Hid (∀W,Calls Tryz.prog 51 #[.string (bsL (r.take k))] W (RetB W b)):=fun b hb W=>by
    have:=zie (bsL (r.take k)) W;rw[zcz,hb]at this;exact this
   cases hb:nmB (r.take k)with
   |false =>
    rw[if_neg (by rintro⟨_,h⟩;cases h)];exact znn s i _ w hs hi k _ (by omega) Zm rfl ZQ Xu (Zd _ hb)
   |true =>
    rw[if_pos ⟨h1,rfl⟩];exact zyk s i _ w hs hi k _ (by omega) Zm rfl ZQ Xu (Zd _ hb)
  ·rw[if_neg h1]at Xu
   rw[if_neg (fun h=>h1 h.1)];exact zlu s i _ w hs hi rfl ZQ Xu
 ·-- a date
  have hd:=zlg w1;have R0:=p2.2 hd;rw[R0]at ZQ;have Yi:=zf1 w1;rw[List.length_cons]at Yi;have Yx:=HDYg true w1;have hdr:(s[i] :: r).drop 10=s.data.toList.drop (i+10):=by rw[←WJ,List.drop_drop]
  have XG:∀b,endQ ((s[i] :: r).drop 10)=b→Hid (∀W,Calls Tryz.prog 144 #[.string s,.int .i64 ((i:Int)+10)] W (RetB W b)):=fun b hb W=>by
   rw[show((i:Int)+10)=((i+10:Nat):Int)by omega,←hb,hdr];exact zp1 s (i+10) W
  rw[zey w1]
  cases he:endQ ((s[i] :: r).drop 10)with
  |false =>
   rw[if_neg (by decide)];exact zra s i _ w hs hi rfl (by omega) ZQ Yx (XG _ he)
  |true =>
   rw[if_pos rfl]
   have Zm:s.extract i (i+10)=bsL ((s[i] :: r).take 10):=by
    rw[extL _ _ (Nat.le_refl _)];congr 1;rw[Nat.sub_self,Nat.add_sub_cancel_left];rfl
   have hdt:=fun day=>z0d (day:=day) w1
   rcases zvn (bsL ((s[i] :: r).take 10))with⟨day,hday,hp⟩ |⟨Wy,hp⟩
   ·rw[zcz]at hday
    rw[(hdt day).2 hday];exact zu0 s i _ w hs hi (day:Int) _ Zm rfl (by omega) ZQ Yx (XG _ he) (Z9 hp)
   ·have hn:datV (s[i] :: r)=none:=by
     cases hv:datV (s[i] :: r)with
     |none=>rfl
     |some day=>exact absurd ((hdt day).1 hv) (by rw[←zcz (List.take 10 _)];exact Wy day)
    rw[hn];exact zrb s i _ w hs hi _ Zm rfl (by omega) ZQ Yx (XG _ he) (Z9 hp)
 ·-- a number
  rw[zex w1 v1]
  have HN:∀R,numK (s[i] :: r)=R→Hid (∀W,Calls Tryz.prog 146 #[.string s,.int .i64 (i:Int)] W (zc2 W i R)):=fun R hR W=>by
   have:=zu1 s i W hs hi (by rw[←hr];exact v1);rw[WJ,hR]at this;exact this
  have hdy:=HDYg false (by simpa using w1)
  rcases v1 with hd |⟨XN,hd⟩
  ·have R0:=p2.2 hd
   rw[R0]at ZQ
   cases hk:numK (s[i] :: r)with
   |no er=>exact zph s i _ w hs hi er rfl ZQ hdy (HN _ hk)
   |yes t n =>
    have ht:=zth hk;have HN2:=HN _ hk;rw[ht]at HN2 ⊢;exact zpg s i _ w hs hi t.rat n rfl ZQ hdy HN2
  ·have hC4:C=4:=by
    rw[hC];unfold zac letB;rw[XN];rfl
   rw[hC4]at ZQ
   have UK:atN r=2:=by
    have:=z05 (l:=r);rw[hd]at this;simpa using this
   rw[UK]at X5;have t45:((s[i].toNat:Int) == 45)=true:=(hmin true).2 (decide_eq_true XN)
   cases hk:numK (s[i] :: r)with
   |no er=>exact zpf s i _ w hs hi er rfl t45 ZQ X5 (HN _ hk)
   |yes t n =>
    have ht:=zth hk;have HN2:=HN _ hk;rw[ht]at HN2 ⊢;exact zpe s i _ w hs hi t.rat n rfl t45 ZQ X5 HN2
 ·-- a mark
  rw[zde w1 v1]
  have Zm:s.extract i (i+1)=bsL [s[i]]:=by
   rw[extL _ _ (Nat.le_refl _)];congr 1;rw[Nat.sub_self,Nat.add_sub_cancel_left];rfl
  by_cases XN:s[i].toNat=45
  ·have hC4:C=4:=by
    rw[hC];unfold zac letB;rw[XN];rfl
   rw[hC4]at ZQ;have t45:((s[i].toNat:Int) == 45)=true:=(hmin true).2 (decide_eq_true XN)
   have UK:(atN r == 2)=false:=by
    rw[z05]
    cases hd:dgH r with
    |false=>rfl
    |true=>exact absurd ⟨XN,hd⟩ v1
   exact zyl s i _ w hs hi _ Zm rfl (atN r) UK t45 ZQ X5
  ·have hC5:C=5:=by
    rcases p5.2 w1 with h |h
    ·exact h
    ·exact absurd h XN
   rw[hC5]at ZQ;exact z3m s i _ w hs hi _ Zm rfl ((hmin false).2 (decide_eq_false XN)) ZQ
 ·-- none
  rw[zdz w1 w2 w3 w4]
  have n2:¬C=2:=fun h=>w3 (p2.1 h)
  have n3:¬C=3:=fun h=>w1 (p3.1 h)
  have n5:¬C=5:=fun h=>w4 (p5.1 (.inl h))
  have n6:¬C=6:=fun h=>w2 (p6.1 h)
  have n45:¬s[i].toNat=45:=fun h=>w4 (p5.1 (.inr h))
  exact z3l s i _ w hs hi C rfl ((hmin false).2 (decide_eq_false n45)) (by simpa using n2) (by simpa using n3) (by simpa using n5) (by simpa using n6) ZQ
open Go.Shelf
attribute [local go_sem] Oper.semAt_some
def yd0(J:Nat→World→Prop):Prop:=∀s W W',J s W→W.grownBy W' none→J s W'
def yc4(P:Program)(n gf:Nat)(lb:Array Value)(enc:Nat→Value)(E:Nat→World→Prop)(Go Fin:Nat→Prop)(w:World):Prop :=
 ∀(l:Nat)(J:Nat→World→Prop)(Jx:World→Prop)(W:World)(s0:Nat),yd0 J→(∀W1 W2,Jx W1→W1.grownBy W2 none→Jx W2)→(∀s W1,J s W1→E s W1) →
  (∀s W1,J s W1→Go s→YieldAt Fence.wide (n-1) P l #[enc s] W1 fun e W2=>(e=.returned (.bool true)∧∃s2,s<s2∧J s2 W2)∨(e=.returned (.bool false)∧Jx W2)) →
  Below w.heap.size w W→J s0 W→CallsIn Fence.wide n P gf (#[.func (.yield l) #[] #[]] ++ lb) W fun e W2=>(∃v,e=.returned v)∧((∃s,Fin s∧J s W2)∨Jx W2)
def z6k(B s:Nat)(I:Nat→World→Prop)(Ix:World→Prop)(W:World):Exit→Act→World→Prop
 | .normal,_,W2=>KeepsFrom B W W2∧∃s2,s<s2∧I s2 W2
 | .ret,_,W2=>KeepsFrom B W W2∧Ix W2
 |_,_,_=>False
theorem zg6{W W2:World}(h:W.grownBy W2 none){k:Nat}{o:Obj}(hk:W.heap[k]?=some o):W2.heap[k]?=some o :=
 (h.block k (Z8 hk) (by simp)).trans hk
theorem z27{P:Program}{n:Nat}{g:Operand}{ps:Array Tmp}{assign body:Code}{Q:Exit→Act→World→Prop}{a:Act}{w:World}(h1:1≤n){gf:Nat}{lb:Array Value}
 (hg:a.eval g=.func (.func gf) #[] lb) (eg:∀args w,(callFunc gf args).run P w=.ok (.enter gf args) w) {enc:Nat→Value} {E:Nat→World→Prop} {Go Fin:Nat→Prop} {w0:World}
 (U6:yc4 P (n-1) gf lb enc E Go Fin w0) (Zv:Below w0.heap.size w0 w) (Xw:ps.size=1)
 (I:Nat→World→Prop) (Ix:World→Prop) (hI:OwnFrom w.heap.size I) (Tu:OwnFrom w.heap.size (fun(_:Unit) W=>Ix W)) (hE:∀s W,I s W→E s W) (s0:Nat) (h0:I s0 w) (a₁:Nat→Act)
 (XP:∀(l s:Nat)(W:World)(K:Act→World→Prop),K (a₁ s) W→assign.wpIn (Fence.wide.inRound l) (n-1-1) P (Exit.then K (fun _ _ _=>False)) { tmps:=(ps.zip #[enc s]).foldl (fun t (p,v)=>t.setIfInBounds p v) a.tmps,defers:=[] } W)
 (Wk:∀(l s:Nat)(W:World),I s W→Go s→body.wpIn (Fence.wide.inRound l) (n-1-1) P (z6k w.heap.size s I Ix W) (a₁ s) W)
 (Wp:∀(D s:Nat)(W:World),w.heap.size≤D→Fin s→I s W→W.heap[D]?=some (.deferred (some []))→Q .normal { a with defers:={ target:=.collected D,args:=#[] } :: a.defers } W)
 (WC:∀(D:Nat)(W:World),w.heap.size≤D→Ix W→W.heap[D]?=some (.deferred (some []))→Code.ret.wpIn Fence.wide n P Q { a with defers:={ target:=.collected D,args:=#[] } :: a.defers } W) :
 (Code.rangeFunc g ps assign body).wpIn Fence.wide n P Q a w:=by
 refine wpIn_rangeFunc fun fn XC => ?_
 -- the loop's record and the block behind it
 obtain⟨L,hL⟩:∃L:LoopState→Option Code→Loop,L=fun st pe=>{ state:=st,pending:=pe,fn,tmps:=a.tmps,params:=ps,assign,body,defers:=w.heap.size }:=⟨_,rfl⟩
 obtain⟨V,hV⟩:∃V,V=(w.alloc (.deferred (some []))).alloc (.loop (L .ready none)):=⟨_,rfl⟩
 have hloop:V.heap[w.heap.size+1]?=some (.loop (L .ready none)):=by
  rw[hV];have:=World.alloc_heap_new (w.alloc (.deferred (some []))) (.loop (L .ready none))
  rwa [World.size_alloc]at this
 have hdef:V.heap[w.heap.size]?=some (.deferred (some [])):=by
  rw[hV];exact(Below.heap_alloc _ _ _ (by simp)).trans (World.alloc_heap_new w _)
 have hIV:I s0 V:=by rw[hV];exact hI.alloc _ (hI.alloc _ h0)
 have hbV:Below w0.heap.size w0 V:=by
  rw[hV];exact Zv.trans ((((Below.refl _ w).alloc (Nat.le_refl _) _).alloc (by simp) _).mono Zv.size)
 refine⟨w.heap.size+1,[{ target:=.collected w.heap.size,args:=#[] }],V,{ target:=.fn (.func gf) lb,args:=#[.func (.yield (w.heap.size+1)) #[] #[]] },V,gf,
  #[.func (.yield (w.heap.size+1)) #[] #[]] ++ lb,V,?_,?_,fun _ _=>trivial,?_,fun _=>h1,?_⟩
 ·rw[hV,hL];exact run_enterLoop_outer _ _ _ _ _
 ·simp only[resolve,hg]
  simp[go_sem]
 ·simp[invoke,go_sem,eg]
 -- the record's turns
 have turn:∀(W:World)(o o':Obj),I=I→W.heap[w.heap.size+1]?=some o→o.isCells=false→∀s,I s W→I s (W.putObj (w.heap.size+1) o'):=fun W o o' _ ho hc s hs=>hI.putObj o' hs (by omega) ho hc
 have turnx:∀(W:World)(o o':Obj),W.heap[w.heap.size+1]?=some o→o.isCells=false→Ix W→Ix (W.putObj (w.heap.size+1) o'):=fun W o o' ho hc hs=>Tu.putObj (s:=()) o' hs (by omega) ho hc
 have step:=U6 (w.heap.size+1) (fun s W=>I s W∧W.heap[w.heap.size+1]?=some (.loop (L .ready none))∧W.heap[w.heap.size]?=some (.deferred (some [])))
  (fun W=>Ix W∧W.heap[w.heap.size+1]?=some (.loop (L .done (some .ret)))∧W.heap[w.heap.size]?=some (.deferred (some []))) V s0
  (fun s W W2 hs Za=>⟨hI s W W2 none hs.1 Za (fun r e=>by cases e),zg6 Za hs.2.1,zg6 Za hs.2.2⟩)
  (fun W W2 hs Za=>⟨Tu () W W2 none hs.1 Za (fun r e=>by cases e),zg6 Za hs.2.1,zg6 Za hs.2.2⟩)
  (fun s W hs=>hE s W hs.1) ?_ hbV ⟨hIV,hloop,hdef⟩
 ·refine step.mono ?_
  rintro e W2 ⟨⟨v,rfl⟩,(⟨s,hF,hi,hl,hk⟩ |⟨hi,hl,hk⟩)⟩
  ·have Zj:=run_endLoop (P:=P) hl (by rw[hL];simp)
   rw[hL]at Zj;exact⟨none,_,Zj,Wp _ s _ (Nat.le_refl _) hF (turn W2 _ _ rfl hl rfl s hi) ((World.putObj_heap_other (by omega)).trans hk)⟩
  ·have Zj:=run_endLoop (P:=P) hl (by rw[hL];simp)
   rw[hL]at Zj;exact⟨some .ret,_,Zj,WC _ _ (Nat.le_refl _) (turnx W2 _ _ hl rfl hi) ((World.putObj_heap_other (by omega)).trans hk)⟩
 ·-- one round
  rintro s W ⟨hi,hl,hk⟩ Up;have Z4:w.heap.size+1<W.heap.size:=(Z8 hl);have hy:=run_yield (P:=P) (args:=#[enc s]) hl (by rw[hL];simp[Xw]);rw[hL]at hy;refine⟨fn,_,assign,body,hy,roundIn_of_wpIn XC (XP _ s W _ ⟨_,run_beginRound hl (by rw[hL]),?_⟩)⟩;have Yv:(W.putObj (w.heap.size+1) (.loop { L .ready none with state:=.busy })).heap[w.heap.size+1]?=some (.loop { L .ready none with state:=.busy }):=World.putObj_heap_same Z4;have Y3:(W.putObj (w.heap.size+1) (.loop { L .ready none with state:=.busy })).heap[w.heap.size]?=some (.deferred (some [])):=(World.putObj_heap_other (by omega)).trans hk;refine wpIn_mono (Wk _ s _ (turn W _ _ rfl hl rfl s hi) Up) ?_
  intro e a3 W3 hp
  have shut:∀(jump:Option Code),KeepsFrom w.heap.size (W.putObj (w.heap.size+1) (.loop { L .ready none with state:=.busy })) W3 →
   W3.heap[w.heap.size+1]?=some (.loop { L .ready none with state:=.busy }) ∧
   (Instr.endRound (w.heap.size+1) jump).run P W3=.ok (.bool jump.isNone) (W3.putObj (w.heap.size+1) (.loop (L (if jump.isNone then .ready else .done) jump))) ∧
   (W3.putObj (w.heap.size+1) (.loop (L (if jump.isNone then .ready else .done) jump))).heap[w.heap.size+1]?=some (.loop (L (if jump.isNone then .ready else .done) jump)) ∧
   (W3.putObj (w.heap.size+1) (.loop (L (if jump.isNone then .ready else .done) jump))).heap[w.heap.size]?=some (.deferred (some [])):=fun jump Xr=>by
   have XR:=Xr.same _ _ (by omega) Yv rfl;have Un:=Xr.same _ _ (Nat.le_refl _) Y3 rfl;have he:=run_endRound (P:=P) jump XR;refine⟨XR,?_,World.putObj_heap_same (Z8 XR),(World.putObj_heap_other (by omega)).trans Un⟩;rw[hL]at he ⊢;exact he
  cases e with
  |normal =>
   obtain⟨Xr,s2,ZR,XJ⟩:=hp;obtain⟨c1,c2,c3,c4⟩:=shut none Xr;exact⟨_,_,c2,.inl ⟨rfl,s2,ZR,turn W3 _ _ rfl c1 rfl s2 XJ,c3,c4⟩⟩
  |ret =>
   obtain⟨Xr,XJ⟩:=hp;obtain⟨c1,c2,c3,c4⟩:=shut (some .ret) Xr;exact⟨_,_,c2,.inr ⟨rfl,turnx W3 _ _ c1 rfl XJ,c3,c4⟩⟩
  |exit id=>exact hp.elim
  |goto t=>exact hp.elim
  |panic c=>exact hp.elim
  |outgrown=>exact hp.elim
attribute [local go_sem] Oper.semAt_some
theorem yab{x:UInt8}{p:UInt8→Bool}(T6:∀c:UInt8,p c=true↔c≠x)(l:List UInt8):Lib.indexByte l x=if spn p l<l.length then(spn p l:Int)else -1:=by
 induction l with
 |nil=>rfl
 |cons c l ih =>
  unfold Lib.indexByte
  by_cases h:c=x
  ·have e2:spn p (c :: l)=0:=by unfold spn;rw[if_neg (fun a=>(T6 c).1 a h)]
   rw[e2,if_pos (by rw[h];simp),if_pos (by simp)];rfl
  ·have e2:spn p (c :: l)=spn p l+1:=by
    show(if p c=true then spn p l+1 else 0)=_
    rw[if_pos ((T6 c).2 h)]
   have e3:¬(c == x)=true:=fun a=>h (beq_iff_eq.1 a)
   rw[e2,if_neg e3,ih,List.length_cons]
   by_cases h2:spn p l<l.length
   ·have e4:¬(((spn p l:Nat):Int) == -1)=true:=fun a=>by have:=beq_iff_eq.1 a;omega
    rw[if_pos h2,if_neg e4,if_pos (by omega)];omega
   ·rw[if_neg h2,if_pos (by decide),if_neg (by omega)]
theorem zxd(l:List UInt8):skS false l=spn blQ l+skS false (l.drop (spn blQ l)):=by
 induction l with
 |nil=>rfl
 |cons c l ih =>
  by_cases h:blQ c=true
  ·have e:spn blQ (c :: l)=spn blQ l+1:=by show(if blQ c=true then _ else _)=_;rw[if_pos h]
   rw[zh9 h,e,ih,List.drop_succ_cons];have:=skS_spn_aux l;omega
  ·have e:spn blQ (c :: l)=0:=by show(if blQ c=true then _ else _)=_;rw[if_neg h]
   rw[e,List.drop_zero,Nat.zero_add]
where
 skS_spn_aux (l:List UInt8):True:=trivial
def nlQ(c:UInt8):Bool := !decide (c=10)
theorem znr(c:UInt8):nlQ c=true↔c≠10:=by unfold nlQ;simp
theorem z2d(r:List UInt8):skS true r=if spn nlQ r<r.length then spn nlQ r+1+skS false (r.drop (spn nlQ r+1))else r.length:=by
 induction r with
 |nil=>rfl
 |cons c r ih =>
  by_cases h:c=10
  ·have e:spn nlQ (c :: r)=0:=by show(if nlQ c=true then _ else _)=_;rw[if_neg (fun a=>(znr c).1 a h)]
   rw[e,if_pos (by simp),zox (by rw[h];rfl)]
   show _=0+1+skS false r
   omega
  ·have e:spn nlQ (c :: r)=spn nlQ r+1:=by show(if nlQ c=true then _ else _)=_;rw[if_pos ((znr c).2 h)]
   rw[e,zsy (by intro a;exact h (by rw[←UInt8.toNat_inj];exact a)),ih,List.length_cons,List.drop_succ_cons]
   by_cases h2:spn nlQ r<r.length
   ·rw[if_pos h2,if_pos (by omega)];omega
   ·rw[if_neg h2,if_neg (by omega)]
theorem zzp{c:UInt8}{r:List UInt8}(h:c.toNat=35) :
 (spn nlQ r<r.length∧Lib.indexByte (c :: r) 10=((spn nlQ r+1:Nat):Int)∧skS false (c :: r)=spn nlQ r+1+skS false ((c :: r).drop (spn nlQ r+1))∧((c :: r).drop (spn nlQ r+1)).head?=some 10) ∨
 (Lib.indexByte (c :: r) 10 = -1∧skS false (c :: r)=(c :: r).length):=by
 have hc:c≠10:=by rintro rfl;exact absurd h (by decide)
 have e:spn nlQ (c :: r)=spn nlQ r+1:=by show(if nlQ c=true then _ else _)=_;rw[if_pos ((znr c).2 hc)]
 have hi:=yab znr (c :: r);rw[e,List.length_cons]at hi;have hs:=z2d r
 by_cases h2:spn nlQ r<r.length
 ·left
  rw[if_pos (by omega)]at hi;rw[if_pos h2]at hs
  have hd:∃x t,r.drop (spn nlQ r)=x :: t∧nlQ x=false:=by
   clear hi hs e
   induction r with
   |nil=>simp at h2
   |cons x r ih =>
    by_cases hx:nlQ x=true
    ·have e:spn nlQ (x :: r)=spn nlQ r+1:=by show(if nlQ x=true then _ else _)=_;rw[if_pos hx]
     rw[e]at h2 ⊢;rw[List.drop_succ_cons];exact ih (by simpa using h2)
    ·have e:spn nlQ (x :: r)=0:=by show(if nlQ x=true then _ else _)=_;rw[if_neg hx]
     rw[e];exact⟨x,r,rfl,by simpa using hx⟩
  obtain⟨x,t,hd,hx⟩:=hd
  have hx10:x=10:=by
   cases hq:decide (x=10)with
   |true=>simpa using hq
   |false=>unfold nlQ at hx;rw[hq]at hx;cases hx
  refine⟨h2,hi,?_,?_⟩
  ·rw[zh8 h,hs,List.drop_succ_cons,hd,hx10,zh9 (by decide)]
   have:r.drop (spn nlQ r+1)=t:=by rw[←List.drop_drop,hd];rfl
   rw[this];omega
  ·rw[List.drop_succ_cons,hd,hx10];rfl
 ·right
  rw[if_neg (by omega)]at hi;rw[if_neg h2]at hs;exact⟨hi,by rw[zh8 h,hs,List.length_cons]⟩
theorem zv1(s:ByteArray)(i0 k:Nat)(hs:s.size≤1000000)(hi:i0≤s.size)(W:World) :
 Calls Tryz.prog 140 #[.string s,.int .i64 (i0:Int),.slice (some ⟨W.heap.size,0,none⟩) 1 1] (W.alloc (.cells #[.int .i64 (k:Int)] 3)).drew (RetI (W.alloc (.cells #[.int .i64 (k:Int)] 3)).drew ((i0+spn (clsB [k]) (s.data.toList.drop i0):Nat):Int)) :=
 ziu s i0 1 1 _ [k] _ hs hi rfl (by omega) (Nums.drewN (fun j hj=>⟨W.heap.size,0,rfl,by simp,by
  have Vn:j=0:=by simp at hj;exact hj
  subst Vn;have:=World.alloc_heap_new W (.cells #[.int .i64 (k:Int)] 3)
  show(match (W.alloc (.cells #[.int .i64 (k:Int)] 3)).heap[W.heap.size]? with |some (.cells c _ _)=>c[0]? |_=>none)=_
  rw[this];rfl⟩) 1)
theorem zv2(s:ByteArray)(i0 k:Nat)(hs:s.size≤1000000)(hi:i0≤s.size)(W:World) :
 Calls Tryz.prog 140 #[.string s,.int .i64 (i0:Int),.slice (some ⟨W.heap.size,0,none⟩) 1 1] (W.alloc (.cells #[.int .i64 (k:Int)] 3)) (RetI (W.alloc (.cells #[.int .i64 (k:Int)] 3)) ((i0+spn (clsB [k]) (s.data.toList.drop i0):Nat):Int)) :=
 ziu s i0 1 1 _ [k] _ hs hi rfl (by omega) (fun j hj=>⟨W.heap.size,0,rfl,by simp,by
  have Vn:j=0:=by simp at hj;exact hj
  subst Vn;have:=World.alloc_heap_new W (.cells #[.int .i64 (k:Int)] 3)
  show(match (W.alloc (.cells #[.int .i64 (k:Int)] 3)).heap[W.heap.size]? with |some (.cells c _ _)=>c[0]? |_=>none)=_
  rw[this];rfl⟩)
theorem zsv(s:ByteArray)(k:Nat):∀c l,s.data.toList.drop (k+spn blQ (s.data.toList.drop k))=c :: l→¬blQ c=true:=by
 intro c l h;rw[←List.drop_drop]at h;generalize s.data.toList.drop k=m at h
 induction m with
 |nil=>simp[spn]at h
 |cons x m ih =>
  by_cases hx:blQ x=true
  ·have e:spn blQ (x :: m)=spn blQ m+1:=by show(if blQ x=true then _ else _)=_;rw[if_pos hx]
   rw[e,List.drop_succ_cons]at h;exact ih h
  ·have e:spn blQ (x :: m)=0:=by show(if blQ x=true then _ else _)=_;rw[if_neg hx]
   rw[e,List.drop_zero]at h
   injection h with h1 _;rw[←h1];exact hx
theorem z7j:clsB [1]=blQ:=by
 funext c
 obtain⟨_,_,_,_,h,_⟩:=zdj c;unfold clsB;rw[Bool.eq_iff_iff,←h];simp
theorem zul(s:ByteArray)(b:Nat)(w:World):Calls Tryz.prog 83 #[.string s,.pointer (some ⟨b,0,none⟩)] w fun e w' =>
 e=.returned (.func (.func 139) #[] #[.pointer (some ⟨w.heap.size,0,none⟩),.pointer (some ⟨w.heap.size+1,0,none⟩)])∧w'=(w.alloc (.cells #[.string s] 9)).alloc (.cells #[.pointer (some ⟨b,0,none⟩)] 111):=by
 go_enter Tryz.func83,Tryz.ntmps83;go_wp2_with fail;go_ret;exact⟨rfl,rfl⟩
def yc5(s:ByteArray)(Bt Bp Be:Nat)(k:Nat)(W:World):Prop :=
 k≤s.size∧Boxed W Bt 9 (.string s)∧Boxed W Bp 111 (.pointer (some ⟨Be,0,none⟩))∧Boxed W Be 3 (.int .i64 (k:Int))
def yag(Be:Nat)(W:World):Nat:=match W.cell? ⟨Be,0,none⟩with
 |some (.int _ n)=>n.toNat
 |_=>0
theorem ztq{s:ByteArray}{Bt Bp Be k:Nat}{W:World}(h:yc5 s Bt Bp Be k W):yag Be W=k:=by
 unfold yag;rw[h.2.2.2.cell];simp
def zo7(s:ByteArray)(k:Nat):Value:=.int .i64 ((k+skS false (s.data.toList.drop k):Nat):Int)
theorem zw9(s:ByteArray)(hs:s.size≤100000)(n Bt Bp Be:Nat)(hn:2≤n)(w:World):yc4 Tryz.prog n 139 #[.pointer (some ⟨Bt,0,none⟩),.pointer (some ⟨Bp,0,none⟩)] (zo7 s) (yc5 s Bt Bp Be)
 (fun k=>k+skS false (s.data.toList.drop k)<s.size) (fun k=>k+skS false (s.data.toList.drop k)=s.size) w:=by
 intro l J Jx W s0 hJ hJx hE hY ZW h0;have UV:1≤n:=by omega
 have hfw:∀f,Fence.wide.fn f:=fun _=>trivial
 refine callsIn_of_wp Tryz.func139 rfl trivial ?_ rfl;simp only[Tryz.ntmps139,List.size_toArray,List.length_cons,List.length_nil,Nat.reduceAdd,Nat.reduceSub,Array.replicate_succ,Array.replicate_zero,List.push_toArray,List.append_toArray,List.nil_append,List.cons_append];gi_wp2;gi_loopw [4] (fun _ wr=>∃k:Nat,J k wr) (fun _ wr=>s.size-yag Be wr)
 case atStart=>exact⟨s0,h0⟩
 case round =>
  obtain⟨k,hk⟩:=hrel;have hek:=hE k wr hk;obtain⟨WI,Wm,VI,TF⟩:=hek;have ct:=Wm.cell;have cp:=VI.cell;have ce:=TF.cell;have hlt1:=(Wm:Boxed _ _ _ _).lt;have ZR:=VI.lt;have hlt3:=TF.lt;obtain⟨p,hp⟩:∃p,p=k+spn blQ (s.data.toList.drop k):=⟨_,rfl⟩
  have Vd:Hid (∀W:World,Calls Tryz.prog 140 #[.string s,.int .i64 (k:Int),.slice (some ⟨W.heap.size,0,none⟩) 1 1] (W.alloc (.cells #[.int .i64 1] 3)).drew (RetI (W.alloc (.cells #[.int .i64 1] 3)).drew (p:Int))):=fun W=>by
   have:=zv1 s k 1 (by omega) WI W;rw[z7j,←hp]at this;exact this
  have HALL:Hid (∀W:World,Below wr.heap.size wr W→W.cell? ⟨Bt,0,none⟩=some (.string s)∧W.cell? ⟨Bp,0,none⟩=some (.pointer (some ⟨Be,0,none⟩))∧W.cell? ⟨Be,0,none⟩=some (.int .i64 (k:Int))):=fun W h=>⟨((zbg h).1 _ _ hlt1).trans ct,((zbg h).1 _ _ ZR).trans cp,((zbg h).1 _ _ hlt3).trans ce⟩
  have HA0:Hid (∀O:Obj,Below wr.heap.size wr (wr.alloc O).drew):=fun O=>(zaa wr O).drew
  have HD0:Hid (Below wr.heap.size wr wr.drew):=(Below.refl _ wr).drew;have HY:=Z9 hY;have HE:=Z9 hE;have HJ:=Z9 hJ;have HP:=Z9 hp;clear hY hE hJ hJx hp Wm VI TF;gi_wp2;refine wpIn_wide.2 ?_
  go_region_held3 (fun W=>W.cell? ⟨Bt,0,none⟩=some (.string s)∧W.cell? ⟨Bp,0,none⟩=some (.pointer (some ⟨Be,0,none⟩))∧W.cell? ⟨Be,0,none⟩=some (.int .i64 (k:Int)))
   ((first |with_reducible exact HALL.out _ HD0.out |with_reducible exact HALL.out _ (HA0.out _)))
   ((first |(go_at_call 140;refine(Vd.out _).mono ?_;rintro e w' ⟨rfl,rfl⟩)))
  obtain⟨U,hU⟩:∃U,U=(wr.alloc (.cells #[.int .i64 1] 3)).drew:=⟨_,rfl⟩
  have hjU:J k U:=by
   refine HJ.out k wr U hk ?_;rw[hU];have g:=World.grownBy_alloc wr (.cells #[.int .i64 1] 3) none;exact⟨g.os,g.tape,g.output,g.size,g.block⟩
  rw[←hU];obtain⟨T,hT⟩:∃T,T=k+skS false (s.data.toList.drop k):=⟨_,rfl⟩
  have hpT:T=p+skS false (s.data.toList.drop p):=by
   rw[hT,zxd,HP.out,←List.drop_drop];omega
  have Xw:p≤s.size:=by
   have:=zeg blQ (s.data.toList.drop k);rw[List.length_drop,zab]at this;have:=HP.out;omega
  have Zo:∀c l,s.data.toList.drop p=c :: l→¬blQ c=true:=by
   rw[HP.out];exact zsv s k
  have HT:=Z9 hT
  have HTS:Hid (T≤s.size):=by
   show T≤s.size
   have:=zgi false (s.data.toList.drop k);rw[List.length_drop,zab]at this;omega
  have HST:Hid (p≤s.size∧T=p+skS false (s.data.toList.drop p)∧(∀c l,s.data.toList.drop p=c :: l→¬blQ c=true)∧J k U):=⟨Xw,hpT,Zo,hjU⟩;clear hU hT hpT Zo hjU ct cp ce HALL HA0 HD0;have ek:=ztq (HE.out k wr hk);have HEK:=Z9 ek;clear ek;obtain⟨W0x,hW0x⟩:∃W0x:World,W0x=wr:=⟨_,rfl⟩
  gi_wp2;gi_loopw [4,5] (fun iv _ W=>∃j:Nat,iv=.int .i64 (j:Int)∧j≤s.size∧T=j+skS false (s.data.toList.drop j)∧(∀c l,s.data.toList.drop j=c :: l→¬blQ c=true)∧J k W) (fun iv _ _=>s.size-(intOf iv).toNat)
  case atStart=>exact⟨p,rfl,HST.out.1,HST.out.2.1,HST.out.2.2.1,HST.out.2.2.2⟩
  case round =>
   obtain⟨j,rfl,hj,Ul,Sx,UH⟩:=hrel;obtain⟨_,Wm,VI,TF⟩:=HE.out k _ UH;have ct:=Wm.cell;have hlt1:=Wm.lt;obtain⟨A,hA⟩:∃A,A=atN (s.data.toList.drop j):=⟨_,rfl⟩
   have ZQ:Hid (∀W,Calls Tryz.prog 141 #[.string s,.int .i64 (j:Int)] W (RetI W A)):=fun W=>by rw[hA];exact zk6 s j W
   clear VI TF Wm
   by_cases Tp:A=7
   ·obtain⟨c,r,UL,Sd⟩:∃c r,s.data.toList.drop j=c :: r∧c.toNat=35:=by
     cases hd:s.data.toList.drop j with
     |nil=>rw[Tp,hd]at hA;exact absurd hA (by decide)
     |cons c r =>
      rw[Tp,hd]at hA;obtain⟨_,_,_,_,_,h7,_⟩:=zdj c;exact⟨c,r,rfl,h7.1 hA.symm⟩
    have Z6:(c :: r).length=s.size-j:=by rw[←UL,List.length_drop,zab]
    have Sl:j<s.size:=by simp at Z6;omega
    subst Tp
    have HIXg:∀V,Lib.indexByte (c :: r) 10=V→Hid (∀W,Calls Tryz.prog 142 #[.string (s.extract j s.size),.int .u8 10] W fun e w'=>e=.returned (.int .i64 V)∧W=w'):=fun V hV W=>by
     have:=Tryz.strings_IndexByte (s.extract j s.size) 10 W;rw[ze1,List.take_of_length_le (by rw[List.length_drop,zab];exact Nat.le_refl _),UL,show(Int.toNat 10).toUInt8=10 from rfl,hV]at this;exact this.mono (fun _ _ h=>⟨h.1,h.2.symm⟩)
    rcases zzp (r:=r) Sd with⟨h1,h2,h3,h4⟩ |⟨h2,h3⟩
    ·have Xu:=HIXg _ h2
     obtain⟨q,hq⟩:∃q,q=spn nlQ r+1:=⟨_,rfl⟩
     rw[←hq]at Xu h3 h4;have T7:j+q<s.size:=by simp at Z6;omega
     have hqi:((j:Int)+(q:Int))=((j+q:Nat):Int):=by omega
     obtain⟨p2,YB⟩:∃p2,p2=j+q+spn blQ (s.data.toList.drop (j+q)):=⟨_,rfl⟩
     have Wb:Hid (∀W:World,Calls Tryz.prog 140 #[.string s,.int .i64 ((j:Int)+(q:Int)),.slice (some ⟨W.heap.size,0,none⟩) 1 1] (W.alloc (.cells #[.int .i64 1] 3)) (RetI (W.alloc (.cells #[.int .i64 1] 3)) (p2:Int))):=fun W=>by
      have:=zv2 s (j+q) 1 (by omega) (by omega) W;rw[z7j,←YB]at this;rw[hqi];exact this
     have hNX:Hid (p2≤s.size∧j<p2∧T=p2+skS false (s.data.toList.drop p2)∧(∀c l,s.data.toList.drop p2=c :: l→¬blQ c=true)):=by
      refine⟨?_,by omega,?_,?_⟩
      ·have:=zeg blQ (s.data.toList.drop (j+q))
       rw[List.length_drop,zab]at this;omega
      ·rw[Ul,UL,h3,←UL,List.drop_drop,zxd,YB,List.drop_drop]
       omega
      ·rw[YB];exact zsv s (j+q)
     clear hq h1 h2 h3 h4 YB HIXg hqi hA Ul Sx Z6;gi_wp2_with (first |(gi_at_call 141;refine(callsIn_wide.2 (ZQ.out _)).mono ?_;rintro e w' ⟨rfl,rfl⟩) |(gi_at_call 142;refine(callsIn_wide.2 (Xu.out _)).mono ?_;rintro e w' ⟨rfl,rfl⟩) |(gi_at_call 140;refine(callsIn_wide.2 (Wb.out _)).mono ?_;rintro e w' ⟨rfl,rfl⟩));go_roundw
     case rel =>
      obtain⟨n1,n2,n3,n4⟩:=hNX.out;exact⟨p2,rfl,n1,n3,n4,HJ.out k _ _ UH (World.grownBy_alloc _ _ none)⟩
     case measure =>
      obtain⟨n1,n2,n3,n4⟩:=hNX.out
      simp[intOf]<;>omega
    ·have Xu:=HIXg _ h2
     gi_wp2_with (first |(gi_at_call 141;refine(callsIn_wide.2 (ZQ.out _)).mono ?_;rintro e w' ⟨rfl,rfl⟩) |(gi_at_call 142;refine(callsIn_wide.2 (Xu.out _)).mono ?_;rintro e w' ⟨rfl,rfl⟩));refine bodyPost_ret (results_none rfl _ _ _) rfl ?_;refine⟨⟨_,rfl⟩,.inl ⟨k,?_,UH⟩⟩;rw[←HT.out,Ul,UL,h3,Z6];omega
   ·have hAb:(A == 7)=false:=by rw[beq_eq_false_iff_ne];exact Tp
    by_cases Sl:j<s.size
    ·have hTj2:T=j:=by
      have e:=zcv s j Sl
      rw[Ul,e,zhp (Sx _ _ e) (by
       intro SH;obtain⟨_,_,_,_,_,h7,_⟩:=zdj s[j]
       exact Tp (by rw[hA,e];exact h7.2 SH))]
      omega
     have hTk:zo7 s k=.int .i64 (j:Int):=by unfold zo7;rw[←HT.out,hTj2]
     obtain⟨fn,tmps,assign,body,hy,hR⟩:=HY.out k wr UH (by rw[←HT.out,hTj2];exact Sl);rw[hTk]at hy;have HJJ:=Z9 UH;clear hTk hTj2 hA Ul Sx UH;gi_wp2_with (first |(gi_at_call 141;refine(callsIn_wide.2 (ZQ.out _)).mono ?_;rintro e w' ⟨rfl,rfl⟩));refine hR.mono ?_;rintro ee W3 (⟨rfl,s2,YJ,UG⟩ |⟨rfl,Wd⟩)
     ·gi_wp2
      go_roundw
      case rel=>exact⟨s2,UG⟩
      case measure =>
       have e1:=ztq (HE.out s2 W3 UG);have e2:=(HE.out s2 W3 UG).1;have e3:=HEK.out;rw[e1,e3];omega
     ·gi_wp2
      refine bodyPost_ret (results_none rfl _ _ _) rfl ?_;exact⟨⟨_,rfl⟩,.inr Wd⟩
    ·gi_wp2_with (first |(gi_at_call 141;refine(callsIn_wide.2 (ZQ.out _)).mono ?_;rintro e w' ⟨rfl,rfl⟩))
     refine bodyPost_ret (results_none rfl _ _ _) rfl ?_;refine⟨⟨_,rfl⟩,.inl ⟨k,?_,UH⟩⟩;rw[←HT.out,Ul,List.drop_eq_nil_of_le (by rw[zab];omega)]
     show j+0=_
     omega
def zhg(x:Tk):List Value:=[.int .u8 x.kind,.string x.text,.string x.rat,.int .i64 x.date,.int .i64 x.place]
def tks(l:List Tk):List Value:=l.flatMap zhg
theorem zcl(x:Tk):(zhg x).length=5:=rfl
attribute [local go_sem] Oper.semAt_some
def z6q:Value:=.agg #[.int .u8 0,.string ByteArray.empty,.string ByteArray.empty,.int .i64 0,.int .i64 0]
theorem ycm:(Tryz.prog.info? 100).map (fun i=>(i.zero,i.size,i.bytes))=some (some z6q,5,56):=by kernel_rfl
theorem zrm{P:Program}{e:TypeId}{z:Value}{s b:Nat}(h:(P.info? e).map (fun i=>(i.zero,i.size,i.bytes))=some (some z,s,b)):∃i,P.info? e=some i∧i.zero=some z∧i.size=s∧i.bytes=b:=by
 obtain⟨i,hi,he⟩:=Option.map_eq_some_iff.1 h;simp only[Prod.mk.injEq]at he;exact⟨i,hi,he.1,he.2.1,he.2.2⟩
theorem ztd{l:List UInt8}{e:Int}(h:oneL l=.no e):e≠0:=by
 rintro rfl
 cases l with
 |nil=>cases h
 |cons c r =>
  rcases zfg c r with w |w |w |⟨w,v⟩ |⟨w,v⟩ |⟨w1,w2,w3,w4⟩
  ·rw[zdd w]at h;split at h<;>cases h
  ·rw[zcn w]at h;(repeat' split at h)<;>cases h
  ·rw[zey w]at h;(repeat' split at h)<;>cases h
  ·rw[zex w v]at h;exact absurd (z3v h) (by decide)
  ·rw[zde w v]at h;cases h
  ·rw[zdz w1 w2 w3 w4]at h;cases h
theorem zpd{W:World}{base e n z:Nat}{v:Value}{xs:List Value}(h:W.ownsRow base e z v n xs){row:Option Nat}{C:Nat}(hr:∀r,row=some r→C≤r∧∃o:Obj,W.heap[r]?=some o∧o.isCells=false):v.ownBlock=none∨v.ownBlock≠row:=by
 rcases h.2 with⟨rfl,_⟩ |⟨g,cap,cur,rfl,_,hg,_⟩
 ·exact .inl rfl
 ·right
  intro e;obtain⟨_,o,ho,hc⟩:=hr g e.symm;rw[hg]at ho
  injection ho with ho
  subst ho
  cases hc
structure LexB(b:Nat)(s:ByteArray)(k:Nat)(v:Value)(W:World):Prop where
 t:Boxed W b 9 (.string s)
 r0:Boxed W (b+1) 67 (.slice none 0 0)
 r1:Boxed W (b+2) 3 (.int .i64 0)
 r2:Boxed W (b+3) 28 (.int .i64 0)
 l:Boxed W (b+4) 67 v
 e:Boxed W (b+5) 3 (.int .i64 (k:Int))
 c0:Boxed W (b+6) 9 (.string s)
 c1:Boxed W (b+7) 111 (.pointer (some ⟨b+5,0,none⟩))
theorem LexB.kept{b k:Nat}{s:ByteArray}{v:Value}{W W':World}{row:Option Nat}(h:LexB b s k v W)(hg:W.grownBy W' row)(hr:∀j,j<b+8→some j≠row):LexB b s k v W' :=
 ⟨h.t.kept hg (hr _ (by omega)),h.r0.kept hg (hr _ (by omega)),h.r1.kept hg (hr _ (by omega)),h.r2.kept hg (hr _ (by omega)),h.l.kept hg (hr _ (by omega)),h.e.kept hg (hr _ (by omega)),h.c0.kept hg (hr _ (by omega)),h.c1.kept hg (hr _ (by omega))⟩
theorem LexB.lt{b k:Nat}{s:ByteArray}{v:Value}{W:World}(h:LexB b s k v W):b+8≤W.heap.size:=h.c1.lt
theorem LexB.setL{b k:Nat}{s:ByteArray}{v:Value}{W:World}(h:LexB b s k v W)(v':Value):LexB b s k v' (W.setCell ⟨b+4,0,none⟩ v') :=
 ⟨h.t.other (by omega) _,h.r0.other (by omega) _,h.r1.other (by omega) _,h.r2.other (by omega) _,h.l.set _,h.e.other (by omega) _,h.c0.other (by omega) _,h.c1.other (by omega) _⟩
theorem LexB.setE{b k:Nat}{s:ByteArray}{v:Value}{W:World}(h:LexB b s k v W)(k':Nat):LexB b s k' v (W.setCell ⟨b+5,0,none⟩ (.int .i64 (k':Int))) :=
 ⟨h.t.other (by omega) _,h.r0.other (by omega) _,h.r1.other (by omega) _,h.r2.other (by omega) _,h.l.other (by omega) _,h.e.set _,h.c0.other (by omega) _,h.c1.other (by omega) _⟩
def LexI(w:World)(s:ByteArray)(R:LexR)(k:Nat)(W:World):Prop :=
 ∃ts v,k≤s.size∧(ts:List Tk).length≤k∧preL ts (lexL k (s.data.toList.drop k))=R∧LexB w.heap.size s k v W∧W.ownsRow (w.heap.size+8) 100 5 v ts.length (tks ts)∧Below w.heap.size w W
def LexX(w:World)(R:LexR)(W:World):Prop :=
 ∃i e,R=.no i e∧Boxed W (w.heap.size+1) 67 (.slice none 0 0)∧Boxed W (w.heap.size+2) 3 (.int .i64 (i:Int))∧Boxed W (w.heap.size+3) 28 (.int .i64 e)∧Below w.heap.size w W
theorem z38(w:World)(s:ByteArray)(R:LexR)(B:Nat)(hB:w.heap.size+8≤B):OwnFrom B (LexI w s R):=by
 intro k W W' row ⟨ts,v,h1,h2,h3,h4,h5,h6⟩ hg hr;exact⟨ts,v,h1,h2,h3,h4.kept hg (fun j hj e=>by have:=(hr j e.symm).1;omega),h5.kept hg (zpd h5 hr),h6.grown hg h6.size (fun k hk=>by have:=(hr k hk).1;omega)⟩
theorem z36(w:World)(R:LexR)(B:Nat)(hB:w.heap.size+8≤B):OwnFrom B (fun(_:Unit) W=>LexX w R W):=by
 intro k W W' row ⟨i,e,h1,h2,h3,h4,h6⟩ hg hr
 have Z0:∀j,j<w.heap.size+8→some j≠row:=fun j hj e=>by have:=(hr j e.symm).1;omega
 exact⟨i,e,h1,h2.kept hg (Z0 _ (by omega)),h3.kept hg (Z0 _ (by omega)),h4.kept hg (Z0 _ (by omega)),h6.grown hg h6.size (fun k hk=>by have:=(hr k hk).1;omega)⟩
theorem zux{w:World}{B B' e n z:Nat}{v:Value}{xs:List Value}(h:w.ownsRow B e z v n xs)(hB:B'≤B):w.ownsRow B' e z v n xs:=by
 obtain⟨h1,h2⟩:=h;refine⟨h1,?_⟩
 rcases h2 with h |⟨g,cap,cur,e1,e2,e3⟩
 ·exact .inl h
 ·exact .inr ⟨g,cap,cur,e1,Nat.le_trans hB e2,e3⟩
theorem zbx{W W':World}(h:Below W.heap.size W W'):W.grownBy W' none:=⟨h.os,h.tape,h.output,h.size,fun k hk _=>h.block k hk⟩
theorem z1n(l:List Tk)(x:Tk):tks l ++ zhg x=tks (l ++ [x]):=by simp[tks]
theorem z1o(W:World)(B:Nat)(hB:W.heap.size=B)(x:Tk)(t:TypeId):∀(j:Nat) u,(zhg x)[j]?=some u→(W.alloc (.cells (zhg x).toArray t)).cell? ((⟨B,0,none⟩:Addr).add j)=some u:=by
 intro j u hj;rw[show(⟨B,0,none⟩:Addr).add j=⟨B,j,none⟩by simp[Addr.add]<;>omega,←hB];have:=World.alloc_heap_new W (.cells (zhg x).toArray t)
 show(match (W.alloc (.cells (zhg x).toArray t)).heap[W.heap.size]? with |some (.cells c _ _)=>c[j]? |_=>none)=_
 rw[this];simpa using hj
theorem yah(x:Tk):∀u ∈ zhg x,u.oneCell'=true:=by
 intro u hu;simp only[zhg,List.mem_cons,List.not_mem_nil,or_false]at hu
 rcases hu with rfl |rfl |rfl |rfl |rfl<;>rfl
theorem zzf{W W':World}{base e z n:Nat}{v:Value}{xs:List Value}(h:W.ownsRow base e z v n xs)(hg:W.grownBy W' v.ownBlock):KeepsOthers W W' :=
 KeepsOthers.of_grownBy hg fun j o ej hj=>by
  rcases h.2 with⟨rfl,_⟩ |⟨g,cap,cur,rfl,_,Yq,_⟩
  ·simp[Value.ownBlock]at ej
  ·obtain rfl:g=j:=by simpa[Value.ownBlock]using ej
   rw[Yq]at hj;cases hj;rfl
def z09(w:World)(len:Nat)(R:LexR)(e:Ending)(w':World):Prop :=
 (∃i er,R=.no i er∧e=.returned (.tuple #[.slice none 0 0,.int .i64 ((i:Nat):Int),.int .i64 er])∧Below w.heap.size w w') ∨
 (∃ts v,R=.yes ts∧e=.returned (.tuple #[v,.int .i64 (len:Int),.int .i64 0])∧w'.ownsRow w.heap.size 100 5 v (ts:List Tk).length (tks ts)∧Below w.heap.size w w')
theorem zri(s:ByteArray)(w:World)(hs:s.size≤20000):Calls Tryz.prog 43 #[.string s] w (z09 w s.size (lexL 0 s.data.toList)):=by
 obtain⟨R,hR⟩:∃R,R=lexL 0 s.data.toList:=⟨_,rfl⟩
 rw[←hR];have HR:=Z9 hR;clear hR;refine(callsIn_wide (n:=6)).1 ?_;refine callsIn_of_wp_marks Tryz.func43 rfl trivial ?_ rfl;simp only[Tryz.ntmps43,List.size_toArray,List.length_cons,List.length_nil,Nat.reduceAdd,Nat.reduceSub,Array.replicate_succ,Array.replicate_zero,List.push_toArray,List.append_toArray,List.nil_append,List.cons_append]
 have hT:∀f,Fence.wide.fn f:=fun _=>trivial
 have hgt:decide ((20000:Int)<(s.size:Int))=false:=by simp;omega
 gi_wp2_with (gi_at_call 83;refine(callsIn_wide.2 (zul s _ _)).mono ?_;rintro e w' ⟨rfl,rfl⟩);obtain⟨W0,Z7⟩:∃W0,W0=(((((((w.alloc (.cells #[.string s] 9)).alloc (.cells #[.slice none 0 0] 67)).alloc (.cells #[.int .i64 0] 3)).alloc (.cells #[.int .i64 0] 28)).alloc (.cells #[.slice none 0 0] 67)).alloc (.cells #[.int .i64 0] 3)).alloc (.cells #[.string s] 9)).alloc (.cells #[.pointer (some ⟨w.heap.size+5,0,none⟩)] 111):=⟨_,rfl⟩
 have ZS:W0.heap.size=w.heap.size+8:=by rw[Z7];simp
 have hB0:LexB w.heap.size s 0 (.slice none 0 0) W0:=by
  rw[Z7]
  have e:∀(u:World)(t:TypeId)(v:Value)(B:Nat),u.heap.size=B→Boxed (u.alloc (.cells #[v] t)) B t v:=fun u t v B h=>by rw[←h];exact Boxed.new u t v
  refine⟨?_,?_,?_,?_,?_,?_,?_,?_⟩
  ·exact((((((((e w _ _ _ rfl).alloc _).alloc _).alloc _).alloc _).alloc _).alloc _).alloc _)
  ·exact(((((((e _ _ _ _ (by simp)).alloc _).alloc _).alloc _).alloc _).alloc _).alloc _)
  ·exact((((((e _ _ _ _ (by simp)).alloc _).alloc _).alloc _).alloc _).alloc _)
  ·exact(((((e _ _ _ _ (by simp)).alloc _).alloc _).alloc _).alloc _)
  ·exact((((e _ _ _ _ (by simp)).alloc _).alloc _).alloc _)
  ·exact(((e _ _ _ _ (by simp)).alloc _).alloc _)
  ·exact((e _ _ _ _ (by simp)).alloc _)
  ·exact(e _ _ _ _ (by simp))
 have ZW:Below w.heap.size w W0:=by rw[Z7];exact((((((((Below.refl _ w).alloc (Nat.le_refl _) _).alloc (by simp) _).alloc (by simp;omega) _).alloc (by simp;omega) _).alloc (by simp;omega) _).alloc (by simp;omega) _).alloc (by simp;omega) _).alloc (by simp;omega) _
 rw[←Z7];clear Z7;simp only[Nat.add_assoc,Nat.reduceAdd];have HB0:=Z9 hB0;have hS:=zw9 s (by omega) 5 (w.heap.size+6) (w.heap.size+7) (w.heap.size+5) (by omega) W0;have HSZ:=Z9 ZS;obtain⟨i0,hi,ZE,ZO,ZA⟩:=zrm ycm
 refine z27 (by omega) (gf:=139) (lb:=#[.pointer (some ⟨w.heap.size+6,0,none⟩),.pointer (some ⟨w.heap.size+7,0,none⟩)]) rfl (enters_of Tryz.func139 (by kernel_rfl) rfl) hS (Below.refl _ _) rfl
  (LexI w s R) (LexX w R) (z38 w s R _ (by omega)) (z36 w R _ (by omega)) (fun k W h=>by
   obtain⟨ts,v,h1,_,_,h4,_⟩:=h
   exact⟨h1,h4.c0,h4.c1,h4.e⟩) 0 ⟨[],.slice none 0 0,Nat.zero_le _,Nat.zero_le _,by rw[List.drop_zero,znl,HR.out],hB0,World.ownsRow_nil _ _ _ _,ZW⟩ ?a1 ?assign ?body ?done ?stop
 case assign =>
  intro l x W K hK;gi_wp2;exact hK
 case body =>
  rintro l k W ⟨ts,v,hk,Z6,WB,hB,ZL,ZK⟩ Up;obtain⟨T,Tw⟩:∃T,T=k+skS false (s.data.toList.drop k):=⟨_,rfl⟩
  have hTs:T<s.size:=by rw[Tw];exact Up
  have hTI:T<20000:=by omega
  have XL:zo7 s k=.int .i64 (T:Int):=by unfold zo7;rw[←Tw]
  simp only[XL];have hone:=Z9 (z9f s T W (by omega) hTs);have hct:=hB.t.cell
  have hT2:∀f,(Fence.wide.inRound l).fn f:=fun _=>trivial
  have Xn:1≤6-1-1:=by omega
  have Yh:skS false (s.data.toList.drop k)<(s.data.toList.drop k).length:=by rw[List.length_drop,zab];omega
  have VZ:(s.data.toList.drop k).drop (skS false (s.data.toList.drop k))=s.data.toList.drop T:=by rw[List.drop_drop,Tw]
  have HB:=Z9 hB;have YP:=Z9 ZL;have HBL:=Z9 ZK;have HTD:=Z9 Tw;have HPRE:=Z9 WB;have HSK:=Z9 Yh;have HDD:=Z9 VZ;clear hB ZL ZK Tw WB Yh VZ Up XL hT
  cases WH:oneL (s.data.toList.drop T)with
  |no er =>
   have he:(er != 0)=true:=by simpa using ztd WH
   have Xy:=Z9 WH;rw[WH]at hone;clear WH;gi_wp2_with (gi_at_call 84;refine(CallsIn.inRound l (callsIn_wide.2 hone.out)).mono ?_;rintro e w1 ⟨⟨K,TT,Q,D,en,rfl⟩,ZJ⟩;have Y7:=(HB.out.kept (zbx ZJ) (by simp)).kept (World.grownBy_alloc w1 (.cells #[.int .u8 K,.string TT,.string Q,.int .i64 D,.int .i64 (T:Int)] 100) none) (by simp);have f1:=Y7.r0.cell;have f2:=Y7.r1.cell;have f3:=Y7.r2.cell;have f4:=Y7.r0.frozen;have f5:=Y7.r1.frozen;have f6:=Y7.r2.frozen;have f7:=Y7.lt;have ZT:=Z9 Y7;have HBE:=Z9 ZJ;clear Y7 ZJ);refine⟨KeepsOthers.from ?_ _,T,er,?_,?_,?_,?_,?_⟩
   ·exact((((KeepsOthers.of_grownBy (zbx HBE.out) (by simp)).trans (KeepsOthers.alloc _ _)).trans (KeepsOthers.setCell _ _ _)).trans (KeepsOthers.setCell _ _ _)).trans (KeepsOthers.setCell _ _ _)
   ·have h1:=zek (off:=k) HSK.out (by rw[HDD.out];exact Xy.out)
    rw[←HPRE.out,h1,←HTD.out];rfl
   ·exact((ZT.out.r0.set _).other (by omega) _).other (by omega) _
   ·exact((ZT.out.r1.other (by omega) _).set _).other (by omega) _
   ·exact((ZT.out.r2.other (by omega) _).other (by omega) _).set _
   ·have hW:Below w.heap.size w w1:=HBL.out.grown (zbx HBE.out) HBL.out.size (by simp)
    exact(((hW.alloc hW.size _).setCell (by simp) _).setCell (by simp) _).setCell (by simp) _
  |yes t m =>
   have WW:=zd6 WH;have WX:T+m≤s.size:=by have:=zi2 WH;rw[List.length_drop,zab]at this;omega
   have Xy:=Z9 WH;rw[WH]at hone;clear WH
   obtain⟨x,hx⟩:∃x:Tk,x={ t with place:=(T:Int) }:=⟨_,rfl⟩
   obtain⟨O,hO⟩:∃O:Obj,O=.cells #[.int .u8 t.kind,.string t.text,.string t.rat,.int .i64 t.date,.int .i64 (T:Int)] 100:=⟨_,rfl⟩
   have hxO:O=.cells (zhg x).toArray 100:=by rw[hO,hx];rfl
   have HX:=Z9 hx;have HXO:=Z9 hxO;have HO:=Z9 hO;have hktT:k≤T:=by have:=HTD.out;omega
   have ZH:ts.length<20000:=by omega
   have HTT:=Z9 hktT;clear hx hxO hO hktT
   gi_wp2_with (first
    |(
     gi_at_call 84
     refine(CallsIn.inRound l (callsIn_wide.2 hone.out)).mono ?_;rintro e w1 ⟨rfl,ZJ⟩;have Y7:=(HB.out.kept (zbx ZJ) (by simp)).kept (World.grownBy_alloc w1 (.cells #[.int .u8 t.kind,.string t.text,.string t.rat,.int .i64 t.date,.int .i64 (T:Int)] 100) none) (by simp);have f1:=Y7.l.cell;have f2:=Y7.e.cell;have f4:=Y7.l.frozen;have f5:=Y7.e.frozen;have f7:=Y7.lt;have ZT:=Z9 Y7;have HBE:=Z9 ZJ
     clear Y7 ZJ)
    |(
     gi_at_builtin
     have HOA:=Z9 (((YP.out.kept (zbx HBE.out) (Classical.em _)).alloc (.cells #[.int .u8 t.kind,.string t.text,.string t.rat,.int .i64 t.date,.int .i64 (T:Int)] 100)).alloc (.cells #[.int .u8 t.kind,.string t.text,.string t.rat,.int .i64 t.date,.int .i64 (T:Int)] 100))
     refine wpListIn_append_own _ rfl (.tmp 28) (.tmp 30) 67 rfl (w.heap.size+8) 100 i0 z6q 5 56 Tryz.underlying67 hi ZE ZO ZA rfl (by decide) _ _ _ rfl HOA.out ⟨w1.heap.size+1,0,none⟩ 1 1 (zhg x) rfl rfl ?c1 ?c2 ?c3 ?c4 ?c5 ?_))
   case c1=>rw[←HO.out,HXO.out];exact z1o _ _ (by simp) x _
   case c2=>exact yah x
   case c3=>unfold maxLen;omega
   case c4=>omega
   case c5=>simp;simp at f7;omega
   intro v' w2 Ze ZG _
   obtain⟨g',cap',rfl⟩:∃g cap,v'=.slice (some ⟨g,0,none⟩) (ts.length+1) cap:=by
    rcases Ze.2 with⟨_,h0⟩ |⟨g,cap,cur,rfl,_⟩
    ·omega
    ·exact⟨g,cap,rfl⟩
   have HOA:=Z9 (((YP.out.kept (zbx HBE.out) (Classical.em _)).alloc (.cells #[.int .u8 t.kind,.string t.text,.string t.rat,.int .i64 t.date,.int .i64 (T:Int)] 100)).alloc (.cells #[.int .u8 t.kind,.string t.text,.string t.rat,.int .i64 t.date,.int .i64 (T:Int)] 100))
   have Zo:∀j,j<w.heap.size+8→some j≠v.ownBlock:=fun j hj e=>by have:=(HOA.out.lt j e.symm).1;omega
   have Z3:=(ZT.out.kept (World.grownBy_alloc _ (.cells #[.int .u8 t.kind,.string t.text,.string t.rat,.int .i64 t.date,.int .i64 (T:Int)] 100) none) (by simp)).kept ZG Zo;have g1:=Z3.l.cell;have g2:=Z3.e.cell;have g3:=Z3.l.frozen;have g4:=Z3.e.frozen;have ZY:=Z9 Z3;have KO:Hid (KeepsOthers W w2):=((((KeepsOthers.of_grownBy (zbx HBE.out) (by simp)).trans (KeepsOthers.alloc _ _)).trans (KeepsOthers.alloc _ _)).trans (zzf HOA.out ZG))
   have BL2:Hid (Below w.heap.size w w2):=by
    have hW:Below w.heap.size w w1:=HBL.out.grown (zbx HBE.out) HBL.out.size (by simp);have ZU:=(hW.alloc hW.size (.cells #[.int .u8 t.kind,.string t.text,.string t.rat,.int .i64 t.date,.int .i64 (T:Int)] 100));have YD:=ZU.alloc ZU.size (.cells #[.int .u8 t.kind,.string t.text,.string t.rat,.int .i64 t.date,.int .i64 (T:Int)] 100);exact YD.grown ZG YD.size (fun k hk=>by have:=(HOA.out.lt k hk).1;omega)
   have HOWN2:=Z9 Ze;clear Ze ZG Zo Z3;gi_wp2;have Yq:w.heap.size+8≤g':=(HOWN2.out.lt g' rfl).1;refine⟨KeepsOthers.from ((KO.out.trans (KeepsOthers.setCell _ _ _)).trans (KeepsOthers.setCell _ _ _)) _,T+m,by have:=HTT.out;omega,ts ++ [x],.slice (some ⟨g',0,none⟩) (ts.length+1) cap',WX,by rw[List.length_append];show ts.length+1≤_;have:=HTT.out;omega,?_,?_,?_,?_⟩
   ·have h1:=zcc (off:=k) HSK.out (by rw[HDD.out];exact Xy.out)
    rw[←HTD.out,←HX.out]at h1;rw[←HPRE.out,h1,zyb,List.drop_drop,←Nat.add_assoc,←HTD.out]
   ·have:=(ZY.out.setL (.slice (some ⟨g',0,none⟩) (ts.length+1) cap')).setE (T+m)
    rw[Int.natCast_add]at this;exact this
   ·have h1:=HOWN2.out
    rw[z1n]at h1;rw[List.length_append];exact(h1.kept (grownBy_setCell' _ _ _) (.inr (fun e=>by simp[Value.ownBlock]at e;omega))).kept (grownBy_setCell' _ _ _) (.inr (fun e=>by simp[Value.ownBlock]at e;omega))
   ·exact(BL2.out.setCell (by simp) _).setCell (by simp) _
 case done =>
  rintro D k W hD hF ⟨ts,v,hk,Z6,WB,hB,ZL,ZK⟩ hK
  obtain⟨va,vn,vc,rfl⟩:∃a n c,v=.slice a n c:=by
   rcases ZL.2 with⟨rfl,_⟩ |⟨g,cap,cur,rfl,_⟩
   ·exact⟨_,_,_,rfl⟩
   ·exact⟨_,_,_,rfl⟩
  have c0:=hB.t.cell;have c1:=hB.r0.cell;have c2:=hB.r1.cell;have c3:=hB.r2.cell;have c4:=hB.l.cell;have c5:=hB.r0.frozen;have c6:=hB.r1.frozen;have c7:=hB.r2.frozen;have HB:=Z9 hB;have YP:=Z9 ZL;have HBL:=Z9 ZK;have HPRE:=Z9 WB;have HF:=Z9 hF;have HK:=Z9 hK;have HW:=HB.out.lt;clear hB ZL ZK WB hF hK;gi_wp2;refine wpIn_wide.2 ?_;go_region;obtain⟨FW,YC⟩:∃FW,FW=(((W.setCell ⟨w.heap.size+1,0,none⟩ (.slice va vn vc)).setCell ⟨w.heap.size+2,0,none⟩ (.int .i64 (s.size:Int))).setCell ⟨w.heap.size+3,0,none⟩ (.int .i64 0)).drew:=⟨_,rfl⟩
  rw[←YC];have b1:Boxed FW (w.heap.size+1) 67 (.slice va vn vc):=by rw[YC];exact((HB.out.r0.set _).other (by omega) _).other (by omega) _
  have b2:Boxed FW (w.heap.size+2) 3 (.int .i64 (s.size:Int)):=by rw[YC];exact((HB.out.r1.other (by omega) _).set _).other (by omega) _
  have b3:Boxed FW (w.heap.size+3) 28 (.int .i64 0):=by rw[YC];exact((HB.out.r2.other (by omega) _).other (by omega) _).set _
  have bK:FW.heap[D]?=some (.deferred (some [])):=by
   rw[YC]
   show(((W.setCell ⟨w.heap.size+1,0,none⟩ (.slice va vn vc)).setCell ⟨w.heap.size+2,0,none⟩ (.int .i64 (s.size:Int))).setCell ⟨w.heap.size+3,0,none⟩ (.int .i64 0)).heap[D]?=_
   rw[Below.heap_setCell _ ⟨w.heap.size+3,0,none⟩ _ D (by show D≠w.heap.size+3;omega),Below.heap_setCell _ ⟨w.heap.size+2,0,none⟩ _ D (by show D≠w.heap.size+2;omega),Below.heap_setCell _ ⟨w.heap.size+1,0,none⟩ _ D (by show D≠w.heap.size+1;omega)];exact HK.out
  have bB:Below w.heap.size w FW:=by rw[YC];exact(((HBL.out.setCell (by simp) _).setCell (by simp) _).setCell (by simp) _).drew
  have Z0:∀B,B<w.heap.size+8→(Value.slice va vn vc).ownBlock=none∨(Value.slice va vn vc).ownBlock≠some B:=fun B hB=>.inr (fun e=>by have:=(YP.out.lt B e).1;omega)
  have bO:FW.ownsRow (w.heap.size+8) 100 5 (.slice va vn vc) ts.length (tks ts):=by
   rw[YC];have o1:=YP.out.kept (grownBy_setCell' W (w.heap.size+1) (.slice va vn vc)) (Z0 (w.heap.size+1) (by omega));have o2:=o1.kept (grownBy_setCell' _ (w.heap.size+2) (.int .i64 (s.size:Int))) (Z0 (w.heap.size+2) (by omega));have o3:=o2.kept (grownBy_setCell' _ (w.heap.size+3) (.int .i64 0)) (Z0 (w.heap.size+3) (by omega));exact o3
  clear YC c0 c1 c2 c3 c4 c5 c6 c7;gi_wp2;have e1:Boxed (FW.putObj D (.deferred none)) (w.heap.size+1) 67 (.slice va vn vc):=b1.kept (grownBy_putObj' FW D (.deferred none)) (fun e=>by injection e with e;omega);have e2:Boxed (FW.putObj D (.deferred none)) (w.heap.size+2) 3 (.int .i64 (s.size:Int)):=b2.kept (grownBy_putObj' FW D (.deferred none)) (fun e=>by injection e with e;omega);have e3:Boxed (FW.putObj D (.deferred none)) (w.heap.size+3) 28 (.int .i64 0):=b3.kept (grownBy_putObj' FW D (.deferred none)) (fun e=>by injection e with e;omega);have q1:=e1.cell;have q2:=e2.cell;have q3:=e3.cell
  have Y6:skS false (s.data.toList.drop k)=(s.data.toList.drop k).length:=by
   have:=HF.out;rw[List.length_drop,zab];omega
  have hRR:R=.yes ts:=by
   rw[←HPRE.out,zbc Y6];simp[preL]
  have oP:(FW.putObj D (.deferred none)).ownsRow (w.heap.size+8) 100 5 (.slice va vn vc) ts.length (tks ts):=bO.kept (grownBy_putObj' FW D (.deferred none)) (zpd bO (C:=0) (fun r e=>by injection e with e;exact⟨Nat.zero_le _,_,by rw[←e];exact bK,rfl⟩));refine⟨by simp,.inl ⟨_,_,rfl,run_takeDeferred bK,?_⟩⟩;refine⟨.tuple #[.slice va vn vc,.int .i64 (s.size:Int),.int .i64 0],?_,.inr ⟨ts,.slice va vn vc,hRR,rfl,?_,bB.grown (grownBy_putObj' FW D (.deferred none)) bB.size (fun k e=>by injection e with e;omega)⟩⟩
  ·simp[results,Tryz.results43,go_sem,q1,q2,q3]
  ·exact zux oP (by omega)
 case stop =>
  rintro D W hD ⟨i,er,hRe,h1,h2,h3,ZK⟩ hK;have c1:=h1.cell;have c2:=h2.cell;have c3:=h3.cell;gi_wp2;have e1:Boxed (W.putObj D (.deferred none)) (w.heap.size+1) 67 (.slice none 0 0):=h1.kept (grownBy_putObj' W D (.deferred none)) (fun e=>by injection e with e;omega);have e2:Boxed (W.putObj D (.deferred none)) (w.heap.size+2) 3 (.int .i64 (i:Int)):=h2.kept (grownBy_putObj' W D (.deferred none)) (fun e=>by injection e with e;omega);have e3:Boxed (W.putObj D (.deferred none)) (w.heap.size+3) 28 (.int .i64 er):=h3.kept (grownBy_putObj' W D (.deferred none)) (fun e=>by injection e with e;omega);have q1:=e1.cell
  have q2:=e2.cell;have q3:=e3.cell;refine⟨by simp,.inl ⟨_,_,rfl,run_takeDeferred hK,?_⟩⟩;refine⟨.tuple #[.slice none 0 0,.int .i64 (i:Int),.int .i64 er],?_,.inl ⟨i,er,hRe,rfl,ZK.grown (grownBy_putObj' W D (.deferred none)) ZK.size (fun k e=>by injection e with e;omega)⟩⟩;simp[results,Tryz.results43,go_sem,q1,q2,q3]
theorem ybe{W:World}{base n rb:Nat}{v:Value}{ts:List Tk}(h:W.ownsRow base 100 5 v n (tks ts))(hn:ts.length=n):∃a cap,v=.slice a ts.length cap∧ts.length≤cap∧cap≤maxLen∧(∀W':World,W.heap.size≤rb→W.heap.size≤W'.heap.size→(∀g,base≤g→g<W.heap.size→W'.heap[g]?=W.heap[g]?)→TksAt W' rb a ts):=by
 rcases h.2 with⟨rfl,h0⟩ |⟨g,cap,cur,rfl,hg,hc,Y6,hm,YG,ht⟩
 ·subst h0
  have:ts=[]:=List.length_eq_zero_iff.1 hn;subst this;exact⟨none,0,rfl,Nat.le_refl _,by decide,fun _ _ _ _=>.inl rfl⟩
 ·subst hn
  have V1:g<W.heap.size:=(Z8 hc);refine⟨_,cap,rfl,Y6,hm,fun W' YO hz hk=>.inr ⟨g,0,rfl,by omega,by omega,fun i hi j hj => ?_⟩⟩;have h1:(cur.toList.take (ts.length*5))[i*5+j]?=(tks ts)[i*5+j]?:=by rw[ht]
  have Z4:i*5+j<ts.length*5:=by
   have:(i+1)*5≤ts.length*5:=Nat.mul_le_mul_right 5 hi;omega
  rw[List.getElem?_take_of_lt Z4]at h1
  have h2:∀(l:List Tk)(i:Nat)(hi:i<l.length)(j:Nat),j<5→(tks l)[i*5+j]?=(tkC l[i])[j]?:=by
   intro l
   induction l with
   |nil=>intro i hi;exact absurd hi (Nat.not_lt_zero _)
   |cons t l ih =>
    intro i hi j hj;have e:tks (t :: l)=zhg t ++ tks l:=by simp[tks]
    rw[e]
    match i,hi with
    |0,_=>rw[Nat.zero_mul,Nat.zero_add,List.getElem?_append_left (by rw[zcl];exact hj)];rfl
    |i+1,hi=>rw[List.getElem?_append_right (by rw[zcl];omega),zcl,show(i+1)*5+j-5=i*5+j by omega];exact ih i (by simpa using hi) j hj
  rw[Nat.zero_add]
  show(match W'.heap[g]? with |some (.cells c _ _)=>c[i*5+j]? |_=>none)=_
  rw[hk g hg V1,hc,←h2 ts i hi j hj,←h1];simp
theorem zgn{l:List UInt8}{ts:List Tk}(h:lexL 0 l=.yes ts):ts.length≤l.length:=by
 have key:∀(n off:Nat)(l:List UInt8),l.length≤n→∀{ts:List Tk},lexL off l=.yes ts→ts.length≤l.length:=by
  intro n
  induction n with
  |zero =>
   intro off l hl ts h;have:l=[]:=List.length_eq_zero_iff.1 (by omega);subst this;rw[zbc (by rfl)]at h
   injection h with h;subst h;exact Nat.le_refl _
  |succ n ih =>
   intro off l hl ts h
   by_cases hs:skS false l<l.length
   ·cases ho:oneL (l.drop (skS false l))with
    |no e=>rw[zek hs ho]at h;cases h
    |yes t k =>
     have hk:=zd6 ho;have Y6:=zi2 ho;rw[zcc hs ho]at h
     cases hr:lexL (off+skS false l+k) (l.drop (skS false l+k))with
     |no i e=>rw[hr]at h;cases h
     |yes us =>
      rw[hr]at h;have:=ih _ _ (by rw[List.length_drop]at Y6 ⊢;omega) hr
      injection h with h
      rw[←h,List.length_cons];rw[List.length_drop]at this Y6;omega
   ·have:=zgi false l
    rw[zbc (by omega)]at h
    injection h with h;subst h;exact Nat.zero_le _
 exact key _ 0 l (Nat.le_refl _) h
end Go.Proofs.YtkobkpepgdddeaaGreatDoor
