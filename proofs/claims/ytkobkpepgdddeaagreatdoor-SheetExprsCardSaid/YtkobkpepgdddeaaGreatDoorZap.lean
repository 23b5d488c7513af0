/-
  The program's fraction of two integers: Make. No condition.
-/
import Derived.Test.YtkobkpepgdddeaaGreatDoorZao
import Derived.Test.YtkobkpepgdddeaaGreatDoorZag
import Derived.Test.YtkobkpepgdddeaaGreatDoorZai
import Derived.Test.YtkobkpepgdddeaaGreatDoorZah
import Derived.Laws.RangeString
namespace Go.Proofs.YtkobkpepgdddeaaGreatDoor
open Go.RowKit Go.Shelf
set_option maxHeartbeats 16000000
set_option maxRecDepth 100000
def QrB(W:World)(q r:ByteArray)(e:Ending)(w':World):Prop:=e=.returned (.tuple #[.string q,.string r,.int .i64 0])∧Below W.heap.size W w'
def StE(W:World)(q:ByteArray)(n:Int)(e:Ending)(w':World):Prop:=e=.returned (.tuple #[.string q,.int .i64 n])∧Below W.heap.size W w'
theorem z39(s t g g' n d r1 r2:ByteArray)(neg one:Bool)(w:World)(h0:0<t.size)(t0:(t.toList == [48])=false)(t1:((t[0].toNat:Int) == 45)=neg)(hg':g'=if neg=true then⟨#[45]⟩ ++ g else g)
 (HG:Hid (∀W,Calls Tryz.prog 205 #[.string s,.string t] W (zh4 W g)))
 (HN:Hid (∀W,Calls Tryz.prog 217 #[.string s,.string g'] W (QrB W n r1)))
 (HD:Hid (∀W,Calls Tryz.prog 217 #[.string t,.string g'] W (QrB W d r2)))
 (t2:(d.toList == [49])=one) (hl:n.size+d.size≤1000000) (XL:g.size≤100000) :
 Calls Tryz.prog 186 #[.string s,.string t] w (StE w (if one=true then n else n ++ ⟨#[47]⟩ ++ d) 0):=by
 cases neg<;>cases one<;>simp only[if_true,Bool.false_eq_true,if_false]at hg' ⊢ <;> subst hg'
 all_goals
  go_enter Tryz.func186,Tryz.ntmps186;go_wp2_with fail;refine(HG.out _).mono ?_;rintro e w1 ⟨rfl,b1⟩;have B1:=Z9 b1;clear b1;go_wp2_with fail;refine(HN.out _).mono ?_;rintro e w2 ⟨rfl,b2⟩;have B2:=Z9 (B1.out.trans (b2.mono B1.out.size));clear b2;go_wp2_with fail;refine(HD.out _).mono ?_;rintro e w3 ⟨rfl,b3⟩;have B3:=Z9 (B2.out.trans (b3.mono B2.out.size));clear b3;go_wp2_with fail;go_ret2;exact⟨rfl,B3.out⟩
def ratN(x y:Int):Int:=(if y<0 then -x else x) / (Nat.gcd x.natAbs y.natAbs:Int)
def ratD(x y:Int):Int:=(y.natAbs:Int) / (Nat.gcd x.natAbs y.natAbs:Int)
def ratT(n d:Int):List UInt8:=if d=1 then txtZ n else txtZ n ++ 47 :: txtZ d
theorem zer(a b:ByteArray):(a ++ b).data.toList=a.data.toList ++ b.data.toList:=by simp
theorem z38(s t:ByteArray)(x y:Int)(w:World)(hs:s.size≤100000)(ht:t.size≤100000)(hx:s.data.toList=txtZ x)(hy:t.data.toList=txtZ y)(bx:bigZ x=false)(byy:bigZ y=false)(h0:y≠0) :
 Calls Tryz.prog 186 #[.string s,.string t] w (z19 w (ratT (ratN x y) (ratD x y)) 0):=by
 have VI:0<Nat.gcd x.natAbs y.natAbs:=Nat.gcd_pos_of_pos_right _ (by omega)
 have Ya:bigZ (Nat.gcd x.natAbs y.natAbs:Int)=false:=by
  refine zca (x:=y) ?_ byy;simp only[Int.natAbs_natCast];exact Nat.gcd_le_right _ (by omega)
 have HG:Hid (∀W,Calls Tryz.prog 205 #[.string s,.string t] W (zh4 W ⟨(txtZ (Nat.gcd x.natAbs y.natAbs:Int)).toArray⟩)):=fun W=>zrg s t x y W hs ht hx hy bx byy
 obtain⟨G,hG⟩:∃G,G=Nat.gcd x.natAbs y.natAbs:=⟨_,rfl⟩
 have Xo:0<t.size:=by
  rw[←zab,hy];unfold txtZ
  split
  ·simp
  ·exact List.length_pos_iff.2 (zhd _)
 have ht0:(t.toList == [48])=false:=by
  rw[zac,hy,list_beq];intro h;have:txtZ y=txtZ 0:=h;exact h0 (zgp this)
 have hhead:=zcf t Xo;rw[hy]at hhead
 have Yd:((t[0].toNat:Int) == 45)=decide (y<0):=by
  have hh:=zfg y;rw[hhead]at hh;rw[Bool.eq_iff_iff,beq_iff_eq,decide_eq_true_eq,←hh]
  constructor
  ·intro h;rw[zt9 (c:=t[0]) (n:=45) h (by omega)];rfl
  ·intro h;injection h with h;rw[h];rfl
 unfold ratN ratD;rw[←hG]at HG VI Ya ⊢;obtain⟨g,hg⟩:∃g:ByteArray,g=⟨(txtZ (G:Int)).toArray⟩:=⟨_,rfl⟩
 rw[←hg]at HG
 -- the divisor,its sign
 have key:∀z:Int,z=(if y<0 then -(G:Int)else(G:Int))→∀g':ByteArray,g'=(if decide (y<0)=true then⟨#[45]⟩ ++ g else g)→g'.data.toList=txtZ z∧bigZ z=false∧z≠0∧g'.size≤100000:=by
  intro z hz g' hg'
  have e1:g'.data.toList=txtZ z:=by
   rw[hg',hz,hg]
   by_cases Tp:y<0
   ·rw[if_pos (by simpa using Tp),if_pos Tp,zer,zh7 VI,zdz];rfl
   ·rw[if_neg (by simpa using Tp),if_neg Tp]
  have e2:bigZ z=false:=by
   refine zca (x:=(G:Int)) ?_ Ya
   rw[hz];split<;>simp
  refine⟨e1,e2,by rw[hz];split<;>omega,?_⟩;rw[←zab,e1];have:=zbz e2;unfold txtZ
  split<;>simp[zd0]<;>omega
 obtain⟨z,hz⟩:∃z:Int,z=(if y<0 then -(G:Int)else(G:Int)):=⟨_,rfl⟩
 obtain⟨g',hg'⟩:∃g':ByteArray,g'=(if decide (y<0)=true then⟨#[45]⟩ ++ g else g):=⟨_,rfl⟩
 obtain⟨k1,k2,k3,k4⟩:=key z hz g' hg'
 have hn:=fun W=>zw6 s g' x z W hs k4 hx k1 bx k2 k3
 have hd:=fun W=>zw6 t g' y z W ht k4 hy k1 byy k2 k3
 have e1:x / z=(if y<0 then -x else x) / (G:Int):=by
  rw[hz];split
  ·rw[Int.ediv_neg]
   have:(G:Int) ∣ x:=by rw[hG];exact Int.ofNat_dvd_left.2 (Nat.gcd_dvd_left _ _)
   rw[Int.neg_ediv_of_dvd this]
  ·rfl
 have e2:y / z=(y.natAbs:Int) / (G:Int):=by
  have:(G:Int) ∣ y:=by rw[hG];exact Int.ofNat_dvd_left.2 (Nat.gcd_dvd_right _ _)
  rw[hz];split
  ·rename_i h
   rw[Int.ediv_neg,←Int.neg_ediv_of_dvd this,show -y=(y.natAbs:Int)by omega]
  ·rename_i h
   rw[show(y.natAbs:Int)=y by omega]
 rw[e1]at hn;rw[e2]at hd
 obtain⟨N,hN⟩:∃N,N=(if y<0 then -x else x) / (G:Int):=⟨_,rfl⟩
 obtain⟨D,hD⟩:∃D,D=(y.natAbs:Int) / (G:Int):=⟨_,rfl⟩
 have bN:bigZ N=false:=by
  refine zca (x:=x) ?_ bx;rw[hN];refine Nat.le_trans (Int.natAbs_ediv_le_natAbs _ _) ?_
  split<;>simp
 have bD:bigZ D=false:=by
  refine zca (x:=y) ?_ byy;rw[hD];refine Nat.le_trans (Int.natAbs_ediv_le_natAbs _ _) ?_;simp
 rw[←hN]at hn ⊢;rw[←hD]at hd ⊢
 have len:∀z:Int,bigZ z=false→(txtZ z).length≤1001:=fun z h=>by
  have:=zbz h;unfold txtZ
  split<;>simp[zd0]<;>omega
 have l1:=len N bN;have l2:=len D bD
 have hone:((⟨(txtZ D).toArray⟩:ByteArray).toList == [49])=decide (D=1):=by
  rw[zac,Bool.eq_iff_iff,beq_iff_eq,decide_eq_true_eq]
  constructor
  ·intro h;exact zgp (h.trans txtZ_1.symm)
  ·intro h;rw[h];exact txtZ_1
 have:=z39 s t g g' ⟨(txtZ N).toArray⟩ ⟨(txtZ D).toArray⟩ _ _ _ _ w Xo ht0 Yd hg' HG (Z9 hn) (Z9 hd) hone (by
  rw[←zab,←zab];simp;omega) (by rw[hg,←zab];have:=len _ Ya;simp;omega)
 refine this.mono fun e w' ⟨h1,h2⟩=>⟨?_,h2⟩
 rw[h1]
 have e3:(if decide (D=1)=true then(⟨(txtZ N).toArray⟩:ByteArray)else⟨(txtZ N).toArray⟩ ++ ⟨#[47]⟩ ++ ⟨(txtZ D).toArray⟩)=⟨(ratT N D).toArray⟩:=by
  apply Go.WideShapes.bytes_inj;unfold ratT
  by_cases Xr:D=1
  ·simp[Xr]
  ·simp[Xr]
 rw[e3]
def z1b(n d:Int):Prop:=0<d∧Nat.gcd n.natAbs d.natAbs=1∧bigZ n=false∧bigZ d=false
def P3(W:World)(n d:ByteArray)(f:Int)(e:Ending)(w':World):Prop:=e=.returned (.tuple #[.string n,.string d,.int .i64 f])∧Below W.heap.size W w'
def dgQ(c:UInt8):Bool:=decide (48≤c.toNat∧c.toNat≤57)
def blQ(c:UInt8):Bool:=decide (c.toNat=32∨c.toNat=9∨c.toNat=10)
def wdQ(c:UInt8):Bool:=letB c ||othB c
def spn(p:UInt8→Bool):List UInt8→Nat
 | []=>0
 |c :: l=>if p c=true then spn p l+1 else 0
def skS:Bool→List UInt8→Nat
 |_,[]=>0
 |false,c :: l=>if blQ c=true then skS false l+1 else if c.toNat=35 then skS true l+1 else 0
 |true,c :: l=>if c.toNat=10 then skS false l+1 else skS true l+1
def endQ:List UInt8→Bool
 | []=>true
 |c :: _ => !wdQ c && decide (c.toNat≠34∧c.toNat≠46∧c.toNat≠47)
def dayQ:List UInt8→Bool
 |c0 :: c1 :: c2 :: c3 :: c4 :: c5 :: c6 :: c7 :: c8 :: c9 :: _=>dgQ c0 && dgQ c1 && dgQ c2 && dgQ c3 && decide (c4.toNat=45) && dgQ c5 && dgQ c6 && decide (c7.toNat=45) && dgQ c8 && dgQ c9
 |_=>false
def datV(l:List UInt8):Option Nat :=
 let y:=numV (l.take 4)
 let m:=numV ((l.drop 5).take 2)
 let d:=numV ((l.drop 8).take 2)
 if 1900≤y∧1≤m∧m≤12∧1≤d∧d≤zcu y m∧yd y+mdR y (m-1)+d≤100000 then some (yd y+mdR y (m-1)+d-1)else none
def frcQ:List UInt8→Bool
 |c :: d :: _=>decide (c.toNat=46∨c.toNat=47) && dgQ d
 |_=>false
def dgH:List UInt8→Bool
 | []=>false
 |c :: _=>dgQ c
def bsL(l:List UInt8):ByteArray:=⟨l.toArray⟩
inductive OneR where
 |no (e:Int)
 |yes (t:Tk) (n:Nat)
def zgg(neg:Bool)(front:List UInt8)(mk:Nat)(back:List UInt8):List UInt8 :=
 let X:Nat:=if mk=46 then numV (front ++ back)else numV front
 let Y:Nat:=if mk=46 then 10 ^ back.length else if mk=47 then numV back else 1
 ratT (ratN (if neg=true then -(X:Int)else(X:Int)) (Y:Int)) (ratD (if neg=true then -(X:Int)else(X:Int)) (Y:Int))
def numO(neg:Bool)(front:List UInt8)(mk:Nat)(back:List UInt8)(ended:Bool)(n:Nat):OneR :=
 if (1<front.length∧front.head?=some 48)∨ended=false∨(mk=47∧back.head?=some 48)then .no 12
 else if 1000<front.length∨(mk=46∧1000<front.length+back.length)∨1000<back.length then .no 14
 else .yes ⟨3,bsL [],bsL (zgg neg front mk back),0,0⟩ n
def numS(l:List UInt8):Nat:=if l.head?=some 45 then 1 else 0
def numK(l:List UInt8):OneR :=
 let s:=numS l
 let a:=spn dgQ (l.drop s)
 let r:=l.drop (s+a)
 if frcQ r=true then
  let b:=spn dgQ (r.drop 1)
  numO (decide (s=1)) ((l.drop s).take a) (r.headD 0).toNat ((r.drop 1).take b) (endQ (r.drop (1+b))) (s+a+1+b)
 else numO (decide (s=1)) ((l.drop s).take a) 0 [] (endQ r) (s+a)
def oneL(l:List UInt8):OneR :=
 match l with
 | []=>.no 12
 |c :: r =>
  if letB c=true then
   if 40<spn wdQ r+1 then .no 12 else .yes ⟨1,bsL ((c :: r).take (spn wdQ r+1)),bsL [],0,0⟩ (spn wdQ r+1)
  else if c.toNat=34 then
   let k:=spn (fun x=>decide (x.toNat≠34)) r
   if k<r.length∧nmB (r.take k)=true then .yes ⟨2,bsL (r.take k),bsL [],0,0⟩ (k+2)else .no 12
  else if dayQ (c :: r)=true then
   if endQ ((c :: r).drop 10)=true then
    match datV (c :: r)with
    |some day=>.yes ⟨4,bsL [],bsL [],day,0⟩ 10
    |none=>.no 40
   else .no 12
  else if dgQ c=true∨(c.toNat=45∧dgH r=true)then numK (c :: r)
  else if mkB c=true then .yes ⟨5,bsL [c],bsL [],0,0⟩ 1
  else .no 12
inductive LexR where
 |no (place:Nat) (e:Int)
 |yes (l:List Tk)
def pre1(t:Tk):LexR→LexR
 | .no i e=>.no i e
 | .yes l=>.yes (t :: l)
def preL(ts:List Tk):LexR→LexR
 | .no i e=>.no i e
 | .yes l=>.yes (ts ++ l)
def lexL(off:Nat)(l:List UInt8):LexR :=
 match _h:l.drop (skS false l)with
 | []=>.yes []
 |c :: r =>
  match oneL (c :: r)with
  | .no e=>.no (off+skS false l) e
  | .yes t n=>pre1 { t with place:=((off+skS false l:Nat):Int) } (lexL (off+skS false l+n) (r.drop (n-1)))
termination_by l.length
decreasing_by
 have h1:=congrArg List.length _h;simp at h1 ⊢;omega
theorem zd4(p:UInt8→Bool)(l:List UInt8):spn p l≤l.length:=by
 induction l with
 |nil=>exact Nat.le_refl _
 |cons c l ih=>unfold spn;split<;>simp<;>omega
theorem ziz(b:Bool)(l:List UInt8):skS b l≤l.length:=by
 induction l generalizing b with
 |nil=>cases b<;>exact Nat.le_refl _
 |cons c l ih =>
  have h1:=ih false;have h2:=ih true
  cases b
  ·unfold skS;split
   ·simp;omega
   ·split<;>simp<;>omega
  ·unfold skS;split<;>simp<;>omega
theorem zlj{neg:Bool}{front:List UInt8}{mk:Nat}{back:List UInt8}{ended:Bool}{n:Nat}{t:Tk}{m:Nat}(h:numO neg front mk back ended n=.yes t m):m=n:=by
 unfold numO at h
 split at h
 ·cases h
 ·split at h
  ·cases h
  ·injection h with _ h;exact h.symm
theorem z13{c:UInt8}(h:dgQ c=true):c≠45:=by
 rintro rfl;exact absurd h (by decide)
theorem zem{c:UInt8}{r:List UInt8}(h:letB c=true):oneL (c :: r)=if 40<spn wdQ r+1 then .no 12 else .yes ⟨1,bsL ((c :: r).take (spn wdQ r+1)),bsL [],0,0⟩ (spn wdQ r+1):=by
 unfold oneL;dsimp only;rw[if_pos h]
theorem zdk{c:UInt8}{r:List UInt8}(h:c.toNat=34):oneL (c :: r)=if spn (fun x=>decide (x.toNat≠34)) r<r.length∧nmB (r.take (spn (fun x=>decide (x.toNat≠34)) r))=true then .yes ⟨2,bsL (r.take (spn (fun x=>decide (x.toNat≠34)) r)),bsL [],0,0⟩ (spn (fun x=>decide (x.toNat≠34)) r+2)else .no 12:=by
 have:¬letB c=true:=by unfold letB;simp;omega
 unfold oneL;dsimp only;rw[if_neg this,if_pos h]
theorem zw9{c:UInt8}(h:dgQ c=true):¬letB c=true:=by unfold dgQ at h;unfold letB;simp at h ⊢;omega
theorem z14{c:UInt8}(h:dgQ c=true):¬c.toNat=34:=by unfold dgQ at h;simp at h;omega
theorem zlz{c:UInt8}{r:List UInt8}(h:dayQ (c :: r)=true):dgQ c=true:=by
 unfold dayQ at h
 split at h
 ·rename_i UT;injection UT with h1 h2;subst h1;simp only[Bool.and_eq_true]at h;exact h.1.1.1.1.1.1.1.1.1
 ·cases h
theorem zf4{c:UInt8}{r:List UInt8}(h:dayQ (c :: r)=true):oneL (c :: r)=if endQ ((c :: r).drop 10)=true then(match datV (c :: r)with |some day=>.yes ⟨4,bsL [],bsL [],day,0⟩ 10 |none=>.no 40)else .no 12:=by
 have hd:=zlz h;unfold oneL;dsimp only;rw[if_neg (zw9 hd),if_neg (z14 hd),if_pos h]
theorem zez{c:UInt8}{r:List UInt8}(h:¬dayQ (c :: r)=true)(hd:dgQ c=true∨(c.toNat=45∧dgH r=true)):oneL (c :: r)=numK (c :: r):=by
 have h1:¬letB c=true:=by
  rcases hd with hd |⟨hd,_⟩
  ·exact zw9 hd
  ·unfold letB;simp;omega
 have h2:¬c.toNat=34:=by
  rcases hd with hd |⟨hd,_⟩
  ·exact z14 hd
  ·omega
 unfold oneL;dsimp only;rw[if_neg h1,if_neg h2,if_neg h,if_pos hd]
theorem zlo(c:UInt8):mkB c=true↔c.toNat=40∨c.toNat=41∨c.toNat=123∨c.toNat=125∨c.toNat=44∨c.toNat=59∨c.toNat=64∨c.toNat=43∨c.toNat=42∨c.toNat=45:=by
 unfold mkB zdq;simp only[Bool.or_eq_true,decide_eq_true_eq,List.mem_cons,List.not_mem_nil,or_false,←UInt8.toNat_inj]
 show((c.toNat=40∨c.toNat=41∨c.toNat=123∨c.toNat=125∨c.toNat=44∨c.toNat=59∨c.toNat=64∨c.toNat=43∨c.toNat=42)∨_)↔_
 omega
theorem zdo{c:UInt8}{r:List UInt8}(h:mkB c=true)(hd:¬(c.toNat=45∧dgH r=true)):oneL (c :: r)=.yes ⟨5,bsL [c],bsL [],0,0⟩ 1:=by
 rw[zlo]at h;have h1:¬letB c=true:=by unfold letB;simp;omega
 have h2:¬c.toNat=34:=by omega
 have h4:¬dgQ c=true:=by unfold dgQ;simp;omega
 have h3:¬dayQ (c :: r)=true:=fun h=>h4 (zlz h)
 unfold oneL;dsimp only;rw[if_neg h1,if_neg h2,if_neg h3,if_neg (by rintro(a |a);exact h4 a;exact hd a),if_pos ((zlo c).2 h)]
theorem zen{c:UInt8}{r:List UInt8}(h1:¬letB c=true)(h2:¬c.toNat=34)(h4:¬dgQ c=true)(h5:¬mkB c=true):oneL (c :: r)=.no 12:=by
 have h3:¬dayQ (c :: r)=true:=fun h=>h4 (zlz h)
 have h6:¬c.toNat=45:=fun h=>h5 ((zlo c).2 (by omega))
 unfold oneL;dsimp only;rw[if_neg h1,if_neg h2,if_neg h3,if_neg (by rintro(a |a);exact h4 a;exact h6 a.1),if_neg h5]
theorem zfn(c:UInt8)(r:List UInt8):letB c=true∨c.toNat=34∨dayQ (c :: r)=true∨(¬dayQ (c :: r)=true∧(dgQ c=true∨(c.toNat=45∧dgH r=true)))∨(mkB c=true∧¬(c.toNat=45∧dgH r=true))∨(¬letB c=true∧¬c.toNat=34∧¬dgQ c=true∧¬mkB c=true):=by
 by_cases h1:letB c=true
 ·exact .inl h1
 by_cases h2:c.toNat=34
 ·exact .inr (.inl h2)
 by_cases h3:dayQ (c :: r)=true
 ·exact .inr (.inr (.inl h3))
 by_cases h4:dgQ c=true∨(c.toNat=45∧dgH r=true)
 ·exact .inr (.inr (.inr (.inl ⟨h3,h4⟩)))
 by_cases h5:mkB c=true
 ·exact .inr (.inr (.inr (.inr (.inl ⟨h5,fun h=>h4 (.inr h)⟩))))
 ·exact .inr (.inr (.inr (.inr (.inr ⟨h1,h2,fun h=>h4 (.inl h),h5⟩))))
theorem zze{c:UInt8}{r:List UInt8}(hh:dgQ c=true∨(c.toNat=45∧dgH r=true)){t:Tk}{n:Nat}(h:numK (c :: r)=.yes t n):1≤n:=by
 have hs:1≤numS (c :: r)+spn dgQ ((c :: r).drop (numS (c :: r))):=by
  rcases hh with hd |⟨YN,hd⟩
  ·have:numS (c :: r)=0:=by unfold numS;rw[if_neg];simp;exact z13 hd
   rw[this];show 1≤0+spn dgQ (c :: r);unfold spn;rw[if_pos hd];omega
  ·have:numS (c :: r)=1:=by unfold numS;rw[if_pos];simp;rw[←UInt8.toNat_inj];exact YN
   omega
 unfold numK at h;dsimp only at h
 split at h
 ·have:=zlj h;omega
 ·have:=zlj h;omega
theorem zey{l:List UInt8}{t:Tk}{n:Nat}(h:oneL l=.yes t n):1≤n:=by
 cases l with
 |nil=>cases h
 |cons c r =>
  rcases zfn c r with w |w |w |⟨w,v⟩ |⟨w,v⟩ |⟨w1,w2,w3,w4⟩
  ·rw[zem w]at h;split at h
   ·cases h
   ·injection h with _ h;omega
  ·rw[zdk w]at h;split at h
   ·injection h with _ h;omega
   ·cases h
  ·rw[zf4 w]at h;split at h
   ·split at h
    ·injection h with _ h;omega
    ·cases h
   ·cases h
  ·rw[zez w v]at h;exact zze v h
  ·rw[zdo w v]at h;injection h with _ h;omega
  ·rw[zen w1 w2 w3 w4]at h;cases h
theorem zc8{off:Nat}{l:List UInt8}(h:skS false l=l.length):lexL off l=.yes []:=by
 unfold lexL
 split
 ·rfl
 ·rename_i c r hh
  rw[h,List.drop_length]at hh;cases hh
theorem zhi{off:Nat}{l:List UInt8}{e:Int}(h:skS false l<l.length)(ho:oneL (l.drop (skS false l))=.no e):lexL off l=.no (off+skS false l) e:=by
 unfold lexL
 split
 ·rename_i hh
  have:=congrArg List.length hh;simp at this;omega
 ·rename_i c r hh
  rw[hh]at ho;rw[ho]
theorem zf6{off:Nat}{l:List UInt8}{t:Tk}{n:Nat}(h:skS false l<l.length)(ho:oneL (l.drop (skS false l))=.yes t n) :
 lexL off l=pre1 { t with place:=((off+skS false l:Nat):Int) } (lexL (off+skS false l+n) (l.drop (skS false l+n))):=by
 have hn:=zey ho;rw[lexL]
 split
 ·rename_i hh
  have:=congrArg List.length hh;simp at this;omega
 ·rename_i c r hh
  rw[hh]at ho;rw[ho];dsimp only
  congr 2
  rw[←List.drop_drop,hh];obtain⟨k,rfl⟩:∃k,n=k+1:=⟨n-1,by omega⟩
  rfl
theorem zmu(ts:List Tk)(t:Tk)(R:LexR):preL ts (pre1 t R)=preL (ts ++ [t]) R:=by
 cases R
 ·rfl
 ·unfold preL pre1;simp
theorem zqz(R:LexR):preL [] R=R:=by cases R<;>rfl
theorem z4z{s:UInt8}(h:blQ s=true):s.toNat=32∨s.toNat=9∨s.toNat=10:=by unfold blQ at h;simpa using h
theorem z4t{l:List UInt8}(h:dayQ l=true){i:Nat}(hi:i<10):∃c,l[i]?=some c∧(dgQ c=true∨c.toNat=45):=by
 unfold dayQ at h
 split at h
 ·simp only[Bool.and_eq_true,decide_eq_true_eq]at h
  obtain⟨⟨⟨⟨⟨⟨⟨⟨⟨h0,h1⟩,h2⟩,h3⟩,h4⟩,h5⟩,h6⟩,h7⟩,h8⟩,h9⟩:=h
  rcases i with _ |_ |_ |_ |_ |_ |_ |_ |_ |_ |i
  ·exact⟨_,rfl,.inl h0⟩
  ·exact⟨_,rfl,.inl h1⟩
  ·exact⟨_,rfl,.inl h2⟩
  ·exact⟨_,rfl,.inl h3⟩
  ·exact⟨_,rfl,.inr h4⟩
  ·exact⟨_,rfl,.inl h5⟩
  ·exact⟨_,rfl,.inl h6⟩
  ·exact⟨_,rfl,.inr h7⟩
  ·exact⟨_,rfl,.inl h8⟩
  ·exact⟨_,rfl,.inl h9⟩
  ·omega
 ·cases h
theorem zgc{l:List UInt8}(h:dayQ l=true):10≤l.length:=by
 obtain⟨c,hc,_⟩:=z4t h (i:=9) (by omega);have:=(List.getElem?_eq_some_iff.1 hc).1;omega
theorem ten{l:List UInt8}(h:10≤l.length):∃c0 c1 c2 c3 c4 c5 c6 c7 c8 c9 t,l=c0 :: c1 :: c2 :: c3 :: c4 :: c5 :: c6 :: c7 :: c8 :: c9 :: t:=by
 rcases l with _ |⟨c0,_ |⟨c1,_ |⟨c2,_ |⟨c3,_ |⟨c4,_ |⟨c5,_ |⟨c6,_ |⟨c7,_ |⟨c8,_ |⟨c9,t⟩⟩⟩⟩⟩⟩⟩⟩⟩⟩
 case cons.cons.cons.cons.cons.cons.cons.cons.cons.cons=>exact⟨_,_,_,_,_,_,_,_,_,_,_,rfl⟩
 all_goals simp at h
theorem zri{l:List UInt8}(h:frcQ l=true):2≤l.length:=by
 rcases l with _ |⟨c,_ |⟨d,l⟩⟩
 ·cases h
 ·cases h
 ·simp
theorem z3t{l:List UInt8}(h:l≠[]):numS l≤l.length:=by
 have:1≤l.length:=by cases l with |nil=>exact absurd rfl h |cons c l=>simp
 unfold numS;split<;>omega
theorem zq5{neg:Bool}{front:List UInt8}{mk:Nat}{back:List UInt8}{ended:Bool}{n:Nat}{t:Tk}{m:Nat}(h:numO neg front mk back ended n=.yes t m):m=n∧ended=true:=by
 refine⟨zlj h,?_⟩
 cases ended with
 |true=>rfl
 |false=>unfold numO at h;rw[if_pos (by simp)]at h;cases h
theorem z3u{l:List UInt8}(hl:l≠[]){t:Tk}{n:Nat}(h:numK l=.yes t n):n≤l.length:=by
 have e2:=z3t hl;have e4:=zd4 dgQ (l.drop (numS l));rw[List.length_drop]at e4;unfold numK at h;dsimp only at h
 split at h
 ·rename_i hf
  have e6:=zri hf;have e7:=zd4 dgQ ((l.drop (numS l+spn dgQ (l.drop (numS l)))).drop 1);rw[List.length_drop,List.length_drop]at e7;rw[List.length_drop]at e6;have:=(zq5 h).1;omega
 ·have:=(zq5 h).1
  omega
theorem zpd{l:List UInt8}{t:Tk}{n:Nat}(h:oneL l=.yes t n):n≤l.length:=by
 cases l with
 |nil=>cases h
 |cons c r =>
  rcases zfn c r with w |w |w |⟨w,v⟩ |⟨w,v⟩ |⟨w1,w2,w3,w4⟩
  ·rw[zem w]at h;split at h
   ·cases h
   ·injection h with _ h;have:=zd4 wdQ r;simp;omega
  ·rw[zdk w]at h;split at h
   ·injection h with _ h;simp;omega
   ·cases h
  ·rw[zf4 w]at h;have:=zgc w;split at h
   ·split at h
    ·injection h with _ h;omega
    ·cases h
   ·cases h
  ·rw[zez w v]at h;exact z3u (by simp) h
  ·rw[zdo w v]at h;injection h with _ h;simp;omega
  ·rw[zen w1 w2 w3 w4]at h;cases h
theorem zqp{c:UInt8}{l:List UInt8}(h:blQ c=true):skS false (c :: l)=skS false l+1:=by rw[skS,if_pos h]
theorem zk5{c:UInt8}{l:List UInt8}(h:c.toNat=35):skS false (c :: l)=skS true l+1:=by
 have:¬blQ c=true:=fun a=>by have:=z4z a;omega
 rw[skS,if_neg this,if_pos h]
theorem zup{c:UInt8}{l:List UInt8}(h:¬blQ c=true)(h2:¬c.toNat=35):skS false (c :: l)=0:=by rw[skS,if_neg h,if_neg h2]
theorem z1l{c:UInt8}{l:List UInt8}(h:c.toNat=10):skS true (c :: l)=skS false l+1:=by rw[skS,if_pos h]
theorem zur{c:UInt8}{l:List UInt8}(h:¬c.toNat=10):skS true (c :: l)=skS true l+1:=by rw[skS,if_neg h]
inductive Bnd:Nat→List UInt8→Nat→List Tk→Prop
 |here (off:Nat) (l:List UInt8) (h:skS false l<l.length):Bnd off l (skS false l) []
 |step (off:Nat) (l:List UInt8) (t:Tk) (n p:Nat) (ts:List Tk) (h:skS false l<l.length) (ho:oneL (l.drop (skS false l))=.yes t n)
  (hb:Bnd (off+skS false l+n) (l.drop (skS false l+n)) p ts):Bnd off l (skS false l+n+p) ({ t with place:=((off+skS false l:Nat):Int) } :: ts)
theorem ztc:∀(n off:Nat)(l:List UInt8),l.length≤n→∀{i:Nat}{e:Int},lexL off l=.no i e→∃p ts,i=off+p∧Bnd off l p ts∧oneL (l.drop p)=.no e:=by
 intro n
 induction n with
 |zero =>
  intro off l hl i e h;obtain rfl:l=[]:=List.length_eq_zero_iff.1 (by omega);rw[zc8 (l:=[]) rfl]at h;cases h
 |succ n ih =>
  intro off l hl i e h
  rcases Nat.lt_or_ge (skS false l) l.length with Z7 |Sz
  ·cases ho:oneL (l.drop (skS false l))with
   |no e' =>
    rw[zhi Z7 ho]at h
    injection h with h1 h2
    exact⟨skS false l,[],h1.symm,.here off l Z7,by rw[←h2];exact ho⟩
   |yes t m =>
    have hp:=zey ho;rw[zf6 Z7 ho]at h
    cases hL:lexL (off+skS false l+m) (l.drop (skS false l+m))with
    |yes ts=>rw[hL]at h;cases h
    |no i' e' =>
     obtain⟨p,ts,h1,h2,h3⟩:=ih _ _ (by rw[List.length_drop];omega) hL;rw[hL]at h
     injection h with h4 h5
     rw[List.drop_drop]at h3;exact⟨skS false l+m+p,_,by omega,.step off l t m p ts Z7 ho h2,by rw[←h5];exact h3⟩
  ·rw[zc8 (by have:=ziz false l;omega)]at h;cases h
theorem zcs(l:List UInt8):numV l=dval (za3 l):=by
 have:∀(n:Nat)(l:List UInt8),l.length=n→numV l=dval (za3 l):=by
  intro n
  induction n with
  |zero=>intro l hl;obtain rfl:=List.length_eq_zero_iff.1 hl;rfl
  |succ n ih =>
   intro l hl;obtain⟨m,c,rfl⟩:∃m c,l=m ++ [c]:=⟨l.dropLast,l.getLast (by intro h;rw[h]at hl;simp at hl),(List.dropLast_concat_getLast _).symm⟩
   rw[zdp,ih m (by simpa using hl)];unfold za3;rw[List.reverse_append,List.reverse_singleton,List.singleton_append,List.map_cons]
   show _=(c.toNat-48)+10*dval _
   omega
 exact this l.length l rfl
theorem zv1(n:Nat):numV (txtN n)=n:=by rw[zcs,zf0,zbb]
theorem zl3{z:Int}(h:bigZ z=false):(txtN z.natAbs).length≤1000:=by
 unfold bigZ at h;rw[zd0];simpa using h
theorem zm9{l:List UInt8}(h:nmB l=true):1≤l.length∧l.length≤40∧(∃c r,l=c :: r∧letB c=true)∧∀c ∈ l,wdQ c=true:=by
 unfold nmB at h;simp only[Bool.and_eq_true,decide_eq_true_eq,List.all_eq_true]at h;obtain⟨⟨h1,h2⟩,h3⟩:=h;refine⟨h1.1,h1.2,?_,h3⟩
 cases l with
 |nil=>simp at h1
 |cons c r=>exact⟨c,r,rfl,h2⟩
theorem zqy{x y:Int}(h0:y≠0)(bx:bigZ x=false)(byy:bigZ y=false):z1b (ratN x y) (ratD x y):=by
 have VI:0<Nat.gcd x.natAbs y.natAbs:=Nat.gcd_pos_of_pos_right _ (by omega);have hD:ratD x y=((y.natAbs / Nat.gcd x.natAbs y.natAbs:Nat):Int):=rfl
 have hN:(ratN x y).natAbs=x.natAbs / Nat.gcd x.natAbs y.natAbs:=by
  unfold ratN
  have hd:((Nat.gcd x.natAbs y.natAbs:Nat):Int) ∣ (if y<0 then -x else x):=by
   refine Int.ofNat_dvd_left.2 ?_
   split
   ·rw[Int.natAbs_neg];exact Nat.gcd_dvd_left _ _
   ·exact Nat.gcd_dvd_left _ _
  rw[Int.natAbs_ediv_of_dvd hd,Int.natAbs_natCast]
  split
  ·rw[Int.natAbs_neg]
  ·rfl
 refine⟨?_,?_,?_,?_⟩
 ·rw[hD]
  have:0<y.natAbs / Nat.gcd x.natAbs y.natAbs:=Nat.div_pos (Nat.gcd_le_right _ (by omega)) VI;omega
 ·rw[hN,hD,Int.natAbs_natCast]
  rw[Nat.gcd_div (Nat.gcd_dvd_left _ _) (Nat.gcd_dvd_right _ _),Nat.div_self VI]
 ·refine zca (x:=x) ?_ bx
  rw[hN];exact Nat.div_le_self _ _
 ·rw[hD]
  refine zjv (Nat.div_le_self _ _) ?_;rw[zrt];exact byy
theorem ze8{n m:Nat}(h:n<10 ^ m)(h0:0<m)(hm:m≤1000):bigZ (n:Int)=false:=by
 unfold bigZ;rw[Int.natAbs_natCast];simp only[decide_eq_false_iff_not,Nat.not_lt];exact Nat.le_trans ((ze5 _ _ h0).2 h) hm
theorem zbn(p:UInt8→Bool)(l:List UInt8):∀c ∈ l.take (spn p l),p c=true:=by
 induction l with
 |nil=>intro c hc;simp[spn]at hc
 |cons d l ih =>
  intro c hc;unfold spn at hc
  split at hc
  ·rename_i hd
   rw[List.take_succ_cons]at hc
   rcases List.mem_cons.1 hc with rfl |hc
   ·exact hd
   ·exact ih c hc
  ·simp at hc
theorem zf5{l:List UInt8}(hl:l≠[])(hd:∀c ∈ l,dgQ c=true)(h0:l.head?≠some 48):0<numV l:=by
 cases l with
 |nil=>exact absurd rfl hl
 |cons c r =>
  have hc:0<c.toNat-48:=by
   have h1:=hd c (List.mem_cons_self ..);unfold dgQ at h1;simp at h1 h0
   have:c.toNat≠48:=fun e=>h0 (by rw[←UInt8.toNat_inj];exact e)
   omega
  have:∀(r:List UInt8)(a:Nat),0<a→0<r.foldl (fun n c=>10*n+(c.toNat-48)) a:=by
   intro r
   induction r with
   |nil=>intro a h;exact h
   |cons x r ih=>intro a h;exact ih (10*a+(x.toNat-48)) (by omega)
  unfold numV;exact this r (10*0+(c.toNat-48)) (by omega)
def VTk(t:Tk):Prop :=
 (t.kind=1∧nmB t.text.data.toList=true∧t.rat=bsL []∧t.date=0)∨(t.kind=2∧nmB t.text.data.toList=true∧t.rat=bsL []∧t.date=0) ∨
 (t.kind=3∧t.text=bsL []∧(∃n d,z1b n d∧t.rat=bsL (ratT n d))∧t.date=0)∨(t.kind=4∧t.text=bsL []∧t.rat=bsL []∧0≤t.date∧t.date≤99999) ∨
 (t.kind=5∧(∃c,mkB c=true∧t.text=bsL [c])∧t.rat=bsL []∧t.date=0)
theorem zim(l:List UInt8):(bsL l).data.toList=l:=rfl
theorem zy1{neg:Bool}{front back:List UInt8}{mk:Nat}(hf:∀c ∈ front,dgQ c=true)(hb:∀c ∈ back,dgQ c=true)(VY:front≠[])(h1:front.length≤1000)(h2:back.length≤1000)
 (Yx:mk=46→front.length+back.length≤1000) (YF:mk=47→back≠[]∧back.head?≠some 48):∃n d,z1b n d∧zgg neg front mk back=ratT n d:=by
 have dg:∀l:List UInt8,(∀c ∈ l,dgQ c=true)→∀c ∈ l,48≤c.toNat∧c.toNat≤57:=fun l h c hc=>by
  have:=h c hc;unfold dgQ at this;simpa using this
 have lf:0<front.length:=List.length_pos_iff.2 VY
 obtain⟨X,hX⟩:∃X:Nat,X=if mk=46 then numV (front ++ back)else numV front:=⟨_,rfl⟩
 obtain⟨Y,hY⟩:∃Y:Nat,Y=if mk=46 then 10 ^ back.length else if mk=47 then numV back else 1:=⟨_,rfl⟩
 obtain⟨M,hM⟩:∃M,M=1000:=⟨_,rfl⟩
 have bX:X<10 ^ M:=by
  rw[hX];split
  ·rename_i h
   refine Nat.lt_of_lt_of_le (zeg _ ?_) (Nat.pow_le_pow_right (by omega) (by rw[List.length_append];have:=Yx h;omega));intro c hc
   rcases List.mem_append.1 hc with hc |hc
   ·exact dg _ hf c hc
   ·exact dg _ hb c hc
  ·exact Nat.lt_of_lt_of_le (zeg _ (dg _ hf)) (Nat.pow_le_pow_right (by omega) (by omega))
 have bY:Y<10 ^ M∧0<Y:=by
  rw[hY];split
  ·rename_i h
   have:=Yx h;exact⟨Nat.pow_lt_pow_right (by omega) (by omega),Nat.pow_pos (by omega)⟩
  ·split
   ·rename_i h
    obtain⟨b1,b2⟩:=YF h;exact⟨Nat.lt_of_lt_of_le (zeg _ (dg _ hb)) (Nat.pow_le_pow_right (by omega) (by omega)),zf5 b1 hb b2⟩
   ·exact⟨Nat.one_lt_pow (by omega) (by omega),by omega⟩
 have zX:=ze8 bX (by omega) (by omega);have zY:=ze8 bY.1 (by omega) (by omega);refine⟨_,_,zqy (x:=if neg=true then -(X:Int)else(X:Int)) (y:=(Y:Int)) (by omega) ?_ zY,?_⟩
 ·refine zca (x:=(X:Int)) ?_ zX
  split<;>simp
 ·unfold zgg
  dsimp only;rw[←hX,←hY]
theorem zki{neg:Bool}{front back:List UInt8}{mk:Nat}{ended:Bool}{n m:Nat}{t:Tk}(hf:∀c ∈ front,dgQ c=true)(hb:∀c ∈ back,dgQ c=true)(VY:front≠[])(V9:mk=47→back≠[])
 (h:numO neg front mk back ended n=.yes t m):VTk t:=by
 unfold numO at h
 split at h
 ·cases h
 ·rename_i h1
  split at h
  ·cases h
  ·rename_i h2
   injection h with h _
   subst h;obtain⟨a,b,r1,r2⟩:=zy1 (neg:=neg) (mk:=mk) hf hb VY (by omega) (by omega) (fun e=>by omega) (fun e=>⟨V9 e,fun e2=>h1 (.inr (.inr ⟨e,e2⟩))⟩);exact .inr (.inr (.inl ⟨rfl,rfl,⟨a,b,r1,congrArg bsL r2⟩,rfl⟩))
theorem zfk{p:UInt8→Bool}{c:UInt8}{r:List UInt8}(h:p c=true):1≤spn p (c :: r):=by unfold spn;rw[if_pos h];omega
theorem zta{c:UInt8}{r:List UInt8}(hh:dgQ c=true∨(c.toNat=45∧dgH r=true)){t:Tk}{n:Nat}(h:numK (c :: r)=.yes t n):VTk t:=by
 have V3:1≤spn dgQ ((c :: r).drop (numS (c :: r))):=by
  rcases hh with hd |⟨YN,hd⟩
  ·have:numS (c :: r)=0:=by unfold numS;rw[if_neg];simp;exact z13 hd
   rw[this];exact zfk hd
  ·have:numS (c :: r)=1:=by unfold numS;rw[if_pos];simp;rw[←UInt8.toNat_inj];exact YN
   rw[this]
   cases r with
   |nil=>cases hd
   |cons d r=>exact zfk hd
 have ZT:((c :: r).drop (numS (c :: r))).take (spn dgQ ((c :: r).drop (numS (c :: r))))≠[]:=by
  intro e;have:=congrArg List.length e;have YW:=zd4 dgQ ((c :: r).drop (numS (c :: r)));rw[List.length_take,List.length_nil]at this;omega
 unfold numK at h;dsimp only at h
 split at h
 ·rename_i hf
  refine zki (zbn _ _) (zbn _ _) ZT (fun _ => ?_) h;obtain⟨q,hq⟩:∃q,q=(c :: r).drop (numS (c :: r)+spn dgQ ((c :: r).drop (numS (c :: r)))):=⟨_,rfl⟩
  rw[←hq]at hf ⊢
  rcases q with _ |⟨x,_ |⟨y,q⟩⟩
  ·cases hf
  ·cases hf
  ·have hy:dgQ y=true:=by
    unfold frcQ at hf;simp only[Bool.and_eq_true]at hf;exact hf.2
   rw[List.drop_one,List.tail_cons];intro e;have:=congrArg List.length e;have h1:=zfk (r:=q) hy;have h2:=zd4 dgQ (y :: q);rw[List.length_take,List.length_nil]at this;omega
 ·exact zki (zbn _ _) (fun c hc=>by cases hc) ZT (fun e=>by cases e) h
theorem zsv{l:List UInt8}{t:Tk}{n:Nat}(h:oneL l=.yes t n):VTk t:=by
 cases l with
 |nil=>cases h
 |cons c r =>
  rcases zfn c r with w |w |w |⟨w,v⟩ |⟨w,v⟩ |⟨w1,w2,w3,w4⟩
  ·rw[zem w]at h;split at h
   ·cases h
   ·rename_i hl
    injection h with h _
    subst h;refine .inl ⟨rfl,?_,rfl,rfl⟩
    show nmB ((c :: r).take (spn wdQ r+1))=true
    have YW:=zd4 wdQ r;rw[List.take_succ_cons];refine zv4 (c:=c) (by simp) ?_ rfl w ?_
    ·simp;omega
    ·intro x hx
     rcases List.mem_cons.1 hx with rfl |hx
     ·rw[w];rfl
     ·exact zbn wdQ r x hx
  ·rw[zdk w]at h;split at h
   ·rename_i hq
    injection h with h _
    subst h;exact .inr (.inl ⟨rfl,hq.2,rfl,rfl⟩)
   ·cases h
  ·rw[zf4 w]at h;split at h
   ·split at h
    ·rename_i day hv
     injection h with h _
     subst h;refine .inr (.inr (.inr (.inl ⟨rfl,rfl,rfl,?_⟩)));unfold datV at hv;dsimp only at hv
     split at hv
     ·rename_i hc
      injection hv with hv
      obtain⟨_,_,_,_,_,_⟩:=hc;dsimp only;omega
     ·cases hv
    ·cases h
   ·cases h
  ·rw[zez w v]at h;exact zta v h
  ·rw[zdo w v]at h
   injection h with h _
   subst h;exact .inr (.inr (.inr (.inr ⟨rfl,⟨c,w,rfl⟩,rfl,rfl⟩)))
  ·rw[zen w1 w2 w3 w4]at h;cases h
theorem VTk.move{t:Tk}(h:VTk t)(p:Int):VTk { t with place:=p }:=h
theorem zik{l:List UInt8}(h:dayQ l=true):∃c0 c1 c2 c3 c5 c6 c8 c9 t,l=c0 :: c1 :: c2 :: c3 :: 45 :: c5 :: c6 :: 45 :: c8 :: c9 :: t∧dgQ c0=true∧dgQ c1=true∧dgQ c2=true∧dgQ c3=true∧dgQ c5=true∧dgQ c6=true∧dgQ c8=true∧dgQ c9=true:=by
 obtain⟨c0,c1,c2,c3,c4,c5,c6,c7,c8,c9,t,rfl⟩:=ten (zgc h);unfold dayQ at h;simp only[Bool.and_eq_true,decide_eq_true_eq]at h;obtain⟨⟨⟨⟨⟨⟨⟨⟨⟨h0,h1⟩,h2⟩,h3⟩,h4⟩,h5⟩,h6⟩,h7⟩,h8⟩,h9⟩:=h;obtain rfl:c4=45:=by rw[←UInt8.toNat_inj];exact h4
 obtain rfl:c7=45:=by rw[←UInt8.toNat_inj];exact h7
 exact⟨c0,c1,c2,c3,c5,c6,c8,c9,t,rfl,h0,h1,h2,h3,h5,h6,h8,h9⟩
theorem zxb{l:List UInt8}(h:dayQ l=true){day:Nat}:datV l=some day↔z1e (l.take 10) day:=by
 obtain⟨c0,c1,c2,c3,c5,c6,c8,c9,t,rfl,h0,h1,h2,h3,h5,h6,h8,h9⟩:=zik h
 have dg:∀c:UInt8,dgQ c=true→48≤c.toNat∧c.toNat≤57:=fun c hc=>by unfold dgQ at hc;simpa using hc
 have f1:figB (numV [c0,c1,c2,c3]) 4=[c0,c1,c2,c3]:=zeo [c0,c1,c2,c3] (by intro c hc;simp at hc;rcases hc with rfl |rfl |rfl |rfl<;>exact dg _ ‹_›);have f2:figB (numV [c5,c6]) 2=[c5,c6]:=zeo [c5,c6] (by intro c hc;simp at hc;rcases hc with rfl |rfl<;>exact dg _ ‹_›);have f3:figB (numV [c8,c9]) 2=[c8,c9]:=zeo [c8,c9] (by intro c hc;simp at hc;rcases hc with rfl |rfl<;>exact dg _ ‹_›)
 have ht:(c0 :: c1 :: c2 :: c3 :: 45 :: c5 :: c6 :: 45 :: c8 :: c9 :: t).take 10=zdu (numV [c0,c1,c2,c3]) (numV [c5,c6]) (numV [c8,c9]):=by
  unfold zdu;rw[f1,f2,f3];rfl
 constructor
 ·intro hv
  unfold datV at hv;dsimp only at hv
  split at hv
  ·rename_i hc
   obtain⟨k1,k2,k3,k4,k5,k6⟩:=hc
   injection hv with hv
   change yd (numV [c0,c1,c2,c3])+mdR (numV [c0,c1,c2,c3]) (numV [c5,c6]-1)+numV [c8,c9]-1=day at hv;change 1≤numV [c8,c9]at k4;change yd (numV [c0,c1,c2,c3])+mdR (numV [c0,c1,c2,c3]) (numV [c5,c6]-1)+numV [c8,c9]≤100000 at k6;have k7:yd (numV [c0,c1,c2,c3])+mdR (numV [c0,c1,c2,c3]) (numV [c5,c6]-1)+numV [c8,c9]=day+1:=by omega
   exact⟨by omega,_,_,_,⟨k1,k2,k3,k4,k5,k7⟩,ht⟩
  ·cases hv
 ·rintro⟨hd,y,m,d,hD,e⟩
  obtain⟨hy,WB⟩:=hD.small hd;have hD':=hD;obtain⟨k1,k2,k3,k4,k5,k6⟩:=hD;have l4:figB y 4=[UInt8.ofNat (48+y / 10 / 10 / 10 % 10),UInt8.ofNat (48+y / 10 / 10 % 10),UInt8.ofNat (48+y / 10 % 10),UInt8.ofNat (48+y % 10)]:=rfl;have l2:figB m 2=[UInt8.ofNat (48+m / 10 % 10),UInt8.ofNat (48+m % 10)]:=rfl;have l3:figB d 2=[UInt8.ofNat (48+d / 10 % 10),UInt8.ofNat (48+d % 10)]:=rfl;have t1:(zdu y m d).take 4=figB y 4:=by unfold zdu;rw[l4,l2,l3];rfl
  have t2:((zdu y m d).drop 5).take 2=figB m 2:=by unfold zdu;rw[l4,l2,l3];rfl
  have t3:((zdu y m d).drop 8).take 2=figB d 2:=by unfold zdu;rw[l4,l2,l3];rfl
  have u1:=congrArg (List.take 4) e;have u2:=congrArg (fun q=>(List.drop 5 q).take 2) e;have u3:=congrArg (fun q=>(List.drop 8 q).take 2) e;rw[t1]at u1;change _=((zdu y m d).drop 5).take 2 at u2;change _=((zdu y m d).drop 8).take 2 at u3;rw[t2]at u2;rw[t3]at u3;unfold datV;dsimp only;have v1:(c0 :: c1 :: c2 :: c3 :: 45 :: c5 :: c6 :: 45 :: c8 :: c9 :: t).take 4=figB y 4:=u1;have v2:((c0 :: c1 :: c2 :: c3 :: 45 :: c5 :: c6 :: 45 :: c8 :: c9 :: t).drop 5).take 2=figB m 2:=u2;have v3:((c0 :: c1 :: c2 :: c3 :: 45 :: c5 :: c6 :: 45 :: c8 :: c9 :: t).drop 8).take 2=figB d 2:=u3;rw[v1,v2,v3,zgx,zgx,zgx,Nat.mod_eq_of_lt (show y<10 ^ 4 by omega),Nat.mod_eq_of_lt (show m<10 ^ 2 by omega),Nat.mod_eq_of_lt (show d<10 ^ 2 by omega),if_pos ⟨k1,k2,k3,k4,k5,by omega⟩]
  congr 1;omega
def clsB(L:List Nat)(c:UInt8):Bool:=L.any fun k=>zaj c == (k:Int)
theorem zos{p:UInt8→Bool}{s:ByteArray}{j:Nat}(h:j<s.size):spn p (s.data.toList.drop j)=if p s[j]=true then spn p (s.data.toList.drop (j+1))+1 else 0:=by
 rw[zbw s j h];rfl
theorem zot{p:UInt8→Bool}{s:ByteArray}{j:Nat}(h:s.size≤j):spn p (s.data.toList.drop j)=0:=by
 rw[List.drop_eq_nil_of_le (by rw[zab];exact h)];rfl
theorem zl4{L:List Nat}{C:Int}{k:Nat}(h:k<L.length):((L.take (k+1)).any fun x=>C == (x:Int))=(((L.take k).any fun x=>C == (x:Int)) ||(C == ((L.getD k 0:Nat):Int))):=by
 have e:L.getD k 0=L[k]:=by rw[List.getD_eq_getElem?_getD,List.getElem?_eq_getElem h];rfl
 rw[List.take_succ_eq_append_getElem h,List.any_append,e];simp
theorem zha(s:ByteArray)(i0 n c:Nat)(a:Option Addr)(L:List Nat)(w:World)(hs:s.size≤1000000)(hi:i0≤s.size)(hL:L.length=n)(hn:n≤10)(hN:Nums .i64 w a L) :
 Calls Tryz.prog 140 #[.string s,.int .i64 (i0:Int),.slice a n c] w (RetI w ((i0+spn (clsB L) (s.data.toList.drop i0):Nat):Int)):=by
 obtain⟨E,hE⟩:∃E,E=i0+spn (clsB L) (s.data.toList.drop i0):=⟨_,rfl⟩
 rw[←hE];have HE:=Z9 hE;have HL:=Z9 hL;have HN:=Z9 hN;clear hE hL hN;go_enter Tryz.func140,Tryz.ntmps140;go_wp2_with fail;go_loop [1] (fun iv=>∃j:Nat,j≤s.size∧E=j+spn (clsB L) (s.data.toList.drop j)∧iv=.int .i64 (j:Int)) (fun iv=>s.size-(intOf iv).toNat)
 case atStart=>exact⟨i0,hi,HE.out,rfl⟩
 case round =>
  obtain⟨j,hj,hej,rfl⟩:=hrel;have HEJ:=Z9 hej;clear hej
  by_cases Z7:j<s.size
  ·have HC:Hid (∀W,Calls Tryz.prog 180 #[.int .u8 (s[j].toNat:Int)] W (RetI W (zaj s[j]))):=fun W=>zjq _ W
   obtain⟨b,hb⟩:∃b,b=clsB L s[j]:=⟨_,rfl⟩
   have ZS:b=L.any fun x=>zaj s[j] == (x:Int):=hb
   have HS:=zos (p:=clsB L) Z7;rw[←hb]at HS;obtain⟨C,hC⟩:∃C,C=zaj s[j]:=⟨_,rfl⟩
   rw[←hC]at HC ZS;have HB:=Z9 ZS;have HSP:=Z9 HS;clear hb ZS HS hC;go_wp2_with fail;refine(HC.out _).mono ?_;rintro e w' ⟨rfl,rfl⟩;go_wp2_with fail;go_loop [8,23] (fun bv kv=>∃k:Nat,k≤n∧kv=.int .i64 (k:Int)∧bv=.bool ((L.take k).any fun x=>C == (x:Int))) (fun _ kv=>n-(intOf kv).toNat)
   case atStart=>exact⟨0,Nat.zero_le _,rfl,rfl⟩
   case round =>
    obtain⟨k,hk,rfl,rfl⟩:=hrel
    obtain⟨B,hB⟩:∃B,B=(L.take k).any fun x=>C == (x:Int):=⟨_,rfl⟩
    rw[←hB]
    by_cases YC:k<n
    ·obtain⟨g,o,rfl,hg,Z1⟩:=HN.out k (by rw[HL.out];exact YC)
     have YZ:=zl4 (C:=C) (show k<L.length by rw[HL.out];exact YC);obtain⟨y,hy⟩:∃y,y=L.getD k 0:=⟨_,rfl⟩
     rw[←hy]at Z1 YZ;rw[←hB]at YZ;have HNX:=Z9 YZ;clear YZ hy hB
     cases B
     ·obtain⟨q,hq⟩:∃q,(C == (y:Int))=q:=⟨_,rfl⟩
      have HQ:=Z9 hq;go_wp2_with fail;go_round
      case rel=>exact⟨k+1,by omega,by go_num,by rw[HNX.out,HQ.out];rfl⟩
      case measure=>simp[intOf]<;>omega
     ·go_wp2_with fail
      go_round
      case rel=>exact⟨k+1,by omega,by go_num,by rw[HNX.out];rfl⟩
      case measure=>simp[intOf]<;>omega
    ·obtain rfl:k=n:=by omega
     have hBb:B=b:=by rw[hB,HB.out,List.take_of_length_le (by rw[HL.out];exact Nat.le_refl _)]
     clear hB;subst hBb
     cases B
     ·have XO:E=j:=by have:=HEJ.out;rw[HSP.out,if_neg (by decide)]at this;omega
      have HE2:=Z9 XO;clear XO;go_wp2_with fail;go_ret;exact⟨zax (by rw[HE2.out]),rfl⟩
     ·have XO:E=j+1+spn (clsB L) (s.data.toList.drop (j+1)):=by have:=HEJ.out;rw[HSP.out,if_pos rfl]at this;omega
      have HE2:=Z9 XO;clear XO;go_wp2_with fail;go_round
      case rel=>exact⟨j+1,by omega,HE2.out,by go_num⟩
      case measure=>simp[intOf]<;>omega
  ·have XO:E=j:=by have:=HEJ.out;rw[zot (by omega)]at this;omega
   have HE2:=Z9 XO;clear XO;go_wp2_with fail;go_ret;exact⟨zax (by rw[HE2.out]),rfl⟩
def atN(l:List UInt8):Int:=match l with
 | []=>0
 |c :: _=>zaj c
theorem zwk{s:ByteArray}{i:Nat}(h:i<s.size):atN (s.data.toList.drop i)=zaj s[i]:=by rw[zbw s i h];rfl
theorem z6g{s:ByteArray}{i:Nat}(h:s.size≤i):atN (s.data.toList.drop i)=0:=by rw[List.drop_eq_nil_of_le (by rw[zab];exact h)];rfl
theorem zje(s:ByteArray)(i:Nat)(w:World):Calls Tryz.prog 141 #[.string s,.int .i64 (i:Int)] w (RetI w (atN (s.data.toList.drop i))):=by
 by_cases h:i<s.size
 ·rw[zwk h]
  have HC:Hid (∀W,Calls Tryz.prog 180 #[.int .u8 (s[i].toNat:Int)] W (RetI W (zaj s[i]))):=fun W=>zjq _ W
  go_enter Tryz.func141,Tryz.ntmps141;go_wp2_with fail;refine(HC.out _).mono ?_;rintro e w' ⟨rfl,rfl⟩;go_wp2_with fail;go_ret;exact⟨rfl,rfl⟩
 ·rw[z6g (by omega)]
  go_enter Tryz.func141,Tryz.ntmps141;go_wp2_with fail;go_ret;exact⟨rfl,rfl⟩
theorem zc0(c:UInt8):(zaj c=2↔dgQ c=true)∧(zaj c=3↔letB c=true)∧((zaj c=2∨zaj c=3∨zaj c=4)↔wdQ c=true)∧(zaj c=6↔c.toNat=34)∧(zaj c=1↔blQ c=true)∧(zaj c=7↔c.toNat=35)∧((zaj c=5∨c.toNat=45)↔mkB c=true):=by
 unfold zaj dgQ wdQ othB blQ mkB;unfold letB;simp only[zak,decide_eq_true_eq,Bool.or_eq_true]
 refine⟨?_,?_,?_,?_,?_,?_,?_⟩<;>(repeat' split)<;>omega
theorem zn2(s:ByteArray)(i:Nat)(w:World):Calls Tryz.prog 144 #[.string s,.int .i64 (i:Int)] w (RetB w (endQ (s.data.toList.drop i))):=by
 by_cases h:i<s.size
 ·have HA:Hid (∀W,Calls Tryz.prog 141 #[.string s,.int .i64 (i:Int)] W (RetI W (zaj s[i]))):=fun W=>by rw[←zwk h];exact zje s i W
  obtain⟨_,_,p3,p4,_⟩:=zc0 s[i];have hv:endQ (s.data.toList.drop i)=(!wdQ s[i] && decide (s[i].toNat≠34∧s[i].toNat≠46∧s[i].toNat≠47)):=by rw[zbw s i h];rfl
  rw[hv];obtain⟨x,hx⟩:∃x:Nat,x=s[i].toNat:=⟨_,rfl⟩
  obtain⟨C,hC⟩:∃C,C=zaj s[i]:=⟨_,rfl⟩
  rw[←hC]at HA p3 p4;obtain⟨r,hr⟩:∃r:Bool,r=(!wdQ s[i] && decide (s[i].toNat≠34∧s[i].toNat≠46∧s[i].toNat≠47)):=⟨_,rfl⟩
  rw[←hr]
  by_cases XX:C=2∨C=3∨C=4∨C=6
  ·have Zc:r=false:=by
    rw[hr]
    rcases XX with h |h |h |h
    ·rw[p3.1 (.inl h)];rfl
    ·rw[p3.1 (.inr (.inl h))];rfl
    ·rw[p3.1 (.inr (.inr h))];rfl
    ·have:=p4.1 h;simp[this]
   subst Zc;clear hr hv p3 p4 hC hx
   rcases XX with h |h |h |h<;>subst h
   all_goals
    go_enter Tryz.func144,Tryz.ntmps144;go_wp2_with fail;refine(HA.out _).mono ?_;rintro e w' ⟨rfl,rfl⟩;go_wp2_with fail;go_ret;exact⟨rfl,rfl⟩
  ·have hw:wdQ s[i]=false:=by
    cases hh:wdQ s[i]with
    |false=>rfl
    |true=>exact absurd (p3.2 hh) (by omega)
   have V5:s[i].toNat≠34:=fun h=>by have:=p4.2 h;omega
   have e2:(C == 2)=false:=by simpa using fun h=>XX (.inl h)
   have e3:(C == 3)=false:=by simpa using fun h=>XX (.inr (.inl h))
   have e4:(C == 4)=false:=by simpa using fun h=>XX (.inr (.inr (.inl h)))
   have e6:(C == 6)=false:=by simpa using fun h=>XX (.inr (.inr (.inr h)))
   rw[hw]at hr
   by_cases Yx:s[i].toNat=46
   ·have Zc:r=false:=by rw[hr];simp[Yx]
    subst Zc;have t1:((s[i].toNat:Int) != 46)=false:=by simp;omega
    clear hr hv p3 p4 hC hx XX hw V5 Yx;go_enter Tryz.func144,Tryz.ntmps144;go_wp2_with fail;refine(HA.out _).mono ?_;rintro e w' ⟨rfl,rfl⟩;go_wp2_with fail;go_ret;exact⟨rfl,rfl⟩
   ·have Zc:r=(((s[i].toNat:Int)) != 47):=by
     rw[hr,Bool.eq_iff_iff];simp;omega
    have YB:=Z9 Zc;have t1:((s[i].toNat:Int) != 46)=true:=by simp;omega
    clear hr hv p3 p4 hC hx XX hw V5 Yx Zc;go_enter Tryz.func144,Tryz.ntmps144;go_wp2_with fail;refine(HA.out _).mono ?_;rintro e w' ⟨rfl,rfl⟩;go_wp2_with fail;go_ret;exact⟨by rw[YB.out];rfl,rfl⟩
 ·have hv:endQ (s.data.toList.drop i)=true:=by rw[List.drop_eq_nil_of_le (by rw[zab];omega)];rfl
  rw[hv];go_enter Tryz.func144,Tryz.ntmps144;go_wp2_with fail;go_ret;exact⟨rfl,rfl⟩
def dyAt(i:Nat)(c:UInt8):Bool:=if i=4∨i=7 then decide (c.toNat=45)else dgQ c
theorem z0e{l:List UInt8}(h:10≤l.length):dayQ l=true↔∀i,i<10→∃c,l[i]?=some c∧dyAt i c=true:=by
 obtain⟨c0,c1,c2,c3,c4,c5,c6,c7,c8,c9,t,rfl⟩:=ten h
 constructor
 ·intro hd i hi
  unfold dayQ at hd;simp only[Bool.and_eq_true]at hd;obtain⟨⟨⟨⟨⟨⟨⟨⟨⟨h0,h1⟩,h2⟩,h3⟩,h4⟩,h5⟩,h6⟩,h7⟩,h8⟩,h9⟩:=hd
  rcases i with _ |_ |_ |_ |_ |_ |_ |_ |_ |_ |i
  ·exact⟨_,rfl,h0⟩
  ·exact⟨_,rfl,h1⟩
  ·exact⟨_,rfl,h2⟩
  ·exact⟨_,rfl,h3⟩
  ·exact⟨_,rfl,h4⟩
  ·exact⟨_,rfl,h5⟩
  ·exact⟨_,rfl,h6⟩
  ·exact⟨_,rfl,h7⟩
  ·exact⟨_,rfl,h8⟩
  ·exact⟨_,rfl,h9⟩
  ·omega
 ·intro h
  have g:∀i,i<10→∀c,(c0 :: c1 :: c2 :: c3 :: c4 :: c5 :: c6 :: c7 :: c8 :: c9 :: t)[i]?=some c→dyAt i c=true:=fun i hi c hc=>by
   obtain⟨c',e,hh⟩:=h i hi
   rw[hc]at e;injection e with e;rw[e];exact hh
  unfold dayQ;simp only[Bool.and_eq_true];exact⟨⟨⟨⟨⟨⟨⟨⟨⟨g 0 (by omega) _ rfl,g 1 (by omega) _ rfl⟩,g 2 (by omega) _ rfl⟩,g 3 (by omega) _ rfl⟩,g 4 (by omega) _ rfl⟩,g 5 (by omega) _ rfl⟩,g 6 (by omega) _ rfl⟩,g 7 (by omega) _ rfl⟩,g 8 (by omega) _ rfl⟩,g 9 (by omega) _ rfl⟩
def zpu:ByteArray:=⟨#[48,48,48,48,45,48,48,45,48,48]⟩
theorem zz0(k:Nat)(h:k<10):(zpu[k]'h).toNat=if k=4∨k=7 then 45 else 48:=by
 have:∀k:Fin 10,(zpu[(k:Nat)]'k.2).toNat=if (k:Nat)=4∨(k:Nat)=7 then 45 else 48:=by decide
 exact this ⟨k,h⟩
def zgo(w:World)(b:Bool)(e:Ending)(w':World):Prop:=e=.returned (.bool b)∧Below w.heap.size w w'
theorem zhl(w:World)(s:ByteArray)(p:Nat):Below w.heap.size w (w.iter s p):=(Below.refl _ w).alloc (Nat.le_refl _) _
theorem z4s(s:ByteArray)(w:World)(hs:s.size≤1000000):Calls Tryz.prog 143 #[.string s] w (zgo w (dayQ s.data.toList)):=by
 by_cases Za:s.size<10
 ·have hv:dayQ s.data.toList=false:=by
   cases hh:dayQ s.data.toList with
   |false=>rfl
   |true=>have:=zgc hh;rw[zab]at this;omega
  rw[hv];go_enter Tryz.func143,Tryz.ntmps143;go_wp2_with fail;go_ret;exact⟨rfl,Below.refl _ _⟩
 ·have h10':10≤s.size:=by omega
  have Xv:=z0e (l:=s.data.toList) (by rw[zab];exact h10');obtain⟨V,hV⟩:∃V,V=dayQ s.data.toList:=⟨_,rfl⟩
  rw[←hV]at Xv ⊢;have HALL:=Z9 Xv;clear Xv hV;go_enter Tryz.func143,Tryz.ntmps143;go_wp2_with fail;go_loopw [3] (fun _ w'=>∃k:Nat,k≤10∧w'=w.iter zpu k∧∀i,i<k→∀c,s.data.toList[i]?=some c→dyAt i c=true) (fun _ w'=>10-w'.iterPos w.heap.size)
  case atStart=>exact⟨0,Nat.zero_le _,rfl,fun i hi=>absurd hi (Nat.not_lt_zero _)⟩
  case round =>
   obtain⟨k,hk,rfl,WU⟩:=hrel;have Yw:=Z9 WU;clear WU
   by_cases Z7:k<10
   ·have Wh:k<s.size:=by omega
    have hcat:=Lib.data_getElem? s k Wh;have HCAT:=Z9 hcat
    have HC:Hid (∀W,Calls Tryz.prog 180 #[.int .u8 (s[k].toNat:Int)] W (RetI W (zaj s[k]))):=fun W=>zjq _ W
    have WC:=zz0 k Z7
    have hnx0:∀ty,(Instr.next (.pointer (some ⟨w.heap.size,0,none⟩)) true ty).run Tryz.prog (w.iter zpu k)=_:=fun ty=>run_next_ascii w zpu k ty Z7 (by rw[WC];split<;>omega)
    rw[WC]at hnx0;obtain⟨p1,_⟩:=zc0 s[k]
    by_cases YF:k=4∨k=7
    ·rw[if_pos YF]at hnx0
     obtain⟨q,hq⟩:∃q,((s[k].toNat:Int) != 45)=q:=⟨_,rfl⟩
     cases q
     ·have hdy:dyAt k s[k]=true:=by unfold dyAt;rw[if_pos YF];simp at hq ⊢;omega
      have Y3:=Z9 hdy;clear hdy WC YF hcat p1;go_wp2_with fail;go_roundw
      case rel=>exact⟨k+1,by omega,rfl,fun i hi c hc=>by
       rcases Nat.lt_or_ge i k with h |h
       ·exact Yw.out i h c hc
       ·obtain rfl:i=k:=by omega
        rw[HCAT.out]at hc;injection hc with hc;rw[←hc];exact Y3.out⟩
      case measure=>simp;omega
     ·have hVf:V=false:=by
       cases V with
       |false=>rfl
       |true =>
        obtain⟨c,hc,hd⟩:=HALL.out.1 rfl k Z7
        rw[HCAT.out]at hc;injection hc with hc;subst hc
        unfold dyAt at hd;rw[if_pos YF]at hd;simp at hq hd;omega
      subst hVf;clear WC YF hcat p1;go_wp2_with fail;go_ret;exact⟨rfl,zhl _ _ _⟩
    ·rw[if_neg YF]at hnx0
     obtain⟨C,hC⟩:∃C,C=zaj s[k]:=⟨_,rfl⟩
     rw[←hC]at HC p1;obtain⟨q,hq⟩:∃q,(C != 2)=q:=⟨_,rfl⟩
     cases q
     ·have hdy:dyAt k s[k]=true:=by unfold dyAt;rw[if_neg YF];exact p1.1 (by simpa using hq)
      have Y3:=Z9 hdy;clear hdy WC YF hcat p1 hC;go_wp2_with fail;refine(HC.out _).mono ?_;rintro e w' ⟨rfl,rfl⟩;go_wp2_with fail;go_roundw
      case rel=>exact⟨k+1,by omega,rfl,fun i hi c hc=>by
       rcases Nat.lt_or_ge i k with h |h
       ·exact Yw.out i h c hc
       ·obtain rfl:i=k:=by omega
        rw[HCAT.out]at hc;injection hc with hc;rw[←hc];exact Y3.out⟩
      case measure=>simp;omega
     ·have hVf:V=false:=by
       cases V with
       |false=>rfl
       |true =>
        obtain⟨c,hc,hd⟩:=HALL.out.1 rfl k Z7
        rw[HCAT.out]at hc;injection hc with hc;subst hc
        unfold dyAt at hd;rw[if_neg YF]at hd;have:=p1.2 hd;rw[this]at hq;exact absurd hq (by decide)
      subst hVf;clear WC YF hcat p1 hC;go_wp2_with fail;refine(HC.out _).mono ?_;rintro e w' ⟨rfl,rfl⟩;go_wp2_with fail;go_ret;exact⟨rfl,zhl _ _ _⟩
   ·have hnx0:∀ty,(Instr.next (.pointer (some ⟨w.heap.size,0,none⟩)) true ty).run Tryz.prog (w.iter zpu k)=_:=fun ty=>run_next_end w zpu k ty Z7
    have hVt:V=true:=HALL.out.2 fun i hi=>⟨s.data.toList[i]'(by rw[zab];omega),List.getElem?_eq_getElem _,Yw.out i (by omega) _ (List.getElem?_eq_getElem _)⟩
    subst hVt;go_wp2_with fail;go_ret;exact⟨rfl,zhl _ _ _⟩
end Go.Proofs.YtkobkpepgdddeaaGreatDoor
