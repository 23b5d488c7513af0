/-
  Small words: what a call returns. No condition.
-/
import Derived.Test.YtkobkpepgdddeaaGreatDoorYaa
import Derived.Test.YtkobkpepgdddeaaGreatDoorYac
import Derived.Laws.IdiomStrings
import Derived.Test.YtkobkpepgdddeaaGreatDoorYaf
import Derived.Test.YtkobkpepgdddeaaGreatDoorYag
import Derived.Laws.Rows
import Derived.RegionTactic
import Derived.Test.YtkobkpepgdddeaaGreatDoorYah
import Derived.Test.YtkobkpepgdddeaaGreatDoorYal
import Derived.Test.YtkobkpepgdddeaaGreatDoorYak
import Derived.Test.YtkobkpepgdddeaaGreatDoorYan
import Derived.Test.YtkobkpepgdddeaaGreatDoorYbe
import Derived.Test.YtkobkpepgdddeaaGreatDoorYba
import Derived.Test.YtkobkpepgdddeaaGreatDoorYbb
namespace Go.Proofs.YtkobkpepgdddeaaGreatDoor
open Go.RowKit
set_option maxHeartbeats 16000000
set_option maxRecDepth 100000
theorem zo2{fn:Func}{t u v x:Tmp}(h:fn.results=#[.tmp t,.tmp u,.tmp v,.tmp x])(tmps:Array Value)(P:Program)(w:World) :
 (results fn tmps).run P w=.ok (.tuple #[tmps.getD t undef,tmps.getD u undef,tmps.getD v undef,tmps.getD x undef]) w:=by
 simp[results,h]
theorem yay{l:List UInt8}(h:chkZ l=0):∃z,l=txtZ z∧bigZ z=false:=by
 cases e:rdZ l with
 |none=>rw[zp2 e]at h;cases h
 |some z =>
  have e:=zni e;subst e;rw[zcw]at h;refine⟨z,rfl,?_⟩
  cases hb:bigZ z with
  |false=>rfl
  |true=>rw[hb]at h;simp at h
theorem zf3(l:List UInt8)(b:UInt8):zbr l ++ [.int .u8 (b.toNat:Int)]=zbr (l ++ [b]):=by simp[zbr]
theorem z5b{w:World}{B:Nat}{v:Value}{n:Nat}{l:List UInt8}(h:w.ownsRow B 5 1 v n (zbr l))(dst:TypeId)(hd:Tryz.prog.underlying dst=some .string) :
 (convert 77 dst v).run Tryz.prog w=.ok (.string ⟨l.toArray⟩) w:=by
 have hn:l.length=n:=by have:=h.1;rw[zd7]at this;omega
 rcases zbv h with⟨rfl,hz,_⟩ |⟨g,c,rfl,_,hc,_,_,hr⟩
 ·rw[run_convert_bytes_nil w 77 5 Tryz.underlying77 Tryz.underlying5 0 0 dst hd]
  rw[List.eq_nil_of_length_eq_zero (hn.trans hz)];rfl
 ·have:=run_convert_bytes_back (P:=Tryz.prog) w 77 dst 5 ⟨g,0,none⟩ c l Tryz.underlying77 Tryz.underlying5 hd (fun j hj=>by
   rw[zqd,Nat.zero_add,hr.cell (by rw[zd7];exact hj),zmw l j hj])
  rw[hn]at this;exact this
theorem z2c{l:List UInt8}(h:slN l<l.length):l[slN l]?=some 47∧∀j,j<slN l→l[j]?≠some 47:=by
 induction l with
 |nil=>simp at h
 |cons c l ih =>
  by_cases hc:c=47
  ·subst hc
   have e:slN (47 :: l)=0:=rfl;rw[e];exact⟨rfl,fun j hj=>by omega⟩
  ·have e:slN (c :: l)=slN l+1:=by unfold slN;rw[List.takeWhile_cons,if_pos (by simpa using hc)];rfl
   rw[e]at h ⊢;obtain⟨h1,h2⟩:=ih (by simpa using h);refine⟨by simpa using h1,fun j hj => ?_⟩
   cases j with
   |zero=>simpa using hc
   |succ j=>have:=h2 j (by omega);simpa using this
theorem z56:chkZ [49]=0:=by
 rw[←txtZ_1,zcw]
 have:decN 1=[1]:=by unfold decN;rw[if_neg (by decide),zf0 (by decide)];show _ :: decL 0=_;rw[zdh]
 unfold bigZ;rw[show(1:Int).natAbs=1 from rfl,this];rfl
theorem zt1:bigZ 1=false:=by
 have:=z56;rw[←txtZ_1,zcw]at this
 cases h:bigZ 1 with
 |false=>rfl
 |true=>rw[h]at this;cases this
theorem ztj(y m:Nat):28≤zb8 y m:=by unfold zb8;split<;>(try split)<;>(try split)<;>omega
theorem z1f:yd 1900=0:=by decide
theorem yc8(k:Nat):yd (1900+k)≤366*k:=by
 induction k with
 |zero=>decide
 |succ k ih =>
  have:=zqi (y:=1900+k) (by omega);rw[show 1900+(k+1)=1900+k+1 by omega,this]
  split<;>omega
theorem DateIs.unique{day y m d y' m' d':Nat}(h:DateIs day y m d)(h':DateIs day y' m' d'):y=y'∧m=m'∧d=d':=by
 have a:=h.lt;have b:=h'.lt
 have ey:y=y':=by
  rcases Nat.lt_trichotomy y y' with e |e |e
  ·have:=zm1 (a:=y+1) (b:=y') (by have:=h.1;omega) (by omega);omega
  ·exact e
  ·have:=zm1 (a:=y'+1) (b:=y) (by have:=h'.1;omega) (by omega);omega
 subst ey;obtain⟨h1,h2,h3,h4,h5,h6⟩:=h;obtain⟨g1,g2,g3,g4,g5,g6⟩:=h';obtain⟨k,rfl⟩:∃k,m=k+1:=⟨m-1,by omega⟩
 obtain⟨j,rfl⟩:∃j,m'=j+1:=⟨m'-1,by omega⟩
 simp only[Nat.add_sub_cancel]at h6 g6
 have em:k=j:=by
  rcases Nat.lt_trichotomy k j with e |e |e
  ·have:=zif y (a:=k+1) (b:=j) (by omega)
   change mdR y k+zb8 y (k+1)≤_ at this;omega
  ·exact e
  ·have:=zif y (a:=j+1) (b:=k) (by omega)
   change mdR y j+zb8 y (j+1)≤_ at this;omega
 subst em;exact⟨rfl,rfl,by omega⟩
theorem zkw(day:Nat):yd (1900+day / 366)≤day:=by have:=yc8 (day / 366);omega
def z08(day y m d:Nat):Prop:=1900≤y∧1≤m∧m≤12∧1≤d∧yd y+mdR y (m-1)+d=day+1∧day<yd (y+1)
theorem zy0{day y:Nat}(h:1900≤y)(h1:yd y≤day)(h2:day<yd (y+1)):z08 day y 1 (day-yd y+1):=⟨h,by omega,by omega,by omega,by show yd y+0+_=_;omega,h2⟩
theorem z30{day y m d:Nat}(h:z08 day y m d)(hd:zb8 y m<d):z08 day y (m+1) (d-zb8 y m)∧m<12:=by
 obtain⟨h1,h2,h3,h4,h5,h6⟩:=h;obtain⟨k,rfl⟩:∃k,m=k+1:=⟨m-1,by omega⟩
 simp only[Nat.add_sub_cancel]at h5
 have hm:k+1<12:=by
  rcases Nat.lt_or_ge (k+1) 12 with h |h
  ·exact h
  ·have:k=11:=by omega
   subst this;have e:mdR y 12=mdR y 11+zb8 y 12:=rfl;have hd':zb8 y 12<d:=hd;rw[zqh h1]at h6;omega
 refine⟨⟨h1,by omega,by omega,by omega,?_,h6⟩,hm⟩
 show yd y+(mdR y k+zb8 y (k+1))+_=_
 omega
theorem z9l{day y m d:Nat}(h:z08 day y m d)(hd:d≤zb8 y m):DateIs day y m d:=⟨h.1,h.2.1,h.2.2.1,h.2.2.2.1,hd,h.2.2.2.2.1⟩
def zsd(day y m r:Nat):Prop:=1900≤y∧1≤m∧m≤12∧yd y+mdR y (m-1)+r=day
theorem zxr(day:Nat):zsd day 1900 1 day:=⟨by omega,by omega,by omega,by rw[z1f];show 0+0+day=_;omega⟩
theorem zxs{day y m r:Nat}(h:zsd day y m r)(hr:zb8 y m≤r)(hm:m<12):zsd day y (m+1) (r-zb8 y m):=by
 obtain⟨h1,h2,h3,h4⟩:=h;obtain⟨k,rfl⟩:∃k,m=k+1:=⟨m-1,by omega⟩
 simp only[Nat.add_sub_cancel]at h4;refine⟨h1,by omega,by omega,?_⟩
 show yd y+(mdR y k+zb8 y (k+1))+_=_
 omega
theorem z2t{day y r:Nat}(h:zsd day y 12 r)(hr:zb8 y 12≤r):zsd day (y+1) 1 (r-zb8 y 12):=by
 obtain⟨h1,h2,h3,h4⟩:=h;have e:mdR y 12=mdR y 11+zb8 y 12:=rfl;refine⟨by omega,by omega,by omega,?_⟩;rw[zqh h1]
 show _+0+_=_
 simp only[show 12-1=11 from rfl]at h4;omega
theorem z8s{day y m r:Nat}(h:zsd day y m r)(hr:r<zb8 y m):DateIs day y m (r+1):=⟨h.1,h.2.1,h.2.2.1,by omega,by omega,by have:=h.2.2.2;omega⟩
theorem zeo(day:Nat):∃y m d,DateIs day y m d:=by
 have key:∀r,∀y m,zsd day y m r→∃y m d,DateIs day y m d:=by
  intro r
  induction r using Nat.strongRecOn with
  |_ r ih =>
   intro y m h
   by_cases hr:r<zb8 y m
   ·exact⟨y,m,r+1,z8s h hr⟩
   ·have hg:=ztj y m
    by_cases hm:m<12
    ·exact ih _ (by omega) _ _ (zxs h (by omega) hm)
    ·have:m=12:=by have:=h.2.2.1;omega
     subst this;exact ih _ (by omega) _ _ (z2t h (by omega))
 exact key day 1900 1 (zxr day)
def z07(w:World)(y m d e0:Int)(e:Ending)(w':World):Prop:=e=.returned (.tuple #[.int .i64 y,.int .i64 m,.int .i64 d,.int .i64 e0])∧Below w.heap.size w w'
theorem z4p(y:Nat)(h1:1900≤y)(hy:y≤9999):Hid (∀W,Calls Tryz.prog 208 #[.int .i64 ((y:Int)+1)] W (RetI W (yd (y+1):Int))):=fun W=>by
 have:=zhb (y+1) W (by omega) (by omega)
 rwa [show((y+1:Nat):Int)=(y:Int)+1 by omega]at this
def YrR(day:Nat)(v:Value):Prop:=∃y:Nat,v=.int .i64 (y:Int)∧1900≤y∧yd y≤day
def MoR(day y:Nat)(mv dv:Value):Prop:=∃m d:Nat,mv=.int .i64 (m:Int)∧dv=.int .i64 (d:Int)∧z08 day y m d
theorem z3i(day Y M D:Nat)(w:World)(hd:day≤99999)(h:DateIs day Y M D):Calls Tryz.prog 187 #[.int .i64 (day:Int)] w (z07 w Y M D 0):=by
 have HU:=Z9 h;obtain⟨k,hk⟩:∃k,k=day / 366:=⟨_,rfl⟩
 have hkI:(day:Int) / 366=(k:Int):=by omega
 have ZN:YrR day (.int .i64 (1900+(k:Int))):=⟨1900+k,by congr 1,by omega,by rw[hk];exact zkw day⟩;have HST:=Z9 ZN;have Y3:k≤1000:=by omega
 clear h hk ZN;go_enter Tryz.func187,Tryz.ntmps187;go_wp2_with fail;go_loop [2] (YrR day) (fun v=>3000-(intOf v).toNat)
 case atStart=>exact HST.out
 case round =>
  obtain⟨y,rfl,hy,W7⟩:=hrel;have Yb:y≤2174:=by have:=ya9 hy;omega
  have HF:=z4p y hy (by omega);obtain⟨Y1,VG⟩:∃Y1,Y1=yd (y+1):=⟨_,rfl⟩
  rw[←VG]at HF
  by_cases Z4:Y1≤day
  ·have HN:Hid (YrR day (.int .i64 ((y:Int)+1))):=⟨y+1,by congr 1,by omega,by rw[←VG];exact Z4⟩
   clear VG W7 HST;go_wp2_with fail;refine(HF.out _).mono ?_;rintro e w' ⟨rfl,rfl⟩;go_wp2_with fail;go_round
   case rel=>exact HN.out
   case measure=>simp[intOf];omega
  ·have Yl:=zy0 hy W7 (by rw[←VG];omega)
   have HF2:=Z9 (fun W=>zhb y W hy (by omega))
   have hL:=fun W=>zfx y W (by omega)
   unfold zgo at hL;have HL:=Z9 hL;clear hL;obtain⟨Y0,Wf⟩:∃Y0,Y0=yd y:=⟨_,rfl⟩
   rw[←Wf]at HF2 Yl W7;have hM0:Hid (MoR day y (.int .i64 1) (.int .i64 ((day:Int)-(Y0:Int)+1))):=⟨1,day-Y0+1,rfl,by congr 1;omega,Yl⟩
   have hc:∀W:World,∀m:Nat,1≤m→m≤12→(W.alloc (.cells (zgo y) 219)).cell? ⟨W.heap.size,m,none⟩=some (.int .i64 (zb8 y m:Int)):=fun W m a1 a2=>by
    rw[RowAt.cell (zc0 (t:=219) (c:=zgo y) rfl rfl) (by show m<13;omega)];simpa using zk5 y m a1 a2
   have HC:=Z9 hc;clear VG Wf Yl HST hc;go_wp2_with fail;refine(HF.out _).mono ?_;rintro e w' ⟨rfl,rfl⟩;go_wp2_with fail;refine(HF2.out _).mono ?_;rintro e w' ⟨rfl,rfl⟩;go_wp2_with fail;refine(HL.out _).mono ?_;rintro e w2 ⟨rfl,b2⟩;have B2:=Z9 b2;clear b2;go_wp2_with fail;go_loop [3,4] (MoR day y) (fun _ v=>(intOf v).toNat)
   case atStart=>exact hM0.out
   case round =>
    obtain⟨m,d,rfl,rfl,hm⟩:=hrel;obtain⟨n,hn⟩:∃n,n=zb8 y m:=⟨_,rfl⟩
    have hc:=HC.out w2 m hm.2.1 hm.2.2.1;unfold zgo at hc;rw[←hn]at hc;have hm12:=hm.2.2.1
    by_cases Z4:n<d
    ·obtain⟨hs,hlt12⟩:=z30 hm (by rw[←hn];exact Z4)
     rw[←hn]at hs;have hn28:28≤n:=by rw[hn];exact ztj _ _
     have hd99:d≤100000:=by have:=hm.2.2.2.2.1;omega
     have HS:Hid (MoR day y (.int .i64 ((m:Int)+1)) (.int .i64 ((d:Int)-(n:Int)))):=⟨m+1,d-n,by congr 1,by congr 1;omega,hs⟩;clear hn hm hs HC hM0;go_wp2_with fail;go_round
     case rel=>exact HS.out
     case measure=>simp[intOf];omega
    ·obtain⟨e1,e2,e3⟩:=HU.out.unique (z9l hm (by rw[←hn];omega))
     have E1:=Z9 e1;have E2:=Z9 e2;have E3:=Z9 e3;clear hn hm HC hM0 e1 e2 e3;go_wp2_with fail;refine bodyPost_ret (zo2 rfl _ _ _) rfl ?_;refine⟨?_,(B2.out.alloc (Nat.le_trans (by simp) B2.out.size) _)⟩;rw[E1.out,E2.out,E3.out];rfl
def ErrB(W:World)(b:Bool)(e:Ending)(w':World):Prop:=e=.returned (.int .i64 (if b=true then 0 else 8))∧Below W.heap.size W w'
theorem zax(w:World)(o1 o2:Obj):Below w.heap.size w ((w.alloc o1).alloc o2):=(zaa _ _).trans ((zaa _ _).mono (by simp))
theorem z6d(t1 r1:ByteArray)(d1 z1:Int)(w:World)(bn b_a1 b_a2 b_r b_d:Bool)
 (q_a1:decide ((0:Int)≤z1)=b_a1)
 (q_a2:decide (z1≤20000)=b_a2)
 (q_r:r1.toList.isEmpty=b_r)
 (q_d:((d1:Int) == 0)=b_d)
 (HN:Hid (∀W,Calls Tryz.prog 51 #[.string t1] W (RetB W bn))) :
 Calls Tryz.prog 147 #[.agg #[.int .u8 1,.string t1,.string r1,.int .i64 d1,.int .i64 z1]] w (ErrB w (bn && b_r && b_d && b_a1 && b_a2)):=by
 go_enter Tryz.func147,Tryz.ntmps147
 cases b_a1 with
 |false =>
  go_wp2_with fail
  all_goals
   go_ret;exact⟨zaw (by simp_all),by first |exact zax _ _ _ |exact B.out |exact B.out.setCell (Nat.le_succ _) _⟩
 |true =>
  cases b_a2 with
  |false =>
   go_wp2_with fail
   all_goals
    go_ret;exact⟨zaw (by simp_all),by first |exact zax _ _ _ |exact B.out |exact B.out.setCell (Nat.le_succ _) _⟩
  |true =>
   go_wp2_with fail;refine(HN.out _).mono ?_;rintro e w' ⟨rfl,rfl⟩
   cases bn
   all_goals
    go_wp2_with fail
    all_goals
     go_ret;exact⟨zaw (by simp_all),by first |exact zax _ _ _ |exact B.out |exact B.out.setCell (Nat.le_succ _) _⟩
theorem z6c(t1 r1:ByteArray)(d1 z1:Int)(w:World)(bn b_a1 b_a2 b_r b_d:Bool)
 (q_a1:decide ((0:Int)≤z1)=b_a1)
 (q_a2:decide (z1≤20000)=b_a2)
 (q_r:r1.toList.isEmpty=b_r)
 (q_d:((d1:Int) == 0)=b_d)
 (HN:Hid (∀W,Calls Tryz.prog 51 #[.string t1] W (RetB W bn))) :
 Calls Tryz.prog 147 #[.agg #[.int .u8 2,.string t1,.string r1,.int .i64 d1,.int .i64 z1]] w (ErrB w (bn && b_r && b_d && b_a1 && b_a2)):=by
 go_enter Tryz.func147,Tryz.ntmps147
 cases b_a1 with
 |false =>
  go_wp2_with fail
  all_goals
   go_ret;exact⟨zaw (by simp_all),by first |exact zax _ _ _ |exact B.out |exact B.out.setCell (Nat.le_succ _) _⟩
 |true =>
  cases b_a2 with
  |false =>
   go_wp2_with fail
   all_goals
    go_ret;exact⟨zaw (by simp_all),by first |exact zax _ _ _ |exact B.out |exact B.out.setCell (Nat.le_succ _) _⟩
  |true =>
   go_wp2_with fail;refine(HN.out _).mono ?_;rintro e w' ⟨rfl,rfl⟩
   cases bn
   all_goals
    go_wp2_with fail
    all_goals
     go_ret;exact⟨zaw (by simp_all),by first |exact zax _ _ _ |exact B.out |exact B.out.setCell (Nat.le_succ _) _⟩
theorem z6b(t1 r1:ByteArray)(d1 z1:Int)(w:World)(bv b_a1 b_a2 b_t b_d:Bool)
 (q_a1:decide ((0:Int)≤z1)=b_a1)
 (q_a2:decide (z1≤20000)=b_a2)
 (q_t:t1.toList.isEmpty=b_t)
 (q_d:((d1:Int) == 0)=b_d)
 (x:Int) (HV:Hid (∀W,Calls Tryz.prog 178 #[.string r1] W (zcm W x))) (hx:(x == 0)=bv) :
 Calls Tryz.prog 147 #[.agg #[.int .u8 3,.string t1,.string r1,.int .i64 d1,.int .i64 z1]] w (ErrB w (b_t && bv && b_d && b_a1 && b_a2)):=by
 go_enter Tryz.func147,Tryz.ntmps147
 cases b_a1 with
 |false =>
  go_wp2_with fail
  all_goals
   go_ret;exact⟨zaw (by simp_all),by first |exact zax _ _ _ |exact B.out |exact B.out.setCell (Nat.le_succ _) _⟩
 |true =>
  cases b_a2 with
  |false =>
   go_wp2_with fail
   all_goals
    go_ret;exact⟨zaw (by simp_all),by first |exact zax _ _ _ |exact B.out |exact B.out.setCell (Nat.le_succ _) _⟩
  |true =>
   go_wp2_with fail;refine(HV.out _).mono ?_;rintro e w2 ⟨rfl,b2⟩;have B:Hid (Below w.heap.size w w2):=(zax _ _ _).trans (b2.mono (by simp<;>omega))
   have a0:w2.cell? ⟨w.heap.size,0,none⟩=some (.int .u8 3):=by rw[(zbg b2).1 _ _ (by simp<;>omega)];simp[go_sem]
   have a1:w2.cell? ⟨w.heap.size,1,none⟩=some (.string t1):=by rw[(zbg b2).1 _ _ (by simp<;>omega)];simp[go_sem]
   have a2:w2.cell? ⟨w.heap.size,2,none⟩=some (.string r1):=by rw[(zbg b2).1 _ _ (by simp<;>omega)];simp[go_sem]
   have a3:w2.cell? ⟨w.heap.size,3,none⟩=some (.int .i64 d1):=by rw[(zbg b2).1 _ _ (by simp<;>omega)];simp[go_sem]
   have a4:w2.cell? ⟨w.heap.size,4,none⟩=some (.int .i64 z1):=by rw[(zbg b2).1 _ _ (by simp<;>omega)];simp[go_sem]
   have c0:w2.cell? ⟨w.heap.size+1,0,none⟩=some (.int .u8 0):=by rw[(zbg b2).1 _ _ (by simp<;>omega)];simp[go_sem]
   have c1:w2.cell? ⟨w.heap.size+1,1,none⟩=some (.string t1):=by rw[(zbg b2).1 _ _ (by simp<;>omega)];simp[go_sem]
   have c2:w2.cell? ⟨w.heap.size+1,2,none⟩=some (.string r1):=by rw[(zbg b2).1 _ _ (by simp<;>omega)];simp[go_sem]
   have c3:w2.cell? ⟨w.heap.size+1,3,none⟩=some (.int .i64 d1):=by rw[(zbg b2).1 _ _ (by simp<;>omega)];simp[go_sem]
   have c4:w2.cell? ⟨w.heap.size+1,4,none⟩=some (.int .i64 0):=by rw[(zbg b2).1 _ _ (by simp<;>omega)];simp[go_sem]
   have f2:∀i,w2.frozen? ⟨w.heap.size+1,i,none⟩=false:=fun i=>by rw[(zbg b2).2 _ _ (by simp<;>omega)];simp[go_sem]
   clear b2
   cases bv
   all_goals
    go_wp2_with fail
    all_goals
     go_ret;exact⟨zaw (by simp_all),by first |exact zax _ _ _ |exact B.out |exact B.out.setCell (Nat.le_succ _) _⟩
theorem z6a(t1 r1:ByteArray)(d1 z1:Int)(w:World)(b_a1 b_a2 b_t b_r b_d1 b_d2:Bool)
 (q_a1:decide ((0:Int)≤z1)=b_a1)
 (q_a2:decide (z1≤20000)=b_a2)
 (q_t:t1.toList.isEmpty=b_t)
 (q_r:r1.toList.isEmpty=b_r)
 (q_d1:decide ((0:Int)≤d1)=b_d1)
 (q_d2:decide (d1≤99999)=b_d2) :
 Calls Tryz.prog 147 #[.agg #[.int .u8 4,.string t1,.string r1,.int .i64 d1,.int .i64 z1]] w (ErrB w (b_t && b_r && b_d1 && b_d2 && b_a1 && b_a2)):=by
 go_enter Tryz.func147,Tryz.ntmps147
 cases b_a1 with
 |false =>
  go_wp2_with fail
  all_goals
   go_ret;exact⟨zaw (by simp_all),by first |exact zax _ _ _ |exact B.out |exact B.out.setCell (Nat.le_succ _) _⟩
 |true =>
  cases b_a2 with
  |false =>
   go_wp2_with fail
   all_goals
    go_ret;exact⟨zaw (by simp_all),by first |exact zax _ _ _ |exact B.out |exact B.out.setCell (Nat.le_succ _) _⟩
  |true =>
   cases b_d1<;>cases b_d2
   all_goals
    go_wp2_with fail
    all_goals
     go_ret;exact⟨zaw (by simp_all),by first |exact zax _ _ _ |exact B.out |exact B.out.setCell (Nat.le_succ _) _⟩
theorem z59(t1 r1:ByteArray)(d1 z1:Int)(w:World)(bc bm b_a1 b_a2 b_r b_d:Bool)
 (q_a1:decide ((0:Int)≤z1)=b_a1)
 (q_a2:decide (z1≤20000)=b_a2)
 (q_r:r1.toList.isEmpty=b_r)
 (q_d:((d1:Int) == 0)=b_d)
 (ZS:t1.size=1)
 (x:Int) (HC:Hid (∀W,Calls Tryz.prog 180 #[.int .u8 ((t1[0]'(by omega)).toNat:Int)] W (RetI W x))) (hx:(x == 5)=bc) (hm:(t1.toList == [45])=bm) :
 Calls Tryz.prog 147 #[.agg #[.int .u8 5,.string t1,.string r1,.int .i64 d1,.int .i64 z1]] w (ErrB w ((bc ||bm) && b_r && b_d && b_a1 && b_a2)):=by
 have q_l:((t1.size:Int) == 1)=true:=by rw[ZS];rfl
 go_enter Tryz.func147,Tryz.ntmps147
 cases b_a1 with
 |false =>
  go_wp2_with fail
  all_goals
   go_ret;exact⟨zaw (by simp_all),by first |exact zax _ _ _ |exact B.out |exact B.out.setCell (Nat.le_succ _) _⟩
 |true =>
  cases b_a2 with
  |false =>
   go_wp2_with fail
   all_goals
    go_ret;exact⟨zaw (by simp_all),by first |exact zax _ _ _ |exact B.out |exact B.out.setCell (Nat.le_succ _) _⟩
  |true =>
   go_wp2_with fail;refine(HC.out _).mono ?_;rintro e w' ⟨rfl,rfl⟩
   cases bc<;>cases bm
   all_goals
    go_wp2_with fail
    all_goals
     go_ret;exact⟨zaw (by simp_all),by first |exact zax _ _ _ |exact B.out |exact B.out.setCell (Nat.le_succ _) _⟩
theorem z0y(t1 r1:ByteArray)(d1 z1:Int)(w:World)(b_a1 b_a2:Bool)
 (q_a1:decide ((0:Int)≤z1)=b_a1)
 (q_a2:decide (z1≤20000)=b_a2)
 (q_l:((t1.size:Int) == 1)=false) :
 Calls Tryz.prog 147 #[.agg #[.int .u8 5,.string t1,.string r1,.int .i64 d1,.int .i64 z1]] w (ErrB w (false)):=by
 go_enter Tryz.func147,Tryz.ntmps147
 cases b_a1 with
 |false =>
  go_wp2_with fail
  all_goals
   go_ret;exact⟨zaw (by simp_all),by first |exact zax _ _ _ |exact B.out |exact B.out.setCell (Nat.le_succ _) _⟩
 |true =>
  cases b_a2 with
  |false =>
   go_wp2_with fail
   all_goals
    go_ret;exact⟨zaw (by simp_all),by first |exact zax _ _ _ |exact B.out |exact B.out.setCell (Nat.le_succ _) _⟩
  |true =>
   go_wp2_with fail
   all_goals
    go_ret;exact⟨zaw (by simp_all),by first |exact zax _ _ _ |exact B.out |exact B.out.setCell (Nat.le_succ _) _⟩
theorem z58(K:Int)(k1:(K == 1)=false)(k2:(K == 2)=false)(k3:(K == 3)=false)(k4:(K == 4)=false)(k5:(K == 5)=false)(t1 r1:ByteArray)(d1 z1:Int)(w:World)(b_a1 b_a2:Bool)
 (q_a1:decide ((0:Int)≤z1)=b_a1)
 (q_a2:decide (z1≤20000)=b_a2) :
 Calls Tryz.prog 147 #[.agg #[.int .u8 K,.string t1,.string r1,.int .i64 d1,.int .i64 z1]] w (ErrB w false):=by
 go_enter Tryz.func147,Tryz.ntmps147
 cases b_a1 with
 |false =>
  go_wp2_with fail
  all_goals
   go_ret;exact⟨zaw (by simp_all),by first |exact zax _ _ _ |exact B.out |exact B.out.setCell (Nat.le_succ _) _⟩
 |true =>
  cases b_a2 with
  |false =>
   go_wp2_with fail
   all_goals
    go_ret;exact⟨zaw (by simp_all),by first |exact zax _ _ _ |exact B.out |exact B.out.setCell (Nat.le_succ _) _⟩
  |true =>
   go_wp2_with fail
   all_goals
    go_ret;exact⟨zaw (by simp_all),by first |exact zax _ _ _ |exact B.out |exact B.out.setCell (Nat.le_succ _) _⟩
theorem zz3{d:Nat}(h:d<10):Value.int .u8 ((48:Int)+(d:Int))=.int .u8 ((UInt8.ofNat (48+d)).toNat:Int):=by
 congr 1
 rw[UInt8.toNat_ofNat'];omega
def zj7(B:Nat)(w:World)(l:List UInt8)(e:Ending)(w':World):Prop:=∃v',e=.returned v'∧w'.ownsRow B 5 1 v' l.length (zbr l)∧Below B w w'
theorem zhv(k:Nat):∀(B:Nat)(v:Value)(l:List UInt8)(n:Nat)(many:Int)(w:World),n≤100000→k≤10→l.length≤1000→B≤w.heap.size→many=(k:Int)+1→w.ownsRow B 5 1 v l.length (zbr l) →
 Calls Tryz.prog 188 #[v,.int .i64 (n:Int),.int .i64 many] w (zj7 B w (l ++ figB n (k+1))):=by
 obtain⟨i0,hi,ZE,ZO,ZA⟩:=info_parts zzj
 induction k with
 |zero =>
  intro B v l n many w hn hk hl hB hm ho;obtain⟨d,hd⟩:∃d,d=n % 10:=⟨_,rfl⟩
  have hdI:(n:Int) % 10=(d:Int):=by omega
  have VL:d<10:=by omega
  have HF:Hid (l ++ figB n (0+1)=l ++ [UInt8.ofNat (48+d)]):=by rw[hd];rfl
  have HO:=Z9 ho;obtain⟨m,hm'⟩:∃m,m=l.length:=⟨_,rfl⟩
  have HO':=HO.out;rw[←hm']at HO' hl;have HO2:=Z9 HO';have HM:=Z9 hm';subst hm;clear ho HO HO' hd hm';rw[HF.out];go_enter Tryz.func188,Tryz.ntmps188;go_wp2_with (at_builtin;refine zay _ rfl (.tmp 15) (.tmp 20) 77 rfl B 5 i0 (.int .u8 0) 1 Tryz.underlying77 hi ZE ZO ZA rfl _ _ _ rfl (HO2.out.alloc _) ⟨w.heap.size,0,none⟩ 1 (.int .u8 ((48:Int)+(d:Int))) rfl ?c1 rfl ?c3 ?c4 ?c5 ?_)
  case c1=>simp
  case c3=>unfold maxLen;omega
  case c4=>omega
  case c5=>simp;omega
  intro v3 w3 Ya Zk XS XU;have n3:Below B w w3:=((Below.refl B w).alloc hB _).grown Zk (by simp;omega) (fun k hk=>(HO2.out.lt k hk).1);rw[zz3 VL,zf3]at Ya;have HO3:=Z9 Ya;have N3:=Z9 n3;clear Ya Zk XS XU n3;go_wp2_with fail;go_ret;exact⟨_,rfl,by rw[List.length_append,←HM.out];exact HO3.out,N3.out⟩
 |succ k ih =>
  intro B v l n many w hn hk hl hB hm ho;obtain⟨d,hd⟩:∃d,d=n % 10:=⟨_,rfl⟩
  obtain⟨q,hq⟩:∃q,q=n / 10:=⟨_,rfl⟩
  have hdI:(n:Int) % 10=(d:Int):=by omega
  have hqI:(n:Int) / 10=(q:Int):=by omega
  have VL:d<10:=by omega
  have HF:Hid (l ++ figB n (k+1+1)=(l ++ figB q (k+1)) ++ [UInt8.ofNat (48+d)]):=by rw[hd,hq];show l ++ (figB (n / 10) (k+1) ++ _)=_;rw[List.append_assoc]
  have HI:=Z9 (ih B v l q (many-1) w (by omega) (by omega) hl hB (by omega) ho);obtain⟨m,hm'⟩:∃m,m=(l ++ figB q (k+1)).length:=⟨_,rfl⟩
  have hml:m=l.length+(k+1):=by rw[hm',List.length_append,zim]
  have t1:decide ((1:Int)<many)=true:=by simp;omega
  have hmb:1≤many∧many≤100:=by omega
  have HM:=Z9 hm';clear ho hd hq hm hm' ih;rw[HF.out];go_enter Tryz.func188,Tryz.ntmps188;go_wp2_with fail;refine HI.out.mono ?_;rintro e w1 ⟨v1,rfl,Yn,b1⟩;rw[←HM.out]at Yn;have HO1:=Z9 Yn;have B1:=Z9 b1;clear Yn b1 HI;go_wp2_with (at_builtin;refine zay _ rfl (.tmp 15) (.tmp 20) 77 rfl B 5 i0 (.int .u8 0) 1 Tryz.underlying77 hi ZE ZO ZA rfl _ _ _ rfl (HO1.out.alloc _) ⟨w1.heap.size,0,none⟩ 1 (.int .u8 ((48:Int)+(d:Int))) rfl ?c1 rfl ?c3 ?c4 ?c5 ?_)
  case c1=>simp
  case c3=>unfold maxLen;omega
  case c4=>omega
  case c5=>have:=B1.out.size;simp;omega
  intro v3 w3 Ya Zk XS XU;have n3:Below B w w3:=(B1.out.alloc (Nat.le_trans hB B1.out.size) _).grown Zk (by have:=B1.out.size;simp;omega) (fun k hk=>(HO1.out.lt k hk).1);rw[zz3 VL,zf3]at Ya;have HO3:=Z9 Ya;have N3:=Z9 n3;clear Ya Zk XS XU n3;go_wp2_with fail;go_ret;exact⟨_,rfl,by rw[List.length_append,←HM.out,hml];exact HO3.out,N3.out⟩
theorem zzx(Y M D:Nat):([] ++ figB Y 4 ++ [45] ++ figB M 2 ++ [45] ++ figB D 2:List UInt8)=zb4 Y M D:=by simp[zb4]
theorem z4u(day Y M D:Nat)(w:World)(hd:day≤99999)(h:DateIs day Y M D):Calls Tryz.prog 148 #[.int .i64 (day:Int)] w (z7n w (zb4 Y M D) 0):=by
 obtain⟨i0,hi,ZE,ZO,ZA⟩:=info_parts zzj;have HP:=Z9 (fun W=>z3i day Y M D W hd h);obtain⟨hY,hD⟩:=h.small hd;have hM:M≤12:=h.2.2.1;obtain⟨L1,SK⟩:∃L1,L1=[] ++ figB Y 4:=⟨_,rfl⟩
 obtain⟨L2,SL⟩:∃L2,L2=L1 ++ [45]:=⟨_,rfl⟩
 obtain⟨L3,SM⟩:∃L3,L3=L2 ++ figB M 2:=⟨_,rfl⟩
 obtain⟨L4,SN⟩:∃L4,L4=L3 ++ [45]:=⟨_,rfl⟩
 obtain⟨L5,R9⟩:∃L5,L5=L4 ++ figB D 2:=⟨_,rfl⟩
 have l1:L1.length=4:=by rw[SK,List.nil_append,zim]
 have l2:L2.length=5:=by rw[SL,List.length_append,l1];rfl
 have l3:L3.length=7:=by rw[SM,List.length_append,l2,zim]
 have l4:L4.length=8:=by rw[SN,List.length_append,l3];rfl
 have HL:Hid (zb4 Y M D=L5):=by show _=_;rw[R9,SN,SM,SL,SK];exact(zzx Y M D).symm
 have ZT:Hid (zbr L1 ++ [.int .u8 45]=zbr L2):=by rw[SL,←zf3];rfl
 have ZY:Hid (zbr L3 ++ [.int .u8 45]=zbr L4):=by rw[SN,←zf3];rfl
 have H1:Hid (∀W:World,w.heap.size≤W.heap.size→Calls Tryz.prog 188 #[.slice none 0 0,.int .i64 (Y:Int),.int .i64 4] W (zj7 w.heap.size W L1)):=fun W hW=>by
  rw[SK];exact zhv 3 w.heap.size (.slice none 0 0) [] Y 4 W (by omega) (by omega) (by simp) hW rfl (World.ownsRow_nil _ _ _ _)
 have H2:Hid (∀(W:World)(v:Value),w.heap.size≤W.heap.size→W.ownsRow w.heap.size 5 1 v 5 (zbr L2)→Calls Tryz.prog 188 #[v,.int .i64 (M:Int),.int .i64 2] W (zj7 w.heap.size W L3)):=fun W v hW ho=>by
  rw[SM];exact zhv 1 w.heap.size v L2 M 2 W (by omega) (by omega) (by omega) hW rfl (by rw[l2];exact ho)
 have H3:Hid (∀(W:World)(v:Value),w.heap.size≤W.heap.size→W.ownsRow w.heap.size 5 1 v 8 (zbr L4)→Calls Tryz.prog 188 #[v,.int .i64 (D:Int),.int .i64 2] W (zj7 w.heap.size W L5)):=fun W v hW ho=>by
  rw[R9];exact zhv 1 w.heap.size v L4 D 2 W (by omega) (by omega) (by omega) hW rfl (by rw[l4];exact ho)
 rw[HL.out];clear h SK SL SM SN R9;go_enter Tryz.func148,Tryz.ntmps148;go_wp2_with fail;refine(HP.out _).mono ?_;rintro e w1 ⟨rfl,b1⟩;have B1:=Z9 b1;clear b1;go_wp2_with fail;refine(H1.out _ B1.out.size).mono ?_;rintro e w2 ⟨v2,rfl,ZI,b2⟩;rw[l1]at ZI;have O2:=Z9 ZI;have B2:=Z9 (B1.out.trans b2);clear ZI b2 B1;go_wp2_with (at_builtin;refine zay _ rfl (.tmp 20) (.tmp 21) 77 rfl w.heap.size 5 i0 (.int .u8 0) 1 Tryz.underlying77 hi ZE ZO ZA rfl _ _ _ rfl (O2.out.alloc _) ⟨w2.heap.size,0,none⟩ 1 (.int .u8 45) rfl ?c1 rfl ?c3 ?c4 ?c5 ?_)
 case c1=>simp
 case c3=>unfold maxLen;omega
 case c4=>omega
 case c5=>have:=B2.out.size;simp;omega
 intro v3 w3 Ya Zk XS XU;have n3:Below w.heap.size w w3:=(B2.out.alloc B2.out.size _).grown Zk (by have:=B2.out.size;simp;omega) (fun k hk=>(O2.out.lt k hk).1);rw[ZT.out]at Ya;have O3:=Z9 Ya;have B3:=Z9 n3;clear Ya Zk XS XU n3 O2 B2;go_wp2_with fail;refine(H2.out _ _ B3.out.size O3.out).mono ?_;rintro e w4 ⟨v4,rfl,V6,b4⟩;rw[l3]at V6;have O4:=Z9 V6;have B4:=Z9 (B3.out.trans b4);clear V6 b4 B3 O3;go_wp2_with (at_builtin;refine zay _ rfl (.tmp 25) (.tmp 26) 77 rfl w.heap.size 5 i0 (.int .u8 0) 1 Tryz.underlying77 hi ZE ZO ZA rfl _ _ _ rfl (O4.out.alloc _) ⟨w4.heap.size,0,none⟩ 1 (.int .u8 45) rfl ?c1 rfl ?c3 ?c4 ?c5 ?_)
 case c1=>simp
 case c3=>unfold maxLen;omega
 case c4=>omega
 case c5=>have:=B4.out.size;simp;omega
 intro v5 w5 UY YU Sw Sz;have n5:Below w.heap.size w w5:=(B4.out.alloc B4.out.size _).grown YU (by have:=B4.out.size;simp;omega) (fun k hk=>(O4.out.lt k hk).1);rw[ZY.out]at UY;have O5:=Z9 UY;have B5:=Z9 n5;clear UY YU Sw Sz n5 O4 B4;go_wp2_with fail;refine(H3.out _ _ B5.out.size O5.out).mono ?_;rintro e w6 ⟨v6,rfl,Ut,b6⟩;have UM:=z5b Ut 9 Tryz.underlying9;have B6:=Z9 (B5.out.trans b6);clear Ut b6 B5 O5;go_wp2_with fail;go_ret2;exact⟨rfl,B6.out⟩
instance:Inhabited Tk:=⟨⟨0,ByteArray.empty,ByteArray.empty,0,0⟩⟩
def ya4(x:Tk):Value:=.agg #[.int .u8 x.kind,.string x.text,.string x.rat,.int .i64 x.date,.int .i64 x.place]
def mk1(t:ByteArray):Bool:=match t.data.toList with
 | [c]=>mkB c
 |_=>false
def vlT(s:ByteArray):Bool:=chkR s.data.toList == 0
def tkB(x:Tk):Bool :=
 if x.kind=1 then nmB x.text.data.toList && x.rat.toList.isEmpty && (x.date == 0) && decide (0≤x.place) && decide (x.place≤20000)
 else if x.kind=2 then nmB x.text.data.toList && x.rat.toList.isEmpty && (x.date == 0) && decide (0≤x.place) && decide (x.place≤20000)
 else if x.kind=3 then x.text.toList.isEmpty && vlT x.rat && (x.date == 0) && decide (0≤x.place) && decide (x.place≤20000)
 else if x.kind=4 then x.text.toList.isEmpty && x.rat.toList.isEmpty && decide (0≤x.date) && decide (x.date≤99999) && decide (0≤x.place) && decide (x.place≤20000)
 else if x.kind=5 then mk1 x.text && x.rat.toList.isEmpty && (x.date == 0) && decide (0≤x.place) && decide (x.place≤20000)
 else false
theorem zvq(c:UInt8):(zac c == 5)=decide (c ∈ zez):=by
 rw[Bool.eq_iff_iff,beq_iff_eq,decide_eq_true_eq];unfold zac letB;simp only[decide_eq_true_eq,zah]
 repeat' split
 all_goals omega
theorem ztc{t:ByteArray}(h:t.size=1):t.data.toList=[t[0]'(by omega)]:=by
 have h0:0<t.size:=by omega
 have h1:=zdi t h0;have h2:t.data.toList.length=1:=by rw[zab];exact h
 match hl:t.data.toList,h2 with
 | [c],_=>rw[hl]at h1;simp at h1;rw[h1]
theorem z9m{t:ByteArray}(h:t.size=1):mk1 t=mkB (t[0]'(by omega)):=by unfold mk1;rw[ztc h]
theorem z9n{t:ByteArray}(h:t.size≠1):mk1 t=false:=by
 unfold mk1;have h2:t.data.toList.length≠1:=by rw[zab];exact h
 match hl:t.data.toList,h2 with
 | [],_=>rfl
 | [c],h2=>simp at h2
 |a :: b :: l,_=>rfl
theorem z31{t:ByteArray}(h:t.size=1):((zac (t[0]'(by omega)) == 5) ||(t.toList == [45]))=mkB (t[0]'(by omega)):=by
 rw[zvq,zag,ztc h];unfold mkB
 congr 1
 rw[Bool.eq_iff_iff];simp only[beq_iff_eq,List.cons.injEq,and_true,decide_eq_true_eq,←UInt8.toNat_inj];rfl
theorem zqa{K n:Int}(h:K≠n):(K == n)=false:=by simpa using h
theorem z8m{t:ByteArray}(h:t.size≠1):((t.size:Int) == 1)=false:=by simp;omega
theorem z57(x:Tk)(w:World)(hr:x.rat.size≤100000):Calls Tryz.prog 147 #[ya4 x] w (ErrB w (tkB x)):=by
 obtain⟨K,t1,r1,d1,z1⟩:=x;unfold tkB ya4;dsimp only at hr ⊢
 have HN:Hid (∀W,Calls Tryz.prog 51 #[.string t1] W (RetB W (nmB t1.data.toList))):=fun W=>zie t1 W
 have HV:Hid (∀W,Calls Tryz.prog 178 #[.string r1] W (zcm W (chkR r1.data.toList))):=fun W=>zs4 r1 W (by omega)
 by_cases k1:K=1
 ·subst k1;exact z6d t1 r1 d1 z1 w _ _ _ _ _ rfl rfl rfl rfl HN
 by_cases k2:K=2
 ·subst k2;exact z6c t1 r1 d1 z1 w _ _ _ _ _ rfl rfl rfl rfl HN
 by_cases k3:K=3
 ·subst k3;exact z6b t1 r1 d1 z1 w _ _ _ _ _ rfl rfl rfl rfl _ HV rfl
 by_cases k4:K=4
 ·subst k4;exact z6a t1 r1 d1 z1 w _ _ _ _ _ _ rfl rfl rfl rfl rfl rfl
 by_cases k5:K=5
 ·subst k5
  by_cases hs:t1.size=1
  ·have:=z59 t1 r1 d1 z1 w _ _ _ _ _ _ rfl rfl rfl rfl hs _ (fun W=>ziq (t1[0]'(by omega)) W) rfl rfl
   rw[z31 hs,←z9m hs]at this;exact this
  ·have:=z0y t1 r1 d1 z1 w _ _ rfl rfl (z8m hs)
   rw[z9n hs];exact this
 rw[if_neg k1,if_neg k2,if_neg k3,if_neg k4,if_neg k5];exact z58 K (zqa k1) (zqa k2) (zqa k3) (zqa k4) (zqa k5) t1 r1 d1 z1 w _ _ rfl rfl
noncomputable def dtxt(n:Int):List UInt8:=zb4 (zeo n.toNat).choose (zeo n.toNat).choose_spec.choose (zeo n.toNat).choose_spec.choose_spec.choose
def zhz(w:World)(s:ByteArray)(n:Int)(e:Ending)(w':World):Prop:=e=.returned (.tuple #[.string s,.int .i64 n])∧Below w.heap.size w w'
theorem z4v{n:Int}(h0:0≤n)(h1:n≤99999)(W:World):Calls Tryz.prog 148 #[.int .i64 n] W (zhz W ⟨(dtxt n).toArray⟩ 0):=by
 have hd:=(zeo n.toNat).choose_spec.choose_spec.choose_spec;have:=z4u n.toNat _ _ _ W (by omega) hd
 rwa [show((n.toNat:Nat):Int)=n by omega]at this
theorem zx5(K:Int)(t1 r1:ByteArray)(d1 z1:Int)(w:World)(HC:Hid (∀W,Calls Tryz.prog 147 #[.agg #[.int .u8 K,.string t1,.string r1,.int .i64 d1,.int .i64 z1]] W fun e w'=>e=.returned (.int .i64 8)∧Below W.heap.size W w')) :
 Calls Tryz.prog 85 #[.agg #[.int .u8 K,.string t1,.string r1,.int .i64 d1,.int .i64 z1]] w (zhz w ⟨#[]⟩ 8):=by
 go_enter Tryz.func85,Tryz.ntmps85;go_wp2_with fail;refine(HC.out _).mono ?_;rintro e w2 ⟨rfl,b2⟩;have B:Hid (Below w.heap.size w w2):=(zaa _ _).trans (b2.mono (by simp));clear b2;go_wp2;go_ret2;exact⟨rfl,B.out⟩
theorem z81(t1 r1:ByteArray)(d1 z1:Int)(w:World)(HC:Hid (∀W,Calls Tryz.prog 147 #[.agg #[.int .u8 1,.string t1,.string r1,.int .i64 d1,.int .i64 z1]] W fun e w'=>e=.returned (.int .i64 0)∧Below W.heap.size W w')) :
 Calls Tryz.prog 85 #[.agg #[.int .u8 1,.string t1,.string r1,.int .i64 d1,.int .i64 z1]] w (zhz w t1 0):=by
 go_enter Tryz.func85,Tryz.ntmps85;go_wp2_with fail;refine(HC.out _).mono ?_;rintro e w2 ⟨rfl,b2⟩;have B:Hid (Below w.heap.size w w2):=(zaa _ _).trans (b2.mono (by simp))
 have a0:w2.cell? ⟨w.heap.size,0,none⟩=some (.int .u8 1):=by rw[(zbg b2).1 _ _ (by simp<;>omega)];simp[go_sem]
 have a1:w2.cell? ⟨w.heap.size,1,none⟩=some (.string t1):=by rw[(zbg b2).1 _ _ (by simp<;>omega)];simp[go_sem]
 have a2:w2.cell? ⟨w.heap.size,2,none⟩=some (.string r1):=by rw[(zbg b2).1 _ _ (by simp<;>omega)];simp[go_sem]
 have a3:w2.cell? ⟨w.heap.size,3,none⟩=some (.int .i64 d1):=by rw[(zbg b2).1 _ _ (by simp<;>omega)];simp[go_sem]
 have a4:w2.cell? ⟨w.heap.size,4,none⟩=some (.int .i64 z1):=by rw[(zbg b2).1 _ _ (by simp<;>omega)];simp[go_sem]
 clear b2;go_wp2;go_ret2;exact⟨rfl,B.out⟩
theorem z8x(t1 r1:ByteArray)(d1 z1:Int)(w:World)(HC:Hid (∀W,Calls Tryz.prog 147 #[.agg #[.int .u8 5,.string t1,.string r1,.int .i64 d1,.int .i64 z1]] W fun e w'=>e=.returned (.int .i64 0)∧Below W.heap.size W w')) :
 Calls Tryz.prog 85 #[.agg #[.int .u8 5,.string t1,.string r1,.int .i64 d1,.int .i64 z1]] w (zhz w t1 0):=by
 go_enter Tryz.func85,Tryz.ntmps85;go_wp2_with fail;refine(HC.out _).mono ?_;rintro e w2 ⟨rfl,b2⟩;have B:Hid (Below w.heap.size w w2):=(zaa _ _).trans (b2.mono (by simp))
 have a0:w2.cell? ⟨w.heap.size,0,none⟩=some (.int .u8 5):=by rw[(zbg b2).1 _ _ (by simp<;>omega)];simp[go_sem]
 have a1:w2.cell? ⟨w.heap.size,1,none⟩=some (.string t1):=by rw[(zbg b2).1 _ _ (by simp<;>omega)];simp[go_sem]
 have a2:w2.cell? ⟨w.heap.size,2,none⟩=some (.string r1):=by rw[(zbg b2).1 _ _ (by simp<;>omega)];simp[go_sem]
 have a3:w2.cell? ⟨w.heap.size,3,none⟩=some (.int .i64 d1):=by rw[(zbg b2).1 _ _ (by simp<;>omega)];simp[go_sem]
 have a4:w2.cell? ⟨w.heap.size,4,none⟩=some (.int .i64 z1):=by rw[(zbg b2).1 _ _ (by simp<;>omega)];simp[go_sem]
 clear b2;go_wp2;go_ret2;exact⟨rfl,B.out⟩
theorem z8z(t1 r1:ByteArray)(d1 z1:Int)(w:World)(HC:Hid (∀W,Calls Tryz.prog 147 #[.agg #[.int .u8 3,.string t1,.string r1,.int .i64 d1,.int .i64 z1]] W fun e w'=>e=.returned (.int .i64 0)∧Below W.heap.size W w')) :
 Calls Tryz.prog 85 #[.agg #[.int .u8 3,.string t1,.string r1,.int .i64 d1,.int .i64 z1]] w (zhz w r1 0):=by
 go_enter Tryz.func85,Tryz.ntmps85;go_wp2_with fail;refine(HC.out _).mono ?_;rintro e w2 ⟨rfl,b2⟩;have B:Hid (Below w.heap.size w w2):=(zaa _ _).trans (b2.mono (by simp))
 have a0:w2.cell? ⟨w.heap.size,0,none⟩=some (.int .u8 3):=by rw[(zbg b2).1 _ _ (by simp<;>omega)];simp[go_sem]
 have a1:w2.cell? ⟨w.heap.size,1,none⟩=some (.string t1):=by rw[(zbg b2).1 _ _ (by simp<;>omega)];simp[go_sem]
 have a2:w2.cell? ⟨w.heap.size,2,none⟩=some (.string r1):=by rw[(zbg b2).1 _ _ (by simp<;>omega)];simp[go_sem]
 have a3:w2.cell? ⟨w.heap.size,3,none⟩=some (.int .i64 d1):=by rw[(zbg b2).1 _ _ (by simp<;>omega)];simp[go_sem]
 have a4:w2.cell? ⟨w.heap.size,4,none⟩=some (.int .i64 z1):=by rw[(zbg b2).1 _ _ (by simp<;>omega)];simp[go_sem]
 clear b2;go_wp2;go_ret2;exact⟨rfl,B.out⟩
theorem z80(t1 r1:ByteArray)(d1 z1:Int)(w:World)(hs:t1.size≤1000)(HC:Hid (∀W,Calls Tryz.prog 147 #[.agg #[.int .u8 2,.string t1,.string r1,.int .i64 d1,.int .i64 z1]] W fun e w'=>e=.returned (.int .i64 0)∧Below W.heap.size W w')) :
 Calls Tryz.prog 85 #[.agg #[.int .u8 2,.string t1,.string r1,.int .i64 d1,.int .i64 z1]] w (zhz w (⟨#[34]⟩ ++ t1 ++ ⟨#[34]⟩) 0):=by
 go_enter Tryz.func85,Tryz.ntmps85;go_wp2_with fail;refine(HC.out _).mono ?_;rintro e w2 ⟨rfl,b2⟩;have B:Hid (Below w.heap.size w w2):=(zaa _ _).trans (b2.mono (by simp))
 have a0:w2.cell? ⟨w.heap.size,0,none⟩=some (.int .u8 2):=by rw[(zbg b2).1 _ _ (by simp<;>omega)];simp[go_sem]
 have a1:w2.cell? ⟨w.heap.size,1,none⟩=some (.string t1):=by rw[(zbg b2).1 _ _ (by simp<;>omega)];simp[go_sem]
 have a2:w2.cell? ⟨w.heap.size,2,none⟩=some (.string r1):=by rw[(zbg b2).1 _ _ (by simp<;>omega)];simp[go_sem]
 have a3:w2.cell? ⟨w.heap.size,3,none⟩=some (.int .i64 d1):=by rw[(zbg b2).1 _ _ (by simp<;>omega)];simp[go_sem]
 have a4:w2.cell? ⟨w.heap.size,4,none⟩=some (.int .i64 z1):=by rw[(zbg b2).1 _ _ (by simp<;>omega)];simp[go_sem]
 clear b2;go_wp2;go_ret2;exact⟨rfl,B.out⟩
theorem z8y(t1 r1:ByteArray)(d1 z1:Int)(w:World)(HC:Hid (∀W,Calls Tryz.prog 147 #[.agg #[.int .u8 4,.string t1,.string r1,.int .i64 d1,.int .i64 z1]] W fun e w'=>e=.returned (.int .i64 0)∧Below W.heap.size W w'))(s:ByteArray)(HD:Hid (∀W,Calls Tryz.prog 148 #[.int .i64 d1] W (zhz W s 0))) :
 Calls Tryz.prog 85 #[.agg #[.int .u8 4,.string t1,.string r1,.int .i64 d1,.int .i64 z1]] w (zhz w s 0):=by
 go_enter Tryz.func85,Tryz.ntmps85;go_wp2_with fail;refine(HC.out _).mono ?_;rintro e w2 ⟨rfl,b2⟩;have B:Hid (Below w.heap.size w w2):=(zaa _ _).trans (b2.mono (by simp))
 have a0:w2.cell? ⟨w.heap.size,0,none⟩=some (.int .u8 4):=by rw[(zbg b2).1 _ _ (by simp<;>omega)];simp[go_sem]
 have a1:w2.cell? ⟨w.heap.size,1,none⟩=some (.string t1):=by rw[(zbg b2).1 _ _ (by simp<;>omega)];simp[go_sem]
 have a2:w2.cell? ⟨w.heap.size,2,none⟩=some (.string r1):=by rw[(zbg b2).1 _ _ (by simp<;>omega)];simp[go_sem]
 have a3:w2.cell? ⟨w.heap.size,3,none⟩=some (.int .i64 d1):=by rw[(zbg b2).1 _ _ (by simp<;>omega)];simp[go_sem]
 have a4:w2.cell? ⟨w.heap.size,4,none⟩=some (.int .i64 z1):=by rw[(zbg b2).1 _ _ (by simp<;>omega)];simp[go_sem]
 clear b2;go_wp2_with fail;refine(HD.out _).mono ?_;rintro e w3 ⟨rfl,b3⟩;have B3:=Z9 (B.out.trans (b3.mono B.out.size));clear b3;go_wp2;go_ret2;exact⟨rfl,B3.out⟩
noncomputable def txT(x:Tk):ByteArray :=
 if x.kind=2 then⟨#[34]⟩ ++ x.text ++ ⟨#[34]⟩else if x.kind=3 then x.rat else if x.kind=4 then⟨(dtxt x.date).toArray⟩else x.text
theorem zsn{x:Tk}(h:tkB x=true):x.kind=1∨x.kind=2∨x.kind=3∨x.kind=4∨x.kind=5:=by
 unfold tkB at h
 repeat' split at h
 all_goals first |omega |cases h
theorem z1q{x:Tk}(h:tkB x=true)(h4:x.kind=4):0≤x.date∧x.date≤99999:=by
 unfold tkB at h;rw[h4]at h;simp at h;omega
theorem z3a(x:Tk)(w:World)(hr:x.rat.size≤100000)(ht:x.text.size≤1000):Calls Tryz.prog 85 #[ya4 x] w (if tkB x=true then zhz w (txT x) 0 else zhz w ⟨#[]⟩ 8):=by
 have HC:∀W,_:=fun W=>z57 x W hr
 cases hb:tkB x with
 |false =>
  rw[hb]at HC;rw[if_neg (by simp)];exact zx5 _ _ _ _ _ w HC
 |true =>
  rw[hb]at HC;rw[if_pos rfl];have hk:=zsn hb;have hd:=z1q hb;obtain⟨K,t1,r1,d1,z1⟩:=x;dsimp only at hk hd ht hr;unfold txT
  rcases hk with rfl |rfl |rfl |rfl |rfl
  ·exact z81 t1 r1 d1 z1 w HC
  ·exact z80 t1 r1 d1 z1 w ht HC
  ·exact z8z t1 r1 d1 z1 w HC
  ·exact z8y t1 r1 d1 z1 w HC _ (fun W=>z4v (hd rfl).1 (hd rfl).2 W)
  ·exact z8x t1 r1 d1 z1 w HC
open Go.Shelf
theorem zpl(n:Nat):(47:UInt8) ∉ txtN n:=fun h=>by
 have:=zfo n 47 h;revert this;decide
theorem zpk(z:Int):(47:UInt8) ∉ txtZ z:=fun h=>by
 unfold txtZ at h
 split at h
 ·rcases List.mem_cons.1 h with h |h
  ·revert h;decide
  ·exact zpl _ h
 ·exact zpl _ h
theorem ybl{l:List UInt8}(h:(47:UInt8) ∉ l):slN l=l.length:=zsx fun _ _ hj=>h (List.mem_of_getElem? hj)
theorem z8l{a b:List UInt8}(h:(47:UInt8) ∉ a):slN (a ++ 47 :: b)=a.length:=by
 refine z62 (by simp) (fun j hj hc => ?_) (by simp);rw[List.getElem?_append_left hj]at hc;exact h (List.mem_of_getElem? hc)
theorem z04{z:Int}(h:bigZ z=false):chkZ (txtZ z)=0:=by rw[zcw,h];rfl
theorem z0x{n d:Int}(h:zob n d):chkR (ratT n d)=0:=by
 obtain⟨h1,h2,h3,h4⟩:=h;unfold ratT
 by_cases hd:d=1
 ·rw[if_pos hd,zj4 (ybl (zpk n)),z04 h3]
 ·rw[if_neg hd,zli (k:=(txtZ n).length) (z8l (zpk n)) (by simp)]
  rw[List.take_left,show(txtZ n ++ 47 :: txtZ d).drop ((txtZ n).length+1)=txtZ d by rw[←List.drop_drop,List.drop_left];rfl];rw[zlj n d (by omega) (fun h => ?_) (fun h => ?_),h3,h4,if_neg (by simp),if_pos h2]
  ·have:txtZ d=txtZ 0:=h
   have:=zh2 this;omega
  ·exact hd (zh2 (h.trans txtZ_1.symm))
theorem z0w{l:List UInt8}(h:chkR l=0):∃n d,l=ratT n d∧zob n d:=by
 by_cases hs:slN l<l.length
 ·rw[zli rfl hs]at h
  have Xh:=z2c hs
  have hl:l=l.take (slN l) ++ 47 :: l.drop (slN l+1):=by
   have e:=(List.take_append_drop (slN l) l).symm;rw[List.drop_eq_getElem_cons hs]at e
   have:l[slN l]=47:=by
    have:=List.getElem?_eq_getElem hs;rw[Xh.1]at this;exact(Option.some.inj this).symm
   rwa [this]at e
  obtain⟨A,hA⟩:∃A,A=l.take (slN l):=⟨_,rfl⟩
  obtain⟨B,hB⟩:∃B,B=l.drop (slN l+1):=⟨_,rfl⟩
  rw[←hA,←hB]at h hl
  have Z0:¬(chkZ A=12∨chkZ B=12∨B.head?=some 45∨B=[48]∨B=[49]):=fun hc=>by
   rw[zi9 hc]at h;cases h
  rcases zec A with⟨hx,_⟩ |⟨x,ZB,Zu,UA⟩
  ·exact absurd (.inl hx) Z0
  rcases zec B with⟨hy,_⟩ |⟨y,XF,Yb,SF⟩
  ·exact absurd (.inr (.inl hy)) Z0
  have Uf:¬y<0:=fun hn=>Z0 (.inr (.inr (.inl (by rw[Yb];exact(zh3 y).2 hn))))
  have Zc:txtZ y≠[48]:=fun hc=>Z0 (.inr (.inr (.inr (.inl (Yb.trans hc)))))
  have hy11:txtZ y≠[49]:=fun hc=>Z0 (.inr (.inr (.inr (.inr (Yb.trans hc)))))
  rw[Zu,Yb,zlj x y (by omega) Zc hy11]at h
  by_cases hb:bigZ x=true∨bigZ y=true
  ·rw[if_pos hb]at h;cases h
  ·rw[if_neg hb]at h
   have hg:Nat.gcd x.natAbs y.natAbs=1:=by
    by_cases hg:Nat.gcd x.natAbs y.natAbs=1
    ·exact hg
    ·rw[if_neg hg]at h;cases h
   have hy1':y≠1:=fun e=>hy11 (by rw[e];exact txtZ_1)
   have hy0':y≠0:=fun e=>Zc (by rw[e];rfl)
   refine⟨x,y,by unfold ratT;rw[if_neg hy1',hl,Zu,Yb],by omega,hg,?_,?_⟩
   ·cases e:bigZ x
    ·rfl
    ·exact absurd (.inl e) hb
   ·cases e:bigZ y
    ·rfl
    ·exact absurd (.inr e) hb
 ·have hs:slN l=l.length:=by have:=z61 l;omega
  rw[zj4 hs]at h;obtain⟨z,h1,h2⟩:=yay h;refine⟨z,1,by unfold ratT;rw[if_pos rfl,h1],by decide,by simp,h2,zt1⟩
theorem z4s:endQ []=true:=rfl
theorem zk0(n:Nat):numV (txtN n)=n:=by rw[zg4,ziv,zlc]
theorem zgh{p:UInt8→Bool}{l:List UInt8}(h:∀c ∈ l,p c=true):spn p l=l.length:=by
 induction l with
 |nil=>rfl
 |cons c l ih=>unfold spn;rw[if_pos (h c (List.mem_cons_self ..)),ih fun x hx=>h x (List.mem_cons_of_mem _ hx)];simp
theorem zh4(n:Nat):∀c ∈ txtN n,dgQ c=true:=fun c hc=>by
 have:=zfo n c hc;unfold dgQ;simpa using this
theorem zsj{n:Nat}(h:1<(txtN n).length):(txtN n).head?≠some 48:=fun a=>by
 have:=(zgu n).2.2 a;omega
theorem zwl(z:Int):numS (txtZ z)=(if z<0 then 1 else 0)∧(txtZ z).drop (numS (txtZ z))=txtN z.natAbs∧numS (txtZ z)+(txtN z.natAbs).length=(txtZ z).length:=by
 by_cases h:z<0
 ·have e:txtZ z=45 :: txtN z.natAbs:=by unfold txtZ;rw[if_pos h]
  have e2:numS (txtZ z)=1:=by rw[e];rfl
  rw[e2,if_pos h,e];exact⟨rfl,rfl,by simp;omega⟩
 ·have e:txtZ z=txtN z.natAbs:=by unfold txtZ;rw[if_neg h]
  have e2:numS (txtZ z)=0:=by unfold numS;rw[if_neg];rw[e];exact zgc _
  rw[e2,if_neg h,e];exact⟨rfl,rfl,by omega⟩
theorem zx0{n d:Int}(h:zob n d):ratN n d=n∧ratD n d=d:=by
 obtain⟨h1,h2,_,_⟩:=h;unfold ratN ratD;rw[h2,if_neg (by omega)];simp;omega
theorem zxz(n d:Int):∃c r,ratT n d=c :: r∧(dgQ c=true∨(c.toNat=45∧dgH r=true)):=by
 have hz:∃c r,txtZ n=c :: r∧(dgQ c=true∨(c.toNat=45∧dgH r=true)):=by
  cases ht:txtN n.natAbs with
  |nil=>exact absurd ht (zgb _)
  |cons d t =>
   have hd:dgQ d=true:=zh4 n.natAbs d (by rw[ht];exact List.mem_cons_self ..)
   by_cases h:n<0
   ·exact⟨45,d :: t,by unfold txtZ;rw[if_pos h,ht],.inr ⟨rfl,hd⟩⟩
   ·exact⟨d,t,by unfold txtZ;rw[if_neg h,ht],.inl hd⟩
 obtain⟨c,r,e,h⟩:=hz;unfold ratT
 split
 ·exact⟨c,r,e,h⟩
 ·refine⟨c,r ++ 47 :: txtZ d,by rw[e];rfl,?_⟩
  rcases h with h |⟨h1,h2⟩
  ·exact .inl h
  ·refine .inr ⟨h1,?_⟩
   cases r with
   |nil=>cases h2
   |cons x r=>exact h2
theorem zuq{n d:Int}(hd:0<d):¬dayQ (ratT n d)=true:=by
 intro h;have h0:=zr2 h (i:=0) (by omega)
 have h4:∃c,(ratT n d)[4]?=some c∧c.toNat=45:=by
  obtain⟨c0,c1,c2,c3,c4,c5,c6,c7,c8,c9,t,e⟩:=ten (zf1 h);rw[e]at h ⊢;unfold dayQ at h;simp only[Bool.and_eq_true,decide_eq_true_eq]at h;exact⟨c4,rfl,h.1.1.1.1.1.2⟩
 obtain⟨c,hc,XN⟩:=h4
 by_cases hn:n<0
 ·have e:ratT n d=45 :: (ratT n d).tail:=by
   unfold ratT txtZ;rw[if_pos hn];split<;>rfl
  rw[e]at h;exact absurd (zlg h) (by decide)
 ·have hm:=List.mem_of_getElem? hc
  have:∀x ∈ ratT n d,x.toNat≠45:=by
   intro x hx
   have key:∀z:Int,¬z<0→∀x ∈ txtZ z,x.toNat≠45:=fun z hz x hx=>by
    unfold txtZ at hx;rw[if_neg hz]at hx;have:=zfo _ x hx;omega
   unfold ratT at hx
   split at hx
   ·exact key n hn x hx
   ·rcases List.mem_append.1 hx with hx |hx
    ·exact key n hn x hx
    ·rcases List.mem_cons.1 hx with rfl |hx
     ·decide
     ·exact key d (by omega) x hx
  exact this c hm XN
theorem z3t{n d:Int}(h:zob n d):numK (ratT n d)=.yes ⟨3,bsL [],bsL (ratT n d),0,0⟩ (ratT n d).length:=by
 obtain⟨hd,hg,bn,bd⟩:=h;have X9:=zj6 bn;have Yv:=zj6 bd;obtain⟨s1,s2,s3⟩:=zwl n
 have U7:(if decide (numS (txtZ n)=1)=true then -(n.natAbs:Int)else(n.natAbs:Int))=n:=by
  rw[s1];by_cases hn:n<0
  ·rw[if_pos hn];simp;omega
  ·rw[if_neg hn];simp;omega
 have hz:txtZ n≠[]:=by
  intro e;rw[e]at s2;exact zgb _ (by rw[←s2];simp)
 by_cases h1:d=1
 ·have e:ratT n d=txtZ n:=by unfold ratT;rw[if_pos h1]
  have ev:zhr (decide (numS (txtZ n)=1)) (txtN n.natAbs) 0 []=ratT n d:=by
   unfold zhr;dsimp only;rw[if_neg (show ¬(0:Nat)=46 by decide),if_neg (show ¬(0:Nat)=46 by decide),if_neg (show ¬(0:Nat)=47 by decide),zk0,U7,h1];have:=zx0 (n:=n) (d:=1) ⟨by omega,by simp,bn,zt1⟩;rw[show((1:Nat):Int)=1 from rfl,this.1,this.2]
  unfold numK;dsimp only;rw[e,s2,zgh (zh4 _)];have ed:(txtZ n).drop (numS (txtZ n)+(txtN n.natAbs).length)=[]:=by rw[s3,List.drop_length]
  rw[ed,if_neg (by decide),List.take_length];unfold numO
  rw[if_neg (by
   rintro(⟨a,b⟩ |a |⟨a,_⟩)
   ·exact zsj a b
   ·cases a
   ·cases a),if_neg (by
   rintro(a |⟨a,_⟩ |a)
   ·omega
   ·cases a
   ·simp at a),ev,e,s3]
 ·have e:ratT n d=txtZ n ++ 47 :: txtN d.natAbs:=by
   unfold ratT;rw[if_neg h1]
   congr 2
   unfold txtZ;rw[if_neg (by omega)]
  have ev:zhr (decide (numS (txtZ n)=1)) (txtN n.natAbs) 47 (txtN d.natAbs)=ratT n d:=by
   unfold zhr;dsimp only;rw[if_neg (show ¬(47:Nat)=46 by decide),if_neg (show ¬(47:Nat)=46 by decide),if_pos rfl,zk0,zk0,U7,show(d.natAbs:Int)=d by omega];have:=zx0 (n:=n) (d:=d) ⟨hd,hg,bn,bd⟩;rw[this.1,this.2]
  have f1:numS (txtZ n ++ 47 :: txtN d.natAbs)=numS (txtZ n):=ztf hz _
  have f2:(txtZ n ++ 47 :: txtN d.natAbs).drop (numS (txtZ n))=txtN n.natAbs ++ 47 :: txtN d.natAbs:=by
   rw[zcd _ (by omega),s2]
  have f3:spn dgQ (txtN n.natAbs ++ 47 :: txtN d.natAbs)=(txtN n.natAbs).length:=by
   rw[ziz _ _ (by decide),zgh (zh4 _)]
  have f4:(txtZ n ++ 47 :: txtN d.natAbs).drop (numS (txtZ n)+(txtN n.natAbs).length)=47 :: txtN d.natAbs:=by
   rw[s3,List.drop_left]
  have f5:frcQ (47 :: txtN d.natAbs)=true:=by
   cases ht:txtN d.natAbs with
   |nil=>exact absurd ht (zgb _)
   |cons c t =>
    have:=zh4 d.natAbs c (by rw[ht];exact List.mem_cons_self ..)
    show(decide ((47:UInt8).toNat=46∨(47:UInt8).toNat=47) && dgQ c)=true
    rw[this];rfl
  have f6:(txtN d.natAbs).head?≠some 48:=by
   intro a;have hl:=(zgu d.natAbs).2.2 a
   cases ht:txtN d.natAbs with
   |nil=>rw[ht]at hl;simp at hl
   |cons c t =>
    rw[ht]at a hl;simp at a hl;rw[a,hl]at ht;have:txtN d.natAbs=txtN 0:=by rw[ht];rfl
    have:=zsk this;omega
  unfold numK;dsimp only;rw[e,f1,f2,f3,f4,if_pos f5,List.drop_one,List.tail_cons,zgh (zh4 _),zdm _ (Nat.le_refl _),List.take_length,List.take_length]
  have f7:endQ ((47 :: txtN d.natAbs).drop (1+(txtN d.natAbs).length))=true:=by
   rw[show 1+(txtN d.natAbs).length=(47 :: txtN d.natAbs).length by simp;omega,List.drop_length];rfl
  rw[f7,show((47 :: txtN d.natAbs).headD 0).toNat=47 from rfl];unfold numO
  rw[if_neg (by
   rintro(⟨a,b⟩ |a |⟨_,a⟩)
   ·exact zsj a b
   ·cases a
   ·exact f6 a),if_neg (by
   rintro(a |⟨a,_⟩ |a)
   ·omega
   ·cases a
   ·omega),ev,e]
  congr 1
  simp;omega
theorem z3n{n d:Int}(h:zob n d):oneL (ratT n d)=.yes ⟨3,bsL [],bsL (ratT n d),0,0⟩ (ratT n d).length:=by
 obtain⟨c,r,e,hh⟩:=zxz n d;have hy:=zuq (n:=n) h.1;have:=z3t h;rw[e]at hy this ⊢;rw[zex hy hh];exact this
theorem zyp{day y m d:Nat}(hd:day≤99999)(h:DateIs day y m d):oneL (zb4 y m d)=.yes ⟨4,bsL [],bsL [],day,0⟩ 10:=by
 obtain⟨hy,VZ⟩:=h.small hd;obtain⟨h1,h2,h3,h4,h5,h6⟩:=h;have l4:figB y 4=[UInt8.ofNat (48+y / 10 / 10 / 10 % 10),UInt8.ofNat (48+y / 10 / 10 % 10),UInt8.ofNat (48+y / 10 % 10),UInt8.ofNat (48+y % 10)]:=rfl;have l2:figB m 2=[UInt8.ofNat (48+m / 10 % 10),UInt8.ofNat (48+m % 10)]:=rfl;have l3:figB d 2=[UInt8.ofNat (48+d / 10 % 10),UInt8.ofNat (48+d % 10)]:=rfl
 have dq:∀k:Nat,dgQ (UInt8.ofNat (48+k % 10))=true:=fun k=>by
  unfold dgQ;rw[UInt8.toNat_ofNat'];simp;omega
 have e:zb4 y m d=UInt8.ofNat (48+y / 10 / 10 / 10 % 10) :: (zb4 y m d).tail:=by unfold zb4;rw[l4];rfl
 have hq:dayQ (zb4 y m d)=true:=by
  unfold zb4;rw[l4,l2,l3]
  show dayQ (_ :: _ :: _ :: _ :: 45 :: _ :: _ :: 45 :: _ :: _ :: [])=true
  unfold dayQ;simp only[dq,Bool.true_and,Bool.and_true];decide
 have hv:datV (zb4 y m d)=some day:=by
  have t1:(zb4 y m d).take 4=figB y 4:=by unfold zb4;rw[l4,l2,l3];rfl
  have t2:((zb4 y m d).drop 5).take 2=figB m 2:=by unfold zb4;rw[l4,l2,l3];rfl
  have t3:((zb4 y m d).drop 8).take 2=figB d 2:=by unfold zb4;rw[l4,l2,l3];rfl
  unfold datV;dsimp only;rw[t1,t2,t3,zej,zej,zej,Nat.mod_eq_of_lt (show y<10 ^ 4 by omega),Nat.mod_eq_of_lt (show m<10 ^ 2 by omega),Nat.mod_eq_of_lt (show d<10 ^ 2 by omega),if_pos ⟨h1,h2,h3,h4,h5,by omega⟩]
  congr 1;omega
 have hdr:(zb4 y m d).drop 10=[]:=by
  rw[show 10=(zb4 y m d).length from(zio y m d).symm,List.drop_length]
 rw[e]at hq hv hdr ⊢;rw[zey hq,hdr,if_pos z4s,hv]
theorem zyn{l:List UInt8}(h:nmB l=true):oneL l=.yes ⟨1,bsL l,bsL [],0,0⟩ l.length:=by
 obtain⟨h1,h2,⟨c,r,rfl,hc⟩,ha⟩:=zid h
 have hs:spn wdQ r=r.length:=zgh fun x hx=>ha x (List.mem_cons_of_mem _ hx)
 rw[zdd hc,hs,if_neg (by simpa using h2)];rw[show r.length+1=(c :: r).length by simp,List.take_length]
theorem zrc{l:List UInt8}(h:nmB l=true):oneL (34 :: (l ++ [34]))=.yes ⟨2,bsL l,bsL [],0,0⟩ (l.length+2):=by
 obtain⟨_,_,_,ha⟩:=zid h
 have hs:spn (fun x=>decide (x.toNat≠34)) (l ++ [34])=l.length:=by
  rw[ziz _ _ (by decide)]
  refine zgh fun x hx => ?_
  have:=ha x hx;unfold wdQ letB othB at this;simp at this ⊢;omega
 rw[zcn (by decide),hs,zdm _ (Nat.le_refl _),List.take_length,if_pos ⟨by simp,h⟩]
theorem z3o{c:UInt8}(h:mkB c=true):oneL [c]=.yes ⟨5,bsL [c],bsL [],0,0⟩ 1:=zde h (by rintro⟨_,a⟩;cases a)
theorem zyo{c:UInt8}{r:List UInt8}{t:Tk}{n:Nat}(h:oneL (c :: r)=.yes t n):¬blQ c=true∧¬c.toNat=35:=by
 have key:∀P:Prop,(c.toNat=32∨c.toNat=9∨c.toNat=10∨c.toNat=35→P)→¬P→¬blQ c=true∧¬c.toNat=35:=fun P hp hn =>
  ⟨fun a=>hn (hp (by have:=zgv a;omega)),fun a=>hn (hp (by omega))⟩
 refine key (oneL (c :: r)=.no 12) ?_ (fun e=>by rw[h]at e;cases e);intro hc;refine zdz ?_ (by omega) ?_ ?_
 ·unfold letB;simp;omega
 ·unfold dgQ;simp;omega
 ·rw[zk2];omega
def jnL:List (List UInt8)→List UInt8
 | []=>[]
 | [a]=>a
 |a :: b :: l=>a ++ 32 :: jnL (b :: l)
def plL(off:Nat):List (List UInt8 × Tk)→List Tk
 | []=>[]
 |(a,t) :: l=>{ t with place:=(off:Int) } :: plL (off+a.length+1) l
theorem zzb:∀(l:List (List UInt8 × Tk))(off:Nat),(∀x ∈ l,oneL x.1=.yes x.2 x.1.length)→lexL off (jnL (l.map (·.1)))=.yes (plL off l):=by
 intro l
 induction l with
 |nil=>intro off _;exact zbc rfl
 |cons x l ih =>
  intro off h;obtain⟨a,t⟩:=x;have hx:oneL a=.yes t a.length:=h _ (List.mem_cons_self ..)
  have hl:=fun y hy=>h y (List.mem_cons_of_mem _ hy)
  have ha:a≠[]:=by rintro rfl;cases hx
  have hz:∀X,skS false (a ++ X)=0:=fun X=>by
   cases a with
   |nil=>exact absurd rfl ha
   |cons c r =>
    obtain⟨h1,h2⟩:=zyo hx;exact zhp h1 h2
  have hp:0<a.length:=List.length_pos_iff.2 ha
  cases l with
  |nil =>
   show lexL off a=_
   have ZE:=hz [];rw[List.append_nil]at ZE;rw[zcc (t:=t) (n:=a.length) (by omega) (by rw[ZE];exact hx),ZE,zbc (l:=a.drop (0+a.length)) (by rw[Nat.zero_add,List.drop_length];rfl)];rfl
  |cons y l =>
   show lexL off (a ++ 32 :: jnL ((y :: l).map (·.1)))=_
   have hone:=zte (s:=32) (by decide) ha (jnL ((y :: l).map (·.1)));have ZE:=hz (32 :: jnL ((y :: l).map (·.1)));rw[zcc (t:=t) (n:=a.length) (by rw[ZE,List.length_append];omega) (by rw[ZE];show oneL (a ++ _)=_;rw[hone];exact hx),ZE]
   have e1:(a ++ 32 :: jnL ((y :: l).map (·.1))).drop (0+a.length)=32 :: jnL ((y :: l).map (·.1)):=by rw[Nat.zero_add,List.drop_left]
   rw[e1,zih (k:=1) (by simp) (by rw[zh9 (by decide)];simp;omega)];have:=ih (off+a.length+1) hl
   show pre1 _ (lexL _ (jnL ((y :: l).map (·.1))))=_
   rw[show off+0+a.length+1=off+a.length+1 by omega,this];rfl
def TkAt(w:World)(g o:Nat)(x:Tk):Prop:=w.cell? ⟨g,o,none⟩=some (.int .u8 x.kind)∧w.cell? ⟨g,o+1,none⟩=some (.string x.text)∧w.cell? ⟨g,o+2,none⟩=some (.string x.rat)∧w.cell? ⟨g,o+3,none⟩=some (.int .i64 x.date)∧w.cell? ⟨g,o+4,none⟩=some (.int .i64 x.place)
def Tks(w:World)(g off:Nat)(l:List Tk):Prop:=∀i,i<l.length→TkAt w g (off+i*5) (l[i]?.getD default)
theorem zoj{w w':World}{g o:Nat}{l:List Tk}(h:Tks w g o l)(hb:Below w.heap.size w w')(hg:g<w.heap.size):Tks w' g o l:=by
 obtain⟨hc,_⟩:=zbg hb;intro i hi;obtain⟨a0,a1,a2,a3,a4⟩:=h i hi;exact⟨(hc _ _ hg).trans a0,(hc _ _ hg).trans a1,(hc _ _ hg).trans a2,(hc _ _ hg).trans a3,(hc _ _ hg).trans a4⟩
theorem zua(l:List Tk):(tks l).length=l.length*5:=by
 induction l with
 |nil=>rfl
 |cons x l ih=>show(zhg x ++ tks l).length=_;rw[List.length_append,ih,zcl,List.length_cons];omega
theorem z71(l:List Tk)(i j:Nat)(hi:i<l.length)(hj:j<5):(tks l)[i*5+j]?=(zhg (l[i]?.getD default))[j]?:=by
 induction l generalizing i with
 |nil=>simp at hi
 |cons x l ih =>
  show(zhg x ++ tks l)[i*5+j]?=_
  cases i with
  |zero=>rw[List.getElem?_append_left (by rw[zcl];omega)];simp
  |succ i =>
   rw[List.getElem?_append_right (by rw[zcl];omega),zcl,show(i+1)*5+j-5=i*5+j by omega,ih i (by simpa using hi)];simp
theorem zt9{w:World}{g:Nat}{t:TypeId}{l:List Tk}(h:RowAt w g t (tks l)):Tks w g 0 l:=by
 intro i hi
 have hc:∀j,j<5→w.cell? ⟨g,0+i*5+j,none⟩=(zhg (l[i]?.getD default))[j]?:=fun j hj=>by
  rw[Nat.zero_add,h.cell (by rw[zua];omega),z71 l i j hi hj]
 exact⟨hc 0 (by omega),hc 1 (by omega),hc 2 (by omega),hc 3 (by omega),hc 4 (by omega)⟩
def zn7(x:Tk):Prop:=200<x.text.size∨2500<x.rat.size
open Go.Lib
theorem zzi{T e:TypeId}{B b:Nat}{bs:List Value}{W w':World}(h:IsBuilderF T e B b bs W)(hb:Below W.heap.size W w'):IsBuilderF T e B b bs w':=by
 have key:∀k o,W.heap[k]?=some o→w'.heap[k]?=some o:=fun k o hk=>(hb.block k (Z8 hk)).trans hk
 have main:∀p,BuilderAtF T e B b p bs W→BuilderAtF T e B b p bs w':=by
  rintro p ⟨hB,v,h1,⟨h2,h3⟩,h4⟩;refine⟨hB,v,key _ _ h1,⟨h2,?_⟩,h4⟩
  rcases h3 with h3 |⟨g,cap,cur,fz,e1,e2,e3,e4⟩
  ·exact .inl h3
  ·exact .inr ⟨g,cap,cur,fz,e1,e2,key _ _ e3,e4⟩
 exact h.elim (fun x=>.inl (main _ x)) (fun x=>.inr (main _ x))
noncomputable def jT(l:List Tk):Nat→List UInt8
 |0=>[]
 |k+1=>jT l k ++ ((if k=0 then[]else[32]) ++ (txT (l[k]?.getD default)).data.toList)
open Classical in
noncomputable def jR(l:List Tk)(n:Nat):ByteArray × Int :=
 if ∃i,i<n∧tkB (l[i]?.getD default)=false then(⟨#[]⟩,8)else if 20000<(jT l n).length then(⟨#[]⟩,4)else(⟨(jT l n).toArray⟩,0)
theorem ycl{l:List Tk}{n i:Nat}(hi:i<n)(h:tkB (l[i]?.getD default)=false):jR l n=(⟨#[]⟩,8):=if_pos ⟨i,hi,h⟩
theorem yck{l:List Tk}{n:Nat}(h:∀i,i<n→tkB (l[i]?.getD default)=true):¬∃i,i<n∧tkB (l[i]?.getD default)=false:=by
 rintro⟨i,hi,hb⟩;rw[h i hi]at hb;cases hb
theorem zzh{l:List Tk}{n:Nat}(h:∀i,i<n→tkB (l[i]?.getD default)=true)(hl:20000<(jT l n).length):jR l n=(⟨#[]⟩,4):=by unfold jR;rw[if_neg (yck h),if_pos hl]
theorem z98{l:List Tk}{n:Nat}(h:∀i,i<n→tkB (l[i]?.getD default)=true)(hl:¬20000<(jT l n).length):jR l n=(⟨(jT l n).toArray⟩,0):=by unfold jR;rw[if_neg (yck h),if_neg hl]
theorem z4t(n:Int):(dtxt n).length=10:=zio _ _ _
theorem zsl{x:Tk}(h:¬zn7 x):(txT x).size≤2502:=by
 unfold zn7 at h;unfold txT
 split
 ·rw[ByteArray.size_append,ByteArray.size_append]
  show 1+x.text.size+1≤_
  omega
 ·split
  ·omega
  ·split
   ·show(dtxt x.date).toArray.size≤_
    have:=z4t x.date;simp only[List.size_toArray];omega
   ·omega
theorem yci{l:List Tk}{n:Nat}(h:∀i,i<n→¬zn7 (l[i]?.getD default)):∀k,k≤n→(jT l k).length≤2503*k:=by
 intro k
 induction k with
 |zero=>intro _;exact Nat.le_refl _
 |succ k ih =>
  intro hk;have a:=ih (by omega);have b:=zsl (h k (by omega))
  show(jT l k ++ _).length≤_
  rw[List.length_append,List.length_append,zab]
  split<;>simp<;>omega
def JnR(l:List Tk)(n:Nat)(w:World)(v:Value)(wr:World):Prop :=
 ∃k:Nat,k≤n∧v=.int .i64 (k:Int)∧IsBuilderF 79 5 w.heap.size w.heap.size (Lib.byteCells (jT l k)) wr∧Below w.heap.size w wr∧∀i,i<k→tkB (l[i]?.getD default)=true
theorem z4h(g o n c:Nat)(l:List Tk)(w:World)(hl:l.length=n)(hn:n≤20000)(hg:g<w.heap.size)(h:Tks w g o l)(hs:∀i,i<n→¬zn7 (l[i]?.getD default)) :
 Calls Tryz.prog 44 #[.slice (some ⟨g,o,none⟩) n c] w (zhz w (jR l n).1 (jR l n).2):=by
 have HL:=Z9 hl;have HH:=Z9 h;have HS:=Z9 hs;have JL:=Z9 (yci hs);obtain⟨R,hR⟩:∃R,R=jR l n:=⟨_,rfl⟩
 rw[←hR];have HR:=Z9 hR
 have HST:Hid (JnR l n w (.int .i64 0) (w.alloc (.cells #[.pointer none,.slice none 0 0] 79))) :=
  ⟨0,Nat.zero_le _,rfl,IsBuilderF.of (fresh_isBuilder _ _ w),zaa _ _,fun i hi=>absurd hi (Nat.not_lt_zero _)⟩
 clear hl h hs hR;go_enter Tryz.func44,Tryz.ntmps44;go_wp2_with fail;go_loopw [11] (JnR l n w) (fun v _=>n-(RowKit.intOf v).toNat)
 case atStart=>exact HST.out
 case round =>
  obtain⟨w1,rfl⟩:∃w1:World,w1=wr:=⟨_,rfl⟩
  obtain⟨k,hk,rfl,hb,ZW,XK⟩:=hrel;have HB:=Z9 hb;have HBEL:=Z9 ZW;have W9:=Z9 XK;have WV:g<w1.heap.size:=Nat.lt_of_lt_of_le hg ZW.size;have hjl:=JL.out k hk
  by_cases Z4:k<n
  ·obtain⟨x,hx⟩:∃x,x=l[k]?.getD default:=⟨_,rfl⟩
   have a:=zoj HH.out ZW hg k (by have:=HL.out;omega);have ZM:=HS.out k Z4;rw[←hx]at a ZM;obtain⟨a0,a1,a2,a3,a4⟩:=a
   have HT:Hid (∀W,Calls Tryz.prog 85 #[.agg #[.int .u8 x.kind,.string x.text,.string x.rat,.int .i64 x.date,.int .i64 x.place]] W (if tkB x=true then zhz W (txT x) 0 else zhz W ⟨#[]⟩ 8)):=fun W=>z3a x W (by unfold zn7 at ZM;omega) (by unfold zn7 at ZM;omega)
   have ZT:=Z9 (HB.out.alloc (.cells #[.int .u8 x.kind,.string x.text,.string x.rat,.int .i64 x.date,.int .i64 x.place] 100));have HBEL1:=Z9 (HBEL.out.alloc HBEL.out.size (.cells #[.int .u8 x.kind,.string x.text,.string x.rat,.int .i64 x.date,.int .i64 x.place] 100))
   cases WD:tkB x with
   |false =>
    rw[WD]at HT;have HE:Hid (R=(⟨#[]⟩,8)):=HR.out.trans (ycl Z4 (by rw[←hx];exact WD));clear hb ZW XK hx WD ZM HST;go_wp2_with fail;refine(HT.out _).mono ?_;rintro e w2 ⟨rfl,b2⟩;have B2:=Z9 (HBEL1.out.trans (b2.mono HBEL1.out.size));clear b2;go_wp2_with fail;go_ret2;exact⟨by rw[HE.out];rfl,B2.out⟩
   |true =>
    rw[WD]at HT
    have HOK1:Hid (∀i,i<k+1→tkB (l[i]?.getD default)=true):=fun i hi=>by
     by_cases e:i=k
     ·subst e;rw[←hx];exact WD
     ·exact W9.out i (by omega)
    have hts:=zsl ZM
    have HJ:Hid (jT l (k+1)=jT l k ++ ((if k=0 then[]else[32]) ++ (txT x).data.toList)):=by rw[hx];rfl
    obtain⟨s,V8⟩:∃s,s=txT x:=⟨_,rfl⟩
    rw[←V8]at HT HJ hts;obtain⟨J,hJ⟩:∃J,J=jT l k:=⟨_,rfl⟩
    rw[←hJ]at ZT HJ hjl;clear hb ZW XK hx WD ZM HST V8 hJ HB W9;go_wp2_with fail;refine(HT.out _).mono ?_;rintro e w2 ⟨rfl,b2⟩;have B2:=Z9 (HBEL1.out.trans (b2.mono HBEL1.out.size));have I2:=Z9 (zzi ZT.out b2);clear b2 ZT HBEL1 HT
    rcases Nat.eq_zero_or_pos k with YL |YL
    ·have HJ0:Hid (jT l (k+1)=J ++ s.data.toList):=by rw[HJ.out,if_pos YL];rfl
     subst YL;clear HJ;go_wp2_with fail;refine(Tryz.builder_string w.heap.size w.heap.size (Lib.byteCells J) s _ I2.out (by rw[Lib.byteCells_length];omega) B2.out.size).mono ?_;rintro e w3 ⟨rfl,i3,b3,_⟩;have B3:=Z9 (B2.out.trans b3);have I3:Hid (IsBuilderF 79 5 w.heap.size w.heap.size (Lib.byteCells (jT l (0+1))) w3):=by rw[HJ0.out,Lib.byteCells_append,←strCells_eq];exact Or.inr i3
     clear i3 b3 I2 B2;go_wp2_with fail;go_roundw
     case rel=>exact⟨0+1,by omega,by go_num,I3.out,B3.out,HOK1.out⟩
     case measure=>simp[RowKit.intOf];omega
    ·have HJ1:Hid (jT l (k+1)=(J ++ [32]) ++ s.data.toList):=by show _=_;rw[HJ.out,if_neg (by omega)];simp
     clear HJ;go_wp2_with fail;refine(Tryz.builder_byte w.heap.size w.heap.size (Lib.byteCells J) 32 _ I2.out (by rw[Lib.byteCells_length];omega) B2.out.size).mono ?_;rintro e w3 ⟨rfl,i3,b3,_⟩;have B3:=Z9 (B2.out.trans b3);have I3:Hid (IsBuilderF 79 5 w.heap.size w.heap.size (Lib.byteCells (J ++ [32])) w3):=by rw[Lib.byteCells_append];exact Or.inr i3
     clear i3 b3 I2 B2;go_wp2_with fail;refine(Tryz.builder_string w.heap.size w.heap.size (Lib.byteCells (J ++ [32])) s _ I3.out (by rw[Lib.byteCells_length,List.length_append,List.length_singleton];omega) B3.out.size).mono ?_;rintro e w4 ⟨rfl,i4,b4,_⟩;have B4:=Z9 (B3.out.trans b4);have I4:Hid (IsBuilderF 79 5 w.heap.size w.heap.size (Lib.byteCells (jT l (k+1))) w4):=by rw[HJ1.out,Lib.byteCells_append,←strCells_eq];exact Or.inr i4
     clear i4 b4 I3 B3;go_wp2_with fail;go_roundw
     case rel=>exact⟨k+1,by omega,by go_num,I4.out,B4.out,HOK1.out⟩
     case measure=>simp[RowKit.intOf];omega
  ·have TR:k=n:=by omega
   subst TR
   have HLEN:Hid (∀W,IsBuilderF 79 5 w.heap.size w.heap.size (Lib.byteCells (jT l k)) W→Calls Tryz.prog 88 #[.pointer (some ⟨w.heap.size,0,none⟩)] W fun e w'=>e=.returned (.int .i64 ((jT l k).length:Int))∧W=w'):=fun W hW=>by
    have:=Tryz.builder_len w.heap.size w.heap.size _ W hW;rw[Lib.byteCells_length]at this
    exact this.mono fun _ _ ⟨a,b⟩=>⟨a,b.symm⟩
   obtain⟨J,hJ⟩:∃J,J=jT l k:=⟨_,rfl⟩
   obtain⟨m,hm⟩:∃m,m=J.length:=⟨_,rfl⟩
   rw[←hJ,←hm]at HLEN;rw[←hJ]at HB
   by_cases ZM:20000<m
   ·have HE:Hid (R=(⟨#[]⟩,4)):=HR.out.trans (zzh W9.out (by rw[←hJ,←hm];exact ZM))
    have t0:decide ((20000:Int)<(m:Int))=true:=by simp;omega
    clear hb ZW XK hJ hm HST ZM hjl;go_wp2_with fail;refine(HLEN.out _ HB.out).mono ?_;rintro e w' ⟨rfl,rfl⟩;go_wp2_with fail;go_ret2;exact⟨by rw[HE.out];rfl,HBEL.out⟩
   ·have HE:Hid (R=(⟨J.toArray⟩,0)):=HR.out.trans (by rw[z98 W9.out (by rw[←hJ,←hm];exact ZM),hJ])
    have t0:decide ((20000:Int)<(m:Int))=false:=by simp;omega
    clear hb ZW XK hJ hm HST ZM hjl;go_wp2_with fail;refine(HLEN.out _ HB.out).mono ?_;rintro e w' ⟨rfl,rfl⟩;go_wp2_with fail;refine(Tryz.builder_text w.heap.size w.heap.size J _ HB.out HBEL.out.size).mono ?_;rintro e w3 ⟨rfl,_,b3,_⟩;have B3:=Z9 (HBEL.out.trans b3);clear b3;go_wp2_with fail;go_ret2;exact⟨by rw[HE.out];rfl,B3.out⟩
noncomputable def txL(x:Tk):List UInt8:=(txT x).data.toList
def tk0(x:Tk):Tk:={ x with place:=0 }
theorem zmx{b:ByteArray}(h:b.toList.isEmpty=true):b=bsL []:=by
 rw[zag]at h;refine Go.WideShapes.bytes_inj ?_
 cases hb:b.data.toList with
 |nil=>rfl
 |cons c l=>rw[hb]at h;cases h
theorem zym{x:Tk}(h:tkB x=true):oneL (txL x)=.yes (tk0 x) (txL x).length:=by
 obtain⟨K,T,R,D,Z⟩:=x;have hk:=zsn h;unfold tkB at h;dsimp only at h hk
 rcases hk with rfl |rfl |rfl |rfl |rfl
 ·simp only[if_true,Bool.and_eq_true,beq_iff_eq]at h
  obtain⟨⟨⟨⟨h1,h2⟩,h3⟩,_⟩,_⟩:=h;have e:txL ⟨1,T,R,D,Z⟩=T.data.toList:=rfl;rw[e,zyn h1,zmx h2,h3];rfl
 ·rw[if_neg (by decide),if_pos rfl]at h
  simp only[Bool.and_eq_true,beq_iff_eq]at h;obtain⟨⟨⟨⟨h1,h2⟩,h3⟩,_⟩,_⟩:=h
  have e:txL ⟨2,T,R,D,Z⟩=34 :: (T.data.toList ++ [34]):=by
   show((⟨#[34]⟩ ++ T ++ ⟨#[34]⟩:ByteArray)).data.toList=_
   simp
  rw[e,zrc h1,zmx h2,h3]
  show OneR.yes _ _=OneR.yes _ _
  congr 1
  simp
 ·rw[if_neg (by decide),if_neg (by decide),if_pos rfl]at h
  simp only[Bool.and_eq_true,beq_iff_eq]at h;obtain⟨⟨⟨⟨h1,h2⟩,h3⟩,_⟩,_⟩:=h;unfold vlT at h2;obtain⟨n,d,e2,XK⟩:=z0w (by simpa using h2);have e:txL ⟨3,T,R,D,Z⟩=R.data.toList:=rfl;rw[e,e2,z3n XK,zmx h1,h3];have hR:R=bsL (ratT n d):=Go.WideShapes.bytes_inj e2;rw[hR];rfl
 ·rw[if_neg (by decide),if_neg (by decide),if_neg (by decide),if_pos rfl]at h
  simp only[Bool.and_eq_true,decide_eq_true_eq]at h;obtain⟨⟨⟨⟨⟨h1,h2⟩,h3⟩,h4⟩,_⟩,_⟩:=h;have e:txL ⟨4,T,R,D,Z⟩=dtxt D:=rfl;have hd:=(zeo D.toNat).choose_spec.choose_spec.choose_spec;have:=zyp (day:=D.toNat) (by omega) hd;rw[e,show dtxt D=_ from rfl];unfold dtxt;rw[this,zio,zmx h1,zmx h2,show((D.toNat:Nat):Int)=D by omega];rfl
 ·rw[if_neg (by decide),if_neg (by decide),if_neg (by decide),if_neg (by decide),if_pos rfl]at h
  simp only[Bool.and_eq_true,beq_iff_eq]at h;obtain⟨⟨⟨⟨h1,h2⟩,h3⟩,_⟩,_⟩:=h;have e:txL ⟨5,T,R,D,Z⟩=T.data.toList:=rfl;unfold mk1 at h1
  split at h1
  ·rename_i c hc
   rw[e,hc,z3o h1,zmx h2,h3];have hT:T=bsL [c]:=Go.WideShapes.bytes_inj hc;rw[hT];rfl
  ·cases h1
theorem z4i(x:List UInt8):∀l:List (List UInt8),jnL (l ++ [x])=jnL l ++ ((if l.length=0 then[]else[32]) ++ x):=by
 intro l
 induction l with
 |nil=>rfl
 |cons a l ih =>
  cases l with
  |nil=>show a ++ 32 :: x=_;rfl
  |cons b l =>
   show a ++ 32 :: jnL ((b :: l) ++ [x])=(a ++ 32 :: jnL (b :: l)) ++ _
   rw[ih];simp
theorem ycj(l:List Tk):∀k,k≤l.length→jT l k=jnL ((l.take k).map txL):=by
 intro k
 induction k with
 |zero=>intro _;rfl
 |succ k ih =>
  intro hk;have Z4:k<l.length:=by omega
  rw[List.take_succ_eq_append_getElem Z4,List.map_append,List.map_singleton,z4i,List.length_map,List.length_take,Nat.min_eq_left (by omega),←ih (by omega)]
  show jT l k ++ _=_
  rw[List.getElem?_eq_getElem Z4];rfl
noncomputable def zq9(l:List Tk):List (List UInt8 × Tk):=l.map fun x=>(txL x,tk0 x)
theorem zyg(l:List Tk):(zq9 l).map (·.1)=l.map txL:=by unfold zq9;rw[List.map_map];rfl
theorem yc2{l:List Tk}(h:∀i,i<l.length→tkB (l[i]?.getD default)=true):∀x ∈ l,tkB x=true:=by
 intro x hx;obtain⟨i,hi,e⟩:=List.getElem_of_mem hx;have:=h i hi;rw[List.getElem?_eq_getElem hi,e]at this;exact this
theorem z35{l:List Tk}(h:∀i,i<l.length→tkB (l[i]?.getD default)=true):lexL 0 (jT l l.length)=.yes (plL 0 (zq9 l)):=by
 rw[ycj l l.length (Nat.le_refl _),List.take_length,←zyg];refine zzb (zq9 l) 0 ?_;intro x hx;unfold zq9 at hx;obtain⟨y,hy,rfl⟩:=List.mem_map.1 hx;exact zym (yc2 h y hy)
theorem z8v{s t:ByteArray}{ts us:List Tk}(hs:lexL 0 s.data.toList=.yes ts)(ht:lexL 0 t.data.toList=.yes us)(h:us.map zpT=ts.map zpT):(zb2 t).1=(zb2 s).1∧(zb2 t).2.2=(zb2 s).2.2:=by
 have h1:=rdC0 20001 ts;have h2:=rdC0 20001 us;rw[h,h1]at h2;unfold zb2;rw[hs,ht];dsimp only
 cases hr:rdC 20001 ts with
 |no l =>
  cases hq:rdC 20001 us with
  |ok y m=>rw[hr,hq]at h2;cases h2
  |no m=>cases l<;>cases m<;>exact⟨rfl,rfl⟩
 |ok x l =>
  cases hq:rdC 20001 us with
  |no m=>rw[hr,hq]at h2;cases h2
  |ok y m =>
   rw[hr,hq]at h2
   injection h2 with h3 h4
   subst h3
   cases l with
   |nil =>
    cases m with
    |nil =>
     dsimp only
     by_cases hc:chkC x=0
     ·rw[if_pos hc,if_pos hc];exact⟨rfl,rfl⟩
     ·rw[if_neg hc,if_neg hc];exact⟨rfl,rfl⟩
    |cons t l=>cases h4
   |cons t l =>
    cases m with
    |nil=>cases h4
    |cons t l=>exact⟨rfl,rfl⟩
theorem z2z{s:ByteArray}(hs:s.size≤20000):(coC (zb2 s)).size≤1000∧∃d,CSm d (coC (zb2 s)):=by
 have h0:∀i e,(coC (none,i,e)).size≤1000∧∃d,CSm d (coC (none,i,e)):=fun i e=>⟨by show tC0.size≤1000;rw[zss];decide,z6x⟩
 unfold zb2
 cases hl:lexL 0 s.data.toList with
 |no i er=>exact h0 _ _
 |yes ts =>
  have hts:=zfh _ 0 _ (Nat.le_refl _) hl;have Z6:=zgn hl;rw[zab]at Z6;dsimp only
  cases hf:rdC 20001 ts with
  |no l=>cases l<;>exact h0 _ _
  |ok x l =>
   cases l with
   |cons t l=>exact h0 _ _
   |nil =>
    dsimp only
    by_cases hc:chkC x=0
    ·rw[if_pos hc]
     have hg:=zs2 20001 ts hts (by omega) x [] hf
     have hz:x.csz≤500:=by
      unfold chkC at hc
      split at hc
      ·cases hc
      ·omega
     have h2:=zn2 x;obtain⟨d,hd,_⟩:=hg.1;exact⟨by show x.size≤1000;omega,501,CSl.few hd hz (by decide)⟩
    ·rw[if_neg hc];exact h0 _ _
theorem zlb:(bsL []).toList.isEmpty=true:=by rw[zag];rfl
theorem z7t{x:Tk}(h:VTk x)(h0:0≤x.place)(h1:x.place≤20000):tkB x=true:=by
 unfold tkB
 rcases h with⟨k,a,b,c⟩ |⟨k,a,b,c⟩ |⟨k,a,⟨n,d,ho,b⟩,c⟩ |⟨k,a,b,c,d⟩ |⟨k,⟨m,hm,a⟩,b,c⟩
 ·rw[if_pos k,a,b,c,zlb];simp[h0,h1]
 ·rw[if_neg (by omega),if_pos k,a,b,c,zlb];simp[h0,h1]
 ·rw[if_neg (by omega),if_neg (by omega),if_pos k,a,b,c,zlb]
  have:vlT (bsL (ratT n d))=true:=by unfold vlT;rw[zcz,z0x ho];rfl
  rw[this];simp[h0,h1]
 ·rw[if_neg (by omega),if_neg (by omega),if_neg (by omega),if_pos k,a,b,zlb];simp[h0,h1,c,d]
 ·rw[if_neg (by omega),if_neg (by omega),if_neg (by omega),if_neg (by omega),if_pos k,a,b,c,zlb]
  have:mk1 (bsL [m])=true:=by unfold mk1;rw[zcz];exact hm
  rw[this];simp[h0,h1]
theorem zza:∀(n off:Nat)(l:List UInt8),l.length≤n→∀{ts:List Tk},lexL off l=.yes ts→∀t ∈ ts,VTk t∧0≤t.place∧t.place≤((off+l.length:Nat):Int):=by
 intro n
 induction n with
 |zero =>
  intro off l hl ts h;have:l=[]:=List.length_eq_zero_iff.1 (by omega);subst this;rw[zbc (by rfl)]at h
  injection h with h;subst h;exact fun t ht=>by cases ht
 |succ n ih =>
  intro off l hl ts h
  by_cases hs:skS false l<l.length
  ·cases ho:oneL (l.drop (skS false l))with
   |no e=>rw[zek hs ho]at h;cases h
   |yes t k =>
    have hk:=zd6 ho;rw[zcc hs ho]at h
    cases hr:lexL (off+skS false l+k) (l.drop (skS false l+k))with
    |no i e=>rw[hr]at h;cases h
    |yes us =>
     rw[hr]at h;have a:=ih _ _ (by rw[List.length_drop];omega) hr
     injection h with h
     subst h;intro u hu
     rcases List.mem_cons.1 hu with rfl |hu
     ·refine⟨VTk.move (zmh ho) _,?_,?_⟩
      ·show(0:Int)≤((off+skS false l:Nat):Int);omega
      ·show((off+skS false l:Nat):Int)≤_;omega
     ·have b:=a u hu
      refine⟨b.1,b.2.1,Int.le_trans b.2.2 ?_⟩;rw[List.length_drop];have:=zi2 ho;rw[List.length_drop]at this;omega
  ·have:=zgi false l
   rw[zbc (by omega)]at h
   injection h with h;subst h;exact fun t ht=>by cases ht
theorem z7p:∀(l:List Tk)(off:Nat),(plL off (zq9 l)).map zpT=l.map zpT:=by
 intro l
 induction l with
 |nil=>intro _;rfl
 |cons x l ih =>
  intro off
  show zpT _ :: (plL _ (zq9 l)).map zpT=_
  rw[ih];rfl
theorem zzg{s:ByteArray}{ts:List Tk}(hs:s.size≤20000)(h:lexL 0 s.data.toList=.yes ts) :
 (∃e:Int,e≠0∧jR ts ts.length=(⟨#[]⟩,e))∨(∃t:ByteArray,t.size≤20000∧jR ts ts.length=(t,0)∧(zb2 t).1=(zb2 s).1∧(zb2 t).2.2=(zb2 s).2.2):=by
 have hv:∀i,i<ts.length→tkB (ts[i]?.getD default)=true:=fun i hi=>by
  rw[List.getElem?_eq_getElem hi];have:=zza _ 0 _ (Nat.le_refl _) h ts[i] (List.getElem_mem hi);rw[zab]at this;exact z7t this.1 this.2.1 (by have:=this.2.2;show ts[i].place≤20000;omega)
 by_cases hl:(jT ts ts.length).length≤20000
 ·refine .inr ⟨⟨(jT ts ts.length).toArray⟩,by rw[←zab];exact hl,z98 hv (by omega),?_⟩
  exact z8v h (z35 hv) (z7p ts 0)
 ·exact .inl ⟨4,by decide,zzh hv (by omega)⟩
theorem zwr{s:ByteArray}{ts:List Tk}(h:lexL 0 s.data.toList=.yes ts):∀i,i<ts.length→¬zn7 (ts[i]?.getD default):=fun i hi=>by
 rw[List.getElem?_eq_getElem hi];have:=zfh _ 0 _ (Nat.le_refl _) h ts[i] (List.getElem_mem hi);unfold TkS at this
 show ¬zn7 ts[i]
 unfold zn7;omega
theorem zmn(a:Option Addr)(c:Nat)(w:World) :
 Calls Tryz.prog 44 #[.slice a 0 c] w (zhz w ⟨#[]⟩ 0):=by
 have I1:Hid (Lib.IsBuilderF 79 5 w.heap.size w.heap.size (Lib.byteCells []) (w.alloc (.cells #[.pointer none,.slice none 0 0] 79))):=Lib.IsBuilderF.of (Lib.fresh_isBuilder _ _ w);go_enter Tryz.func44,Tryz.ntmps44;go_wp2_with fail;refine wp_loop_rounds 1 ?_;rw[rounds_succ];go_wp2_with fail;refine(Tryz.builder_len w.heap.size w.heap.size _ _ I1.out).mono ?_;rintro e w' ⟨rfl,rfl⟩;go_wp2_with fail;refine(Tryz.builder_text w.heap.size w.heap.size [] _ I1.out (by simp)).mono ?_;rintro e w3 ⟨rfl,_,b3,_⟩;have B3:Hid (Below w.heap.size w w3):=(zaa _ _).trans b3;clear b3;go_wp2_with fail;go_ret2;exact⟨rfl,B3.out⟩
def LxJ(w:World)(len:Nat)(ts:List Tk)(e:Ending)(w':World):Prop :=
 ∃a n c,e=.returned (.tuple #[.slice a n c,.int .i64 (len:Int),.int .i64 0])∧(∀W,Below w'.heap.size w' W→Calls Tryz.prog 44 #[.slice a n c] W (zhz W (jR ts ts.length).1 (jR ts ts.length).2))∧Below w.heap.size w w'
theorem zpo(s:ByteArray)(ts:List Tk)(w:World)(hs:s.size≤20000)(h:lexL 0 s.data.toList=.yes ts):Calls Tryz.prog 43 #[.string s] w (LxJ w s.size ts):=by
 have Z6:=zgn h;rw[zab]at Z6;refine(zri s w hs).mono ?_;rintro e w' (⟨i,er,hR,_⟩ |⟨ts2,v,hR,rfl,ho,hb⟩)
 ·rw[h]at hR;cases hR
 ·rw[h]at hR;injection hR with hR;subst hR
  rcases ho.2 with⟨rfl,hz⟩ |⟨g,cap,cur,rfl,hg,hc,Y6,hm,YG,ht⟩
  ·have hj:jR ts ts.length=(⟨#[]⟩,0):=by rw[hz];exact z98 (fun i hi=>absurd hi (Nat.not_lt_zero _)) (by show ¬20000<0;omega)
   refine⟨_,_,_,rfl,fun W hW => ?_,hb⟩;rw[hj];exact zmn _ _ W
  ·have hr:RowAt w' g 100 (tks ts):=by
    have h1:=ho.1;have Sr:ts.length*5≤cap*5:=Nat.mul_le_mul_right _ Y6;refine⟨cur,hc,by omega,fun i hi => ?_⟩;rw[←ht,List.getElem?_take_of_lt (by omega)];simp
   refine⟨_,_,_,rfl,fun W hW => ?_,hb⟩;exact z4h g 0 ts.length _ ts W rfl (by omega) (Nat.lt_of_lt_of_le hr.lt hW.size) (zoj (zt9 hr) hW hr.lt) (zwr h)
theorem zu5(s:ByteArray)(i:Nat)(er:Int)(w:World)(hs:s.size≤20000)(h:lexL 0 s.data.toList=.no i er):Calls Tryz.prog 43 #[.string s] w (fun e w'=>e=.returned (.tuple #[.slice none 0 0,.int .i64 (i:Int),.int .i64 er])∧Below w.heap.size w w'):=by
 refine(zri s w hs).mono ?_;rintro e w' (⟨i2,er2,hR,rfl,hb⟩ |⟨ts2,v,hR,_⟩)
 ·rw[h]at hR;injection hR with h1 h2;subst h1 h2;exact⟨rfl,hb⟩
 ·rw[h]at hR;cases hR
theorem zt8{Wg:World}(hs:zb6 Wg)(hp:zcr Wg)(Zi:Hid (∀W,Below Wg.heap.size Wg W→Calls Tryz.prog 29 #[] W (BelB W true)))(s:ByteArray)(w:World)(hb:Below Wg.heap.size Wg w) :
 Calls Tryz.prog 11 #[.string s] w (BelB w true):=by
 have HAL2:=Z9 (Zi.out w hb)
 by_cases h3:s.size≤3000
 case neg =>
  have l1:decide ((3000:Int)<(s.size:Int))=true:=decide_eq_true (by omega);clear hs hp Zi hb h3;go_enter Tryz.func11,Tryz.ntmps11;go_wp2_with fail;refine HAL2.out.mono ?_;rintro e w1 ⟨rfl,hb⟩;have ZT:=Z9 hb;clear hb;go_wp2_with fail;go_ret;exact⟨rfl,ZT.out⟩
 have l1:decide ((3000:Int)<(s.size:Int))=false:=decide_eq_false (by omega);have HS20:Hid (s.size≤20000):=Z9 (by omega);have HG:=Z9 (And.intro hs (And.intro hp hb));clear hs hp Zi hb h3
 cases hl:lexL 0 s.data.toList with
 |no i er =>
  have HX:=Z9 (fun W=>zu5 s i er W HS20.out hl);have e1:(er != 0)=true:=by simpa using zi4 hl
  have HJ:=Z9 (fun W=>zmn none 0 W);clear hl;go_enter Tryz.func11,Tryz.ntmps11;go_wp2_with fail;refine HAL2.out.mono ?_;rintro e w1 ⟨rfl,hb⟩;have ZT:=Z9 hb;clear hb;go_wp2_with fail;refine(HX.out _).mono ?_;rintro e w2 ⟨rfl,hb⟩;have ZY:=Z9 (ZT.out.trans (hb.mono ZT.out.size));clear hb;go_wp2_with fail;refine(HJ.out _).mono ?_;rintro e w3 ⟨rfl,hb⟩;have Zx:=Z9 (ZY.out.trans (hb.mono ZY.out.size));clear hb;go_wp2_with fail;go_ret;exact⟨rfl,Zx.out⟩
 |yes ts =>
  have HX:=Z9 (fun W=>zpo s ts W HS20.out hl);have hj:=zzg HS20.out hl;clear hl;go_enter Tryz.func11,Tryz.ntmps11;go_wp2_with fail;refine HAL2.out.mono ?_;rintro e w1 ⟨rfl,hb⟩;have ZT:=Z9 hb;clear hb;go_wp2_with fail;refine(HX.out _).mono ?_;rintro e w2 ⟨a,n,c,rfl,hjn,hb⟩;have ZY:=Z9 (ZT.out.trans (hb.mono ZT.out.size));have HJ:=Z9 (hjn w2 (Below.refl _ _));clear hb hjn HX
  rcases hj with⟨er,Vk,TO⟩ |⟨t,ht,TO,Yn,ZI⟩
  ·rw[TO]at HJ
   have e1:(er != 0)=true:=by simpa using Vk
   clear TO Vk;go_wp2_with fail;refine HJ.out.mono ?_;rintro e w3 ⟨rfl,hb⟩;have Zx:=Z9 (ZY.out.trans (hb.mono ZY.out.size));clear hb;go_wp2_with fail;go_ret;exact⟨rfl,Zx.out⟩
  ·rw[TO]at HJ
   have Xy:Hid (∀W,Below w.heap.size w W→Calls Tryz.prog 32 #[.string s] W (RcP W (zb2 s))):=Z9 (fun W hW=>zff s W Wg HS20.out HG.out.2.1 HG.out.1 (HG.out.2.2.trans (hW.mono HG.out.2.2.size)));have Yy:Hid (∀W,Below w.heap.size w W→Calls Tryz.prog 32 #[.string t] W (RcP W (zb2 t))):=Z9 (fun W hW=>zff t W Wg ht HG.out.2.1 HG.out.1 (HG.out.2.2.trans (hW.mono HG.out.2.2.size)));have XM:=z2z HS20.out;have YY:coC (zb2 t)=coC (zb2 s):=by unfold coC;rw[Yn]
   obtain⟨X,hX⟩:∃X,X=coC (zb2 s):=⟨_,rfl⟩
   obtain⟨E,hE⟩:∃E,E=(zb2 s).2.2:=⟨_,rfl⟩
   obtain⟨I1,hI1⟩:∃I,I=(zb2 s).2.1:=⟨_,rfl⟩
   obtain⟨I2,hI2⟩:∃I,I=(zb2 t).2.1:=⟨_,rfl⟩
   have HE1:=Z9 (And.intro hX (And.intro hE hI1));have HE2:=Z9 (And.intro (hX.trans YY.symm) (And.intro (hE.trans ZI.symm) hI2));rw[←hX]at XM;have HSM:=Z9 XM;have ee:(E == E)=true:=by simp
   clear TO ht Yn ZI YY hX hE hI1 hI2 XM HG HS20 HAL2;go_wp2_with fail;refine HJ.out.mono ?_;rintro e w3 ⟨rfl,hb⟩;have Zx:=Z9 (ZY.out.trans (hb.mono ZY.out.size));clear hb HJ;go_wp2_with fail;refine(Xy.out _ Zx.out).mono ?_;intro e u1 hh;obtain⟨n1,ea1,el1,ec1,da1,dl1,dc1,a1,l1',k1,rfl,ZB,ZJ⟩:=zft hh;clear hh;rw[←HE1.out.1]at ZB ⊢;rw[←HE1.out.2.1,←HE1.out.2.2];have Y7:=zaa u1 (.cells #[.int .u8 X.kind,.string X.frm,.string X.too,.string X.name,.int .u8 X.expr.kind,.string X.expr.rat,.string X.expr.name,.int .i64 X.expr.date,.slice ea1 el1 ec1,.int .i64 X.date,.slice da1 dl1 dc1,.slice a1 l1' k1] 40)
   have HB4:Hid (Below w.heap.size w (u1.alloc (.cells #[.int .u8 X.kind,.string X.frm,.string X.too,.string X.name,.int .u8 X.expr.kind,.string X.expr.rat,.string X.expr.name,.int .i64 X.expr.date,.slice ea1 el1 ec1,.int .i64 X.date,.slice da1 dl1 dc1,.slice a1 l1' k1] 40))):=Z9 (Zx.out.trans ((ZJ.trans (Y7.mono ZJ.size)).mono Zx.out.size));have HX1:=Z9 (CtAt.below Y7 ZB);have HBX1:=Z9 (heap_alloc_new u1 (.cells #[.int .u8 X.kind,.string X.frm,.string X.too,.string X.name,.int .u8 X.expr.kind,.string X.expr.rat,.string X.expr.name,.int .i64 X.expr.date,.slice ea1 el1 ec1,.int .i64 X.date,.slice da1 dl1 dc1,.slice a1 l1' k1] 40))
   clear ZJ ZB Y7;go_wp2_with fail;refine(Yy.out _ HB4.out).mono ?_;intro e u2 hh;obtain⟨n2,ea2,el2,ec2,da2,dl2,dc2,a2,l2',k2,rfl,Zu,Z3⟩:=zft hh;clear hh;rw[←HE2.out.1]at Zu ⊢;rw[←HE2.out.2.1,←HE2.out.2.2];have hB2:=zaa u2 (.cells #[.int .u8 X.kind,.string X.frm,.string X.too,.string X.name,.int .u8 X.expr.kind,.string X.expr.rat,.string X.expr.name,.int .i64 X.expr.date,.slice ea2 el2 ec2,.int .i64 X.date,.slice da2 dl2 dc2,.slice a2 l2' k2] 40);obtain⟨W2,ZU⟩:∃W2,W2=u2.alloc (.cells #[.int .u8 X.kind,.string X.frm,.string X.too,.string X.name,.int .u8 X.expr.kind,.string X.expr.rat,.string X.expr.name,.int .i64 X.expr.date,.slice ea2 el2 ec2,.int .i64 X.date,.slice da2 dl2 dc2,.slice a2 l2' k2] 40):=⟨_,rfl⟩
   have hb12:=Z3.trans (hB2.mono Z3.size);have HSA:=Z9 (zgt (max n1 n2) X _ _ W2 (by rw[ZU];exact CtAt.up (Nat.le_max_left _ _) (CtAt.below hb12 HX1.out)) (by rw[ZU];exact CtAt.up (Nat.le_max_right _ _) (CtAt.below hB2 Zu)) HSM.out.1 HSM.out.2);have HB5:Hid (Below w.heap.size w W2):=Z9 (by rw[ZU];exact HB4.out.trans (hb12.mono HB4.out.size));have ZO:=(Z3.block _ (Z8 HBX1.out)).trans HBX1.out;have lu1:=(Z8 ZO);obtain⟨z0,z1,z2,z3,z4,z5,z6,z7,z8,z9,za,zb⟩:=zbz ZO;have HW2:=Z9 ZU;clear hB2 ZU hb12 Z3 Zu ZO HX1 HBX1 HB4 Zx HE1 HE2 Xy Yy;go_wp2_with fail;rw[←HW2.out];refine HSA.out.mono ?_;rintro e u3 ⟨rfl,hb⟩
   have HF:=Z9 (HB5.out.trans (hb.mono HB5.out.size));clear hb;go_wp2_with fail;go_ret;exact⟨rfl,HF.out⟩
theorem zoi(s:ByteArray)(W:World)(hs:zb6 W)(hp:zcr W):Calls Tryz.prog 11 #[.string s] W (BelB W true) :=
 zt8 hs hp (Z9 fun W' hW=>zsb hs hp W' hW) s W (Below.refl _ _)
end Go.Proofs.YtkobkpepgdddeaaGreatDoor
