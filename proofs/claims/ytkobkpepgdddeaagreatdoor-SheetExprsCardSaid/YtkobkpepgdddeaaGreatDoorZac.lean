/-
  Magnitudes of the program: long division. No condition.
-/
import Derived.Test.YtkobkpepgdddeaaGreatDoorZab
import Derived.Outline
namespace Go.Proofs.YtkobkpepgdddeaaGreatDoor
open Go.RowKit
set_option maxHeartbeats 16000000
set_option maxRecDepth 100000
def PadR(w:World)(n N:Nat)(v:Value)(wr:World):Prop :=
 ∃u:List Nat,u.length≤n+1∧wr.ownsRow w.heap.size 247 1 v u.length (nums .u32 u)∧(∀x ∈ u,x<Bs)∧val u=N∧Below w.heap.size w wr
def CpR(w5:World)(gu j p:Nat)(u left:List Nat)(iv:Value)(wr:World):Prop :=
 ∃i:Nat,i≤p+3∧iv=.int .i64 i∧RowAt wr gu 247 (nums .u32 (ucp u left j i))∧w5.grownBy wr (some gu)
theorem zc6(l:List Nat)(j m k:Nat)(h:k<m):((l.drop j).take m).getD k 0=l.getD (j+k) 0:=by
 rw[List.getD_eq_getElem?_getD,List.getElem?_take_of_lt h,List.getElem?_drop,List.getD_eq_getElem?_getD]
def DvR(w:World)(gu gv gq:Nat)(u0 v:List Nat)(V p K:Nat)(iv:Value)(wr:World):Prop :=
 ∃(i:Nat)(u q:List Nat),i≤K∧iv=.int .i64 ((i:Int)-1)∧RowAt wr gu 247 (nums .u32 u)∧RowAt wr gv 247 (nums .u32 v)∧RowAt wr gq 247 (nums .u32 q)∧zp8 u0 u q V (p+2) i∧Below w.heap.size w wr
theorem zpz(a b:Option Addr)(n p c d A B:Nat)(la lb:List Nat)(w:World)(Zt:la.length=n)(ZC:lb.length=p+2)(hn:n≤100000)(hm:p≤99998)
 (ra:Rep la A) (rb:Rep lb B) (ha:Nums .u32 w a la) (hb:Nums .u32 w b lb) (YW:B≤A) :
 Calls Tryz.prog 227 #[.slice a n c,.slice b (p+2) d] w (zoh w A B):=by
 obtain⟨i0,hi,ZN,ZO,ZD⟩:=info_parts zfq;have X1:=zig a b n (p+2) c d A B la lb w Zt ZC (by omega) (by omega) ra rb ha hb
 obtain⟨z,hz,VQ⟩:∃z,z=cmpN A B∧0≤z:=⟨_,rfl,by
  rcases Nat.lt_or_ge B A with h |h
  ·rw[zdw h];omega
  ·rw[zfw (by omega)];omega⟩
 rw[←hz]at X1;obtain⟨y,hy⟩:∃y,y=lb.getD (p+1) 0:=⟨_,rfl⟩
 have hyb:y<1000000000:=by rw[hy];exact zba lb _ rb.1
 obtain⟨gb,ob,rfl,Ya,Yk⟩:=hb (p+1) (by omega);rw[←hy]at Yk;obtain⟨s,hs⟩:∃s,s=1000000000 / (y+1):=⟨_,rfl⟩
 have hsI:(1000000000:Int) / ((y:Int)+1)=(s:Int):=by rw[hs];simp
 have hsl:=fun v hv=>zuv lb v B s (p+1) rb ZC (by rw[hs,←hy];rfl) hv
 have hsb:s≤1000000000:=by rw[hs];exact Nat.div_le_self _ _
 have Zf:p+2≤n:=by have:=zel la lb A B ra rb YW;omega
 have HSL:=Z9 hsl;have HC:=Z9 X1;have RA:=Z9 ra;have RB:=Z9 rb;have HA:=Z9 ha;have HB:=Z9 hb;have HLA:=Z9 Zt;have HLB:=Z9 ZC;have HLE:=Z9 YW;obtain⟨Y9,YP⟩:=zyh lb B s (p+1) rb ZC (by rw[hs,←hy];rfl);have hs3:s<1000000000:=YP;have Zh:(1000000000:Int) / ((y:Int)+1) % 4294967296=(s:Int):=by rw[hsI];omega
 have Ww:=Z9 Zh;have VS:=Z9 YP;have t1:(((p:Int)+2) == 1)=false:=by rw[beq_eq_false_iff_ne];omega
 clear X1 hz hs hsI hsl Zh YP ra rb ha hb Zt ZC YW hy;go_enter Tryz.func227,Tryz.ntmps227;go_wp2_with fail;refine HC.out.mono ?_;rintro e w1 ⟨rfl,q,rfl⟩;go_wp2_with fail;rw[Ww.out];obtain⟨W1,X8⟩:∃W1,W1=(w.drewN q).alloc (.cells #[.int .u32 (s:Int)] 247):=⟨_,rfl⟩
 have b1:Below w.heap.size w W1:=by rw[X8];exact(zav (Below.refl _ _) q).alloc (Nat.le_refl _) _
 have X2:Nums .u32 W1 (some ⟨w.heap.size,0,none⟩) [s]:=by
  intro i hi;obtain rfl:i=0:=by simpa using hi
  refine⟨_,0,rfl,by rw[X8];simp[World.drewN],?_⟩;rw[X8];exact(zck (w:=w.drewN q) (c:=#[.int .u32 (s:Int)]) (t:=247) rfl rfl).cell (i:=0) (by simp)
 have WE:=zit a (some ⟨w.heap.size,0,none⟩) n 1 c 1 la [s] W1 HLA.out rfl (by omega) (by omega) RA.out.1 (by intro x hx;rw[List.mem_singleton.1 hx];exact VS.out) (HA.out.below b1) X2;rw[RA.out.2.2,show val [s]=s by simp[val]]at WE;rw[←X8];have HT:=Z9 WE;have BW1:=Z9 b1;have LIT1:=Z9 X2;clear b1 X2 WE X8;refine HT.out.mono ?_;rintro e w2 ⟨v2,u,rfl,Zk,Zc,b2⟩;have hB2:=BW1.out.trans (b2.mono BW1.out.size)
 have VA:u.length≤n+1:=zb9 u _ _ Zc (by
  have h1:=zi7 la A RA.out;rw[HLA.out]at h1;rw[Nat.pow_succ]
  exact Nat.mul_lt_mul_of_lt_of_lt h1 VS.out)
 have hO2:w2.ownsRow w.heap.size 247 1 v2 u.length (nums .u32 u):=by
  obtain⟨h1,h2⟩:=Zk;refine⟨h1,?_⟩
  rcases h2 with h |⟨g,cap,cur,e1,e2,e3⟩
  ·exact .inl h
  ·exact .inr ⟨g,cap,cur,e1,Nat.le_trans BW1.out.size e2,e3⟩
 have Zr:PadR w n (A*s) v2 w2:=⟨u,VA,hO2,Zc.1,Zc.2.2,hB2⟩;have ZA:=Z9 Zr;clear Zk Zc b2 hB2 VA hO2 Zr HT;go_wp2_with fail;go_loopw [10] (PadR w n (A*s)) (fun v _=>n+1-(match v with | .slice _ k _=>k |_=>0))
 case atStart=>exact ZA.out
 case round =>
  obtain⟨u,VA,ho,hd,hv,hb⟩:=hrel;obtain⟨au,cu,rfl,_,huc,_⟩:=zau ho;have HO:=Z9 ho;have HD:=Z9 hd;have HV:=Z9 hv;have HBU:=Z9 hb;obtain⟨k,hk⟩:∃k,k=u.length:=⟨_,rfl⟩
  rw[←hk]at HO VA huc ⊢;have HK:=Z9 hk;clear ho hd hv hb hk ZA
  by_cases Z7:k≤n
  ·go_wp2_with (at_builtin;refine zas _ rfl (.tmp 58) (.tmp 59) 239 rfl w.heap.size 247 i0 (.int .u32 0) 4 Tryz.underlying239 hi ZN ZO ZD rfl _ _ _ rfl (HO.out.alloc _) ⟨wr.heap.size,0,none⟩ 1 (.int .u32 0) rfl ?c1 rfl ?c3 ?c4 ?c5 ?_)
   case c3=>unfold maxLen;omega
   case c4=>omega
   case c5=>have:=HBU.out.size;simp;omega
   intro v3 w3 VN ZY VM U6;have n3:Below w.heap.size w w3:=(HBU.out.alloc HBU.out.size _).grown ZY (by have:=HBU.out.size;simp;omega) (fun k hk=>(HO.out.lt k hk).1);have UF:w3.ownsRow w.heap.size 247 1 v3 (k+1) (nums .u32 (u ++ [0])):=by rw[←zbo];exact VN
   obtain⟨a3,c3,rfl,_,_,_⟩:=zau UF;have HO4:=Z9 UF;have N3:=Z9 n3;clear VN ZY VM U6 UF n3;go_wp2_with fail;go_roundw
   case rel =>
    refine⟨u ++ [0],by simp;have:=HK.out;omega,by rw[List.length_append,←HK.out];exact HO4.out,?_,by rw[zcv];simp[HV.out],N3.out⟩;intro x hx
    rcases List.mem_append.1 hx with hx |hx
    ·exact HD.out x hx
    ·rw[List.mem_singleton.1 hx];exact zdy
   case measure=>simp;omega
  ·obtain rfl:k=n+1:=by omega
   obtain⟨w3,rfl⟩:∃w3:World,w3=wr:=⟨_,rfl⟩
   clear Z7 VA;go_wp2_with fail;obtain⟨W4,WJ⟩:∃W4,W4=w3.alloc (.cells #[.int .u32 (s:Int)] 247):=⟨_,rfl⟩
   have b34:Below w3.heap.size w3 W4:=by rw[WJ];exact(Below.refl _ _).alloc (Nat.le_refl _) _
   have Vq:Nums .u32 W4 (some ⟨w3.heap.size,0,none⟩) [s]:=by
    intro i hi;obtain rfl:i=0:=by simpa using hi
    refine⟨_,0,rfl,by rw[WJ];simp,?_⟩;rw[WJ];exact(zck (w:=w3) (c:=#[.int .u32 (s:Int)]) (t:=247) rfl rfl).cell (i:=0) (by simp)
   have b4:=HBU.out.trans (b34.mono HBU.out.size);have WE:=zit (some ⟨gb,ob,none⟩) (some ⟨w3.heap.size,0,none⟩) (p+2) 1 d 1 lb [s] W4 HLB.out rfl (by omega) (by omega) RB.out.1 (by intro x hx;rw[List.mem_singleton.1 hx];exact VS.out) (HB.out.below b4) Vq;rw[RB.out.2.2,show val [s]=s by simp[val]]at WE;rw[←WJ]
   rcases zbd HO.out with⟨_,h0,_⟩ |⟨gu,cu',hu,hgu,Wb,hcum,_,UH⟩
   ·omega
   injection hu with WF _ hu3
   subst WF hu3;have hru4:RowAt W4 gu 247 (nums .u32 u):=UH.below b34 UH.lt;have hgu4:gu<W4.heap.size:=hru4.lt;refine WE.mono ?_;rintro e w5 ⟨v5,vl,rfl,SL,XQ,b5⟩;have hvl:vl.length=p+2:=(HSL.out vl XQ).1;rw[hvl]at SL
   rcases zbd SL with⟨_,h0,_⟩ |⟨gv,cv,rfl,Xj,Vn,hcvm,_,Uh⟩
   ·omega
   have hru5:RowAt w5 gu 247 (nums .u32 u):=hru4.below b5 hru4.lt;have hguv:gu<gv:=Nat.lt_of_lt_of_le hgu4 Xj;have b05:=b4.trans (b5.mono b4.size);have RU5:=Z9 hru5;have RV5:=Z9 Uh;have RR5:=Z9 XQ;have B05:=Z9 b05;have HVL:=Z9 hvl;clear WJ b34 Vq b4 WE hru4 hgu4 SL XQ b5 hru5 Uh b05 UH Xj HO HBU LIT1 BW1 hvl;obtain⟨K,hK⟩:∃K,K+p+1=n:=⟨n-p-1,by omega⟩
   have SU:K+p+1≤n:=by omega
   have SV:n≤K+p+1:=by omega
   clear hK;go_wp2_with (at_make;refine wpList_make_full _ rfl _ _ 239 rfl w5.heap.size 247 i0 (.int .u32 0) 1 Tryz.underlying239 hi ZN ZO .i64 .i64 _ _ K rfl rfl ?m0 ?m1 ?m2 ?m3 ?m4 ?_)
   case m0=>omega
   case m1=>omega
   case m2=>rw[ZD];omega
   case m3=>unfold maxLen;omega
   case m4=>exact Nat.le_refl _
   intro w6 SM WN;rw[zef]at SM
   rcases zbd SM with⟨_,h0,_⟩ |⟨gq,cq,hq6,_,_,_,_,Va⟩
   ·omega
   injection hq6 with hq61 _ hq63
   subst hq63
   injection hq61 with hq61
   injection hq61 with hq61 _
   have hgq:w5.heap.size=gq:=hq61;have RU6:=Z9 (RU5.out.kept WN (by simp));have RV6:=Z9 (RV5.out.kept WN (by simp));have RQ6:=Z9 Va;have B06:=Z9 (B05.out.grown WN B05.out.size (fun k hk=>by cases hk));have hgvq:gv<gq:=by have:=RV5.out.lt;omega
   have hst2:DvR w gu gv gq u vl (B*s) p K (.int .i64 ((K:Int)-1)) w6:=by
    have hV:val vl=B*s:=RR5.out.2.2;have hdl:=ztb lb u A B s n (p+1) (by have:=zi7 la A RA.out;rwa [HLA.out]at this) RB.out HLB.out Y9 HV.out HK.out.symm (by omega);refine⟨K,u,List.replicate K 0,Nat.le_refl _,rfl,RU6.out,RV6.out,RQ6.out,?_,B06.out⟩;have VX:=zw7 u (B*s) (p+1+1) (by have:=HK.out;omega) HD.out hdl
    rwa [show u.length-(p+1+1)=K by have:=HK.out;omega]at VX
   have HST2:=Z9 hst2;have hGQ:=Z9 hgq;clear SM WN Va hq61 RU5 RV5 B05 RU6 RV6 RQ6 B06 hst2 hgq;rw[hGQ.out];go_wp2_with fail;rw[show((n:Int)+1-((p:Int)+2)-1)=(K:Int)-1 by omega];go_loopw [12] (DvR w gu gv gq u vl (B*s) p K) (fun i _=>(intOf i+1).toNat)
   case atStart=>exact HST2.out
   case round =>
    clear HST2;obtain⟨w7,rfl⟩:∃w7:World,w7=wr:=⟨_,rfl⟩
    obtain⟨i,uu,q,hiK,rfl,ru,rv,rq,ZB,hb⟩:=hrel;have RU:=Z9 ru;have RV:=Z9 rv;have RQ:=Z9 rq;have ZI:=Z9 ZB;have HB7:=Z9 hb;have huul:uu.length=n+1:=by rw[ZB.1];exact HK.out.symm
    have HUL:=Z9 huul;clear ru rv rq ZB hb huul
    by_cases UW:1≤i
    ·obtain⟨j,rfl⟩:∃j,i=j+1:=⟨i-1,by omega⟩
     rw[show(((j+1:Nat):Int)-1)=(j:Int)by omega]
     have Wb:∀k x,k<n+1→x=uu.getD k 0→w7.cell? ⟨gu,k,none⟩=some (.int .u32 (x:Int)):=fun k x hk hx=>by
      rw[RU.out.cell (by rw[za5,HUL.out];exact hk),zbr _ _ _ (by rw[HUL.out];exact hk),hx]
     have Vn:∀k x,k<p+2→x=vl.getD k 0→w7.cell? ⟨gv,k,none⟩=some (.int .u32 (x:Int)):=fun k x hk hx=>by
      rw[RV.out.cell (by rw[za5,HVL.out];exact hk),zbr _ _ _ (by rw[HVL.out];exact hk),hx]
     obtain⟨u2,XF⟩:∃x,x=uu.getD (j+(p+2)) 0:=⟨_,rfl⟩
     obtain⟨u1,WF⟩:∃x,x=uu.getD (j+(p+1)) 0:=⟨_,rfl⟩
     obtain⟨u0,Tm⟩:∃x,x=uu.getD (j+p) 0:=⟨_,rfl⟩
     obtain⟨y1,WG⟩:∃x,x=vl.getD (p+1) 0:=⟨_,rfl⟩
     obtain⟨y0,Zd⟩:∃x,x=vl.getD p 0:=⟨_,rfl⟩
     have c2:=Wb _ _ (by omega) XF;have c1:=Wb _ _ (by omega) WF;have c0:=Wb (j+(p+2)-2) u0 (by omega) (by rw[Tm];congr 1);have d1:=Vn _ _ (by omega) WG;have d0:=Vn _ _ (by omega) Zd;have bu2:u2<1000000000:=by rw[XF];exact zba uu _ ZI.out.2.1
     have bu1:u1<1000000000:=by rw[WF];exact zba uu _ ZI.out.2.1
     have bu0:u0<1000000000:=by rw[Tm];exact zba uu _ ZI.out.2.1
     have by1:y1<1000000000:=by rw[WG];exact zba vl _ RR5.out.1
     have by0:y0<1000000000:=by rw[Zd];exact zba vl _ RR5.out.1
     clear Wb Vn;have Y2:=Z9 XF;have HU1:=Z9 WF;have HU0:=Z9 Tm;have HY1:=Z9 WG;have HY0:=Z9 Zd;clear XF WF Tm WG Zd;obtain⟨Yo,Vd,Ve,hw4,Tn,hw6⟩:=zkq u uu q (B*s) (p+2) j (by have:=HK.out;omega) (by have:=RR5.out.2.2;rw[←this];exact zis vl RR5.out.2.1 (by intro h;have:=HVL.out;rw[h]at this;cases this)) (by have:=zi7 vl _ RR5.out;rw[HVL.out]at this;omega) ZI.out;have hdo:=zz8 ((uu.drop j).take (p+2+1)) vl (p+2) Yo HVL.out (by omega) (fun x hx=>ZI.out.2.1 x (List.mem_of_mem_drop (List.mem_of_mem_take hx))) RR5.out.1 (zi6 vl _ (p+1) RR5.out HVL.out) (by rw[Vd,RR5.out.2.2];exact Ve);rw[Vd,RR5.out.2.2,zc6 _ _ _ _ (by omega),zc6 _ _ _ _ (by omega),zc6 _ _ _ _ (by omega),←Y2.out,show p+2-1=p+1 by omega,show p+2-2=p by omega,←HU1.out,←HU0.out,←HY1.out,←HY0.out]at hdo
     obtain⟨Xr,WA,S5⟩:=hdo;have hy1p:1≤y1:=by rw[HY1.out];exact zi6 vl _ (p+1) RR5.out HVL.out
     have Uy:=fun q=>zwu u2 u1 u0 y1 y0 (w7.drewN q) S5 bu1 bu0 by0 hy1p by1
     have XL:=zwv u2 u1 u0 y1 y0;obtain⟨dg,Xg⟩:∃dg,dg=gss u2 u1 u0 y1 y0:=⟨_,rfl⟩
     rw[←Xg]at Xr WA XL
     have hgs2:∀q,Calls Tryz.prog 250 #[.int .u64 u2,.int .u64 u1,.int .u64 u0,.int .u64 y1,.int .u64 y0] (w7.drewN q) fun e w'=>e=.returned (.int .u64 dg)∧∃m,w'=(w7.drewN q).drewN m:=fun q=>by rw[Xg];exact Uy q
     have HGS:=Z9 hgs2;have HW5:=Z9 Tn;have HW6:=Z9 hw6;have YE:=Z9 Yo;have HW2:=Z9 Vd;have WW:=Z9 Xr;have HD2:=Z9 WA;have hgl2:dg<1000000000:=XL;clear Uy hgs2 Xg Xr WA S5 Yo Vd Ve hw4 Tn hw6 XL;go_wp2_with fail;have s1:IntKind.i64.wrap ((j:Int)+((p:Int)+2))=(j:Int)+((p:Int)+2):=IntWalk.i64_in _ (by omega);have s2:IntKind.i64.wrap ((j:Int)+((p:Int)+2)-1)=(j:Int)+((p:Int)+2)-1:=IntWalk.i64_in _ (by omega);have s3:IntKind.i64.wrap ((j:Int)+((p:Int)+2)-2)=(j:Int)+((p:Int)+2)-2:=IntWalk.i64_in _ (by omega);have s4:IntKind.i64.wrap ((p:Int)+2-1)=(p:Int)+2-1:=IntWalk.i64_in _ (by omega);have s5:IntKind.i64.wrap ((p:Int)+2-2)=(p:Int)+2-2:=IntWalk.i64_in _ (by omega)
     have v1:IntKind.u64.wrap (u2:Int)=(u2:Int):=IntWalk.u64_in _ (by omega);have v2:IntKind.u64.wrap (u1:Int)=(u1:Int):=IntWalk.u64_in _ (by omega);have v3:IntKind.u64.wrap (u0:Int)=(u0:Int):=IntWalk.u64_in _ (by omega);have v4:IntKind.u64.wrap (y1:Int)=(y1:Int):=IntWalk.u64_in _ (by omega);have v5:IntKind.u64.wrap (y0:Int)=(y0:Int):=IntWalk.u64_in _ (by omega);go_quiet ((go_at_call 250;exact Calls.quiet_of (HGS.out _)));obtain⟨W8,Ss⟩:∃W8,W8=w7.drewN nq:=⟨_,rfl⟩
     have Xq:Below w7.heap.size w7 W8:=by rw[Ss];exact zav (Below.refl _ _) nq
     rw[←Ss];clear Ss s1 s2 s3 s4 s5 v1 v2 v3 v4 v5 c0 c1 c2 d0 d1 bu2 bu1 bu0 by1 by0 hy1p;obtain⟨V,hV⟩:∃V,V=B*s:=⟨_,rfl⟩
     obtain⟨X,hX⟩:∃X,X=val (uu.drop j):=⟨_,rfl⟩
     have hVp:0<V:=by rw[hV,←RR5.out.2.2];exact zis vl RR5.out.2.1 (by intro h;have:=HVL.out;rw[h]at this;cases this)
     have hUd:∀x ∈ (uu.drop j).take (p+2+1),x<Bs:=fun x hx=>ZI.out.2.1 x (List.mem_of_mem_drop (List.mem_of_mem_take hx))
     have hX2:val ((uu.drop j).take (p+2+1))=X:=by rw[hX];exact HW2.out
     have WB:X / V≤dg∧dg≤X / V+1:=by rw[hX,hV];exact⟨WW.out,HD2.out⟩
     have hDlt:X / V<Bs:=by have:=zdd;omega
     have hNU:∀W,Below w7.heap.size w7 W→Nums .u32 W (some ⟨gu,j,none⟩) ((uu.drop j).take (p+2+1)):=fun W hW e he=>by
      rw[YE.out]at he;have hr:=RU.out.below hW RU.out.lt;refine⟨gu,j,rfl,hr.lt,?_⟩;rw[hr.cell (by rw[za5,HUL.out];omega),zbr _ _ _ (by rw[HUL.out];omega),zc6 _ _ _ _ he]
     have hNV:∀W,Below w7.heap.size w7 W→Nums .u32 W (some ⟨gv,0,none⟩) vl:=fun W hW e he=>by
      have hr:=RV.out.below hW RV.out.lt;refine⟨gv,0,rfl,hr.lt,?_⟩;rw[Nat.zero_add,hr.cell (by rw[za5];exact he),zbr _ _ _ he]
     have htrU:∀W,Below w7.heap.size w7 W→Calls Tryz.prog 248 #[.slice (some ⟨gu,j,none⟩) (p+2+1) (cu-j)] W (zru W (some ⟨gu,j,none⟩) (p+2+1) (cu-j) ((uu.drop j).take (p+2+1))):=fun W hW =>
      zh9 _ _ _ _ W YE.out (by omega) (by omega) hUd (hNU W hW)
     have htmV:∀W a2 n2 c2 l2 x,Below w7.heap.size w7 W→l2.length=n2→n2≤400000→Rep l2 x→Nums .u32 W a2 l2→Calls Tryz.prog 249 #[.slice (some ⟨gv,0,none⟩) (p+2) cv,.slice a2 n2 c2] W (zhy W (V*x)):=fun W a2 n2 c2 l2 x hW h1 h2 h3 h4=>by
      have:=zit (some ⟨gv,0,none⟩) a2 (p+2) n2 cv c2 vl l2 W HVL.out h1 (by omega) h2 RR5.out.1 h3.1 (hNV W hW) h4
      rwa [RR5.out.2.2,h3.2.2,←hV]at this
     have HUD:=Z9 hUd;have HX2:=Z9 hX2;have XN:=Z9 hNU;have HTU:=Z9 htrU;have HTV:=Z9 htmV;have HDD:=Z9 WB;have HXX:=Z9 hX;have HVV:=Z9 hV;have HB8:=Z9 Xq;clear hUd hX2 hNU hNV htrU htmV WB hX hV Xq;go_wp2_with fail;refine(zk1 W8 dg (by have:=zdd;omega)).mono ?_;rintro e w9 ⟨⟨v9,l9,rfl,ho9,SP⟩,hw9⟩;have hb9:Below w7.heap.size w7 w9:=by rw[←hw9];exact HB8.out.alloc HB8.out.size _
     obtain⟨a9,c9,rfl,hl9,hc9,hn9⟩:=zau ho9;have hlen9:l9.length≤1:=zb9 l9 dg 1 SP (by have:=zdd;simp;omega);have HT9:=Z9 (HTV.out w9 a9 l9.length c9 l9 dg hb9 rfl (by omega) SP hn9);have HB9:=Z9 hb9;clear ho9 SP hw9 hb9 hl9 hn9;go_wp2_with fail;refine HT9.out.mono ?_;rintro e w10 ⟨v10,l10,rfl,U2,U7,Xw⟩;obtain⟨a10,c10,rfl,_,Su,T9⟩:=zau U2;have HB10:=Z9 (HB9.out.trans (Xw.mono HB9.out.size))
     have hlen10:l10.length≤200000:=by
      have h1:=zb9 l10 _ (p+2+1) U7 (by
       have h2:=zi7 vl _ RR5.out;rw[HVL.out,←HVV.out]at h2;rw[Nat.pow_succ]
       exact Nat.mul_lt_mul_of_lt_of_lt h2 (by have:=zdd;omega))
      omega
     have HN10:=Z9 T9;have HR10:=Z9 U7;clear U2 U7 Xw T9 HT9;go_wp2_with fail;rw[show j+(p+2)+1-j=p+2+1 by omega];refine(HTU.out w10 HB10.out).mono ?_;rintro e w' ⟨⟨k,hk,rfl,Xm⟩,rfl⟩;rw[HX2.out]at Xm;have HRK:=Z9 Xm;have hcp:=zig (some ⟨gu,j,none⟩) a10 k l10.length (cu-j) c10 X (V*dg) (((uu.drop j).take (p+2+1)).take k) l10 w10 (by rw[List.length_take,YE.out];omega) rfl (by omega) (by omega) Xm HR10.out ((XN.out w10 HB10.out).take k) HN10.out;have HCP:=Z9 hcp;clear Xm hcp;go_wp2_with fail;obtain⟨cz,Sx⟩:∃cz,cz=cmpN X (V*dg):=⟨_,rfl⟩
     have HCP2:=HCP.out;rw[←Sx]at HCP2;refine HCP2.mono ?_;rintro e w11 ⟨rfl,q11,Vc⟩;have hb11:Below w7.heap.size w7 w11:=by rw[Vc];exact zav HB10.out q11
     have HN11:Hid (Nums .u32 w11 a10 l10):=by rw[Vc];exact HN10.out.drewN q11
     have HB11:=Z9 hb11;have HCZ:=Z9 Sx;clear Sx Vc hb11 HCP HCP2 HN10 HB8 HB9 HGS;obtain⟨D,hD⟩:∃D,D=X / V:=⟨_,rfl⟩
     have hdgD:(dg=D∧0≤cz∧V*dg=V*D)∨(dg=D+1∧cz<0):=by
      have h1:=HDD.out;rw[←hD]at h1;have h2:=Nat.div_mul_le_self X V;rw[←hD,Nat.mul_comm]at h2
      rcases Nat.lt_or_ge X (V*dg)with h3 |h3
      ·right
       refine⟨?_,by rw[HCZ.out,ze7 h3];omega⟩
       rcases Nat.lt_or_ge D dg with h4 |h4
       ·omega
       ·exfalso
        have:=Nat.mul_le_mul_left V h4;omega
      ·left
       have h4:dg≤D:=by rw[hD];exact(Nat.le_div_iff_mul_le hVp).2 (by rw[Nat.mul_comm];exact h3)
       have h5:dg=D:=by omega
       refine⟨h5,?_,by rw[h5]⟩;rw[HCZ.out]
       rcases Nat.lt_or_ge (V*dg) X with h6 |h6
       ·rw[zdw h6];omega
       ·rw[zfw (by omega)];omega
     have Yq:=Z9 hdgD;have HDX:=Z9 hD;have hDb:D<1000000000:=by rw[hD];have:=zdd;omega
     clear hdgD hD hDlt
     go_upto_if 131 with(fail)
     go_cut [13,14] (fun d13 p14 wx=>d13=.int .u64 (D:Int)∧MagAt wx p14 (V*D)∧Below w7.heap.size w7 wx)
     case first=>as_aux_lemma =>
      rcases Yq.out with⟨h1,h2,h3⟩ |⟨h1,h2⟩
      ·have t2:decide (cz<0)=false:=by simp;omega
       have H1:=Z9 h1;have H3:=Z9 h3;clear h1 h3;go_wp2_with fail;go_meet;exact⟨by rw[H1.out],⟨a10,c10,l10,rfl,Su,HN11.out,by rw[←H3.out];exact HR10.out⟩,HB11.out⟩
      ·have t2:decide (cz<0)=true:=by simp;omega
       subst h1;have e1:(((D+1:Nat):Int))=(D:Int)+1:=by omega
       rw[e1];clear e1;go_wp2_with fail;refine(zk1 w11 D (by have:=zdd;omega)).mono ?_;rintro e w12 ⟨⟨v12,l12,rfl,Uc,U8⟩,Ul⟩;have hb12:Below w7.heap.size w7 w12:=by rw[←Ul];exact HB11.out.alloc HB11.out.size _
       obtain⟨a12,c12,rfl,SG,hc12,Ua⟩:=zau Uc;have hlen12:l12.length≤1:=zb9 l12 D 1 U8 (by have:=zdd;simp;omega);have HT12:=Z9 (HTV.out w12 a12 l12.length c12 l12 D hb12 rfl (by omega) U8 Ua);have HB12:=Z9 hb12;clear Uc U8 Ul hb12 SG Ua;go_wp2_with fail;refine HT12.out.mono ?_;rintro e w13 ⟨v13,l13,rfl,Ud,Uf,TM⟩;have HM13:=Z9 (MagAt.of_own Ud Uf);have HB13:=Z9 (HB12.out.trans (TM.mono HB12.out.size));clear Ud Uf TM;go_wp2_with fail;go_meet;exact⟨rfl,HM13.out,HB13.out⟩
     case rest=>as_aux_lemma =>
      obtain⟨rfl,SI,TN⟩:=hcut;obtain⟨w14,SS⟩:∃w14:World,w14=wc:=⟨_,rfl⟩
      subst SS;obtain⟨a14,c14,l14,rfl,hc14,Ub,U9⟩:=SI;have HB14:=Z9 TN;have HN14:=Z9 Ub;have HR14:=Z9 U9
      have hlen14:l14.length≤200000:=by
       have h1:=zb9 l14 _ (p+2+1) U9 (by
        have h2:=zi7 vl _ RR5.out;rw[HVL.out,←HVV.out]at h2;rw[Nat.pow_succ]
        exact Nat.mul_lt_mul_of_lt_of_lt h2 (by have:=zdd;omega))
       omega
      clear TN Ub U9 HCZ Yq HN11 HB11 HRK;go_wp2_with fail;rw[show j+(p+2)+1-j=p+2+1 by omega];refine(HTU.out w14 HB14.out).mono ?_;rintro e w' ⟨⟨k2,YC,rfl,Xm⟩,rfl⟩;rw[HX2.out]at Xm;have hXV:X=V*D+X % V:=by rw[HDX.out];exact(Nat.div_add_mod X V).symm
      have Wn:=zna (some ⟨gu,j,none⟩) a14 k2 l14.length (cu-j) c14 (((uu.drop j).take (p+2+1)).take k2) l14 w14 (by rw[List.length_take,YE.out];omega) rfl (by omega) (by
       have h1:=zel _ _ X (V*D) Xm HR14.out (by omega)
       rwa [List.length_take,YE.out,show min k2 (p+2+1)=k2 by omega]at h1) Xm.1 HR14.out.1 (by rw[Xm.2.2,HR14.out.2.2];omega) ((XN.out w14 HB14.out).take k2) HN14.out
      rw[Xm.2.2,HR14.out.2.2,show X-V*D=X % V by omega]at Wn;have HMN:=Z9 Wn;clear Xm Wn hXV;go_wp2_with fail;refine HMN.out.mono ?_;rintro e w15 ⟨v15,L,rfl,U3,SQ,TO⟩;obtain⟨aL,cL,rfl,_,hcL,_⟩:=zau U3;have HB15:=Z9 (HB14.out.trans (TO.mono HB14.out.size));have VC:=Z9 U3;have HRL:=Z9 SQ
      have hLl:L.length≤200000:=by
       have h1:=zb9 L _ (p+2) SQ (by
        have h2:=zi7 vl _ RR5.out;rw[HVL.out,←HVV.out]at h2
        exact Nat.lt_trans (Nat.mod_lt _ hVp) h2)
       omega
      have hgu14:gu<w14.heap.size:=Nat.lt_of_lt_of_le RU.out.lt HB14.out.size;clear U3 SQ TO HMN HN14 HR14 HB14;have hru15:=RU.out.below HB15.out RU.out.lt;have hst3:CpR w15 gu j p uu L (.int .i64 0) w15:=⟨0,Nat.zero_le _,rfl,by rw[zt8];exact hru15,zb5 _ _⟩;have HST3:=Z9 hst3;clear hst3 hru15;obtain⟨kL,SE⟩:∃kL,kL=L.length:=⟨_,rfl⟩
      rw[←SE]at VC hLl hcL ⊢;have HKL:=Z9 SE;clear SE;go_wp2_with fail;go_loopw [152] (CpR w15 gu j p uu L) (fun i _=>p+3-(intOf i).toNat)
      case atStart=>exact HST3.out
      case round =>
       obtain⟨w16,rfl⟩:∃w16:World,w16=wr:=⟨_,rfl⟩
       obtain⟨i,hi3,rfl,UH,Uz⟩:=hrel;have RU16:=Z9 UH;have GW:=Z9 Uz;clear UH Uz HST3;have Vm:Below w.heap.size w w16:=(HB7.out.trans (HB15.out.mono HB7.out.size)).grown GW.out (by have:=HB7.out.size;have:=HB15.out.size;omega) (fun k hk=>by injection hk with hk;omega);have HBW:=Z9 Vm;clear Vm
       by_cases Z7:i<p+3
       ·have hji:j+i<n+1:=by omega
        have hul2:(ucp uu L j i).length=n+1:=by rw[zry _ _ _ _ (by rw[HUL.out];omega)];exact HUL.out
        obtain⟨xo,hxo⟩:∃xo:Nat,w16.cell? ⟨gu,j+i,none⟩=some (.int .u32 (xo:Int)) :=
         ⟨_,by rw[RU16.out.cell (by rw[za5];omega),zbr _ _ _ (by omega)]⟩
        have Wf:w16.frozen? ⟨gu,j+i,none⟩=false:=RU16.out.frozen (j+i);have hstep:=zx0 uu L j i (by rw[HUL.out];omega);have HSTEP:=Z9 hstep;clear hstep hul2
        have X4:∀x:Nat,RowAt (w16.setCell ⟨gu,j+i,none⟩ (.int .u32 (x:Int))) gu 247 (nums .u32 ((ucp uu L j i).set (j+i) x)):=fun x=>by
         rw[←ze0];exact RU16.out.set (j+i) _
        have HSET:=Z9 X4;clear X4
        by_cases hiL:i<kL
        ·have hnL:Nums .u32 w16 aL L:=by
          have:=VC.out.kept GW.out (.inr (fun h=>by have:=(VC.out.lt gu h).1;omega));obtain⟨aL',cL',e1,_,_,e2⟩:=zau this
          injection e1 with e1 _ _
          rw[e1];exact e2
         obtain⟨gL,oL,rfl,hgL,Zv⟩:=hnL i (by have:=HKL.out;omega)
         have SA:gL≠gu:=by
          intro h;subst h
          rcases zbd VC.out with⟨h0,_⟩ |⟨g',c',e1,hb',_⟩
          ·injection h0 with h0;cases h0
          ·injection e1 with e1 _ _;injection e1 with e1;injection e1 with e1 _;omega
         obtain⟨x,hx⟩:∃x,x=L.getD i 0:=⟨_,rfl⟩
         rw[←hx]at Zv
         have hcl2:(w16.setCell ⟨gu,j+i,none⟩ (.int .u32 0)).cell? ⟨gL,oL+i,none⟩=some (.int .u32 (x:Int)):=by
          rw[World.cell?_setCell_other _ _ _ _ (by intro h;injection h with h;exact SA h.symm)];exact Zv
         have VV:(w16.setCell ⟨gu,j+i,none⟩ (.int .u32 0)).cell? ⟨gu,j+i,none⟩=some (.int .u32 0):=World.cell?_setCell_same' _ _ _ (by rw[hxo];rfl);have hfz2:(w16.setCell ⟨gu,j+i,none⟩ (.int .u32 0)).frozen? ⟨gu,j+i,none⟩=false:=by rw[World.frozen?_setCell];exact Wf
         have HX3:=Z9 hx;clear hx hnL Zv;go_wp2_with fail;go_roundw
         case rel =>
          refine⟨i+1,by omega,by go_num,?_,za1 (za1 GW.out (.inl rfl) _) (.inl rfl) _⟩;have h1:=(HSET.out 0).set (j+i) (.int .u32 (x:Int));rw[ze0,zmo,HX3.out,HSTEP.out]at h1;rw[HX3.out];exact h1
         case measure=>simp[intOf]<;>omega
        ·have Xd:L.getD i 0=0:=zea (by have:=HKL.out;omega)
         have HX0:=Z9 Xd;clear Xd;go_wp2_with fail;go_roundw
         case rel =>
          refine⟨i+1,by omega,by go_num,?_,za1 GW.out (.inl rfl) _⟩;have h1:=HSET.out 0;have h2:=HSTEP.out;rw[HX0.out]at h2;rw[h2]at h1;exact h1
         case measure=>simp[intOf]<;>omega
       ·obtain rfl:i=p+3:=by omega
        have Va:=(RQ.out.below HB15.out RQ.out.lt).kept GW.out (by intro h;injection h with h;omega);have Uh:=(RV.out.below HB15.out RV.out.lt).kept GW.out (by intro h;injection h with h;omega);have hql:q.length=K:=by have:=ZI.out.2.2.1;have:=HK.out;omega
        have hjq:j<K:=by omega
        obtain⟨qo,hqo⟩:∃qo:Nat,w16.cell? ⟨gq,j,none⟩=some (.int .u32 (qo:Int)) :=
         ⟨_,by rw[Va.cell (by rw[za5];omega),zbr _ _ _ (by omega)]⟩
        have Wf:w16.frozen? ⟨gq,j,none⟩=false:=Va.frozen j;have VX:=zz7 u uu q L (B*s) (p+2) j (by have:=HK.out;omega) (by rw[←HVV.out];exact hVp) (by have:=zi7 vl _ RR5.out;rw[HVL.out]at this;omega) ZI.out (by rw[←HXX.out,←HVV.out];exact HRL.out);rw[←HXX.out,←HVV.out,←HDX.out]at VX;have hds2:zp8 u (ucp uu L j (p+3)) (q.set j D) (B*s) (p+2) j:=by rw[←HVV.out];exact VX
        have HDS:=Z9 hds2;have HRQ:=Z9 Va;have HRV:=Z9 Uh;clear Va Uh hql VX hds2;go_wp2_with fail;go_roundw
        case rel =>
         refine⟨j,ucp uu L j (p+3),q.set j D,by omega,rfl,RU16.out.other (by show gu≠gq;omega) _,HRV.out.other (by show gv≠gq;omega) _,?_,HDS.out,HBW.out.setCell (p:=⟨gq,j,none⟩) (by show w.heap.size≤gq;omega) _⟩;rw[←ze0];exact HRQ.out.set j _
        case measure=>simp[intOf]<;>omega
    ·obtain rfl:i=0:=by omega
     have YS:=z4q u uu q (B*s) (p+2) ZI.out
     have hnu:Nums .u32 w7 (some ⟨gu,0,none⟩) uu:=fun e he=>⟨gu,0,rfl,RU.out.lt,by rw[Nat.zero_add,RU.out.cell (by rw[za5];exact he),zbr _ _ _ he]⟩
     have hql:q.length=K:=by have:=ZI.out.2.2.1;have:=HK.out;omega
     have hnq:∀W,Below w7.heap.size w7 W→Nums .u32 W (some ⟨gq,0,none⟩) q:=fun W hW e he=>by
      have hr:=RQ.out.below hW RQ.out.lt;exact⟨gq,0,rfl,hr.lt,by rw[Nat.zero_add,hr.cell (by rw[za5];exact he),zbr _ _ _ he]⟩
     have Tl:=zh9 (some ⟨gu,0,none⟩) (n+1) cu uu w7 HUL.out (by omega) (by omega) ZI.out.2.1 hnu;have HTU:=Z9 Tl;have XN:=Z9 hnu;have HNQ:=Z9 hnq;have HQL:=Z9 hql;have HEND:=Z9 YS;clear Tl hnu hnq hql YS;go_wp2_with fail;refine HTU.out.mono ?_;rintro e w' ⟨⟨k,hk,rfl,Xm⟩,rfl⟩;have Xn:=zmn (some ⟨gu,0,none⟩) k cu s (uu.take k) w7 (by rw[List.length_take,HUL.out];omega) (by omega) Y9 (by omega) Xm.1 (XN.out.take k);rw[Xm.2.2]at Xn;have HSH:=Z9 Xn;clear Xm Xn;go_wp2_with fail;refine HSH.out.mono ?_;rintro e w8 ⟨v8,l8,rfl,ho8,hr8,Xq⟩;have M8:=Z9 (MagAt.of_own ho8 hr8);have HB8:=Z9 Xq;have htq:=zh9 (some ⟨gq,0,none⟩) K K q w8 HQL.out (by omega) (Nat.le_refl _) ZI.out.2.2.2.1 (HNQ.out w8 Xq)
     have HTQ:=Z9 htq;clear ho8 hr8 Xq htq;go_wp2_with fail;refine HTQ.out.mono ?_;rintro e w' ⟨⟨k3,V1,rfl,Ug⟩,rfl⟩;have HR3:=Z9 Ug;clear Ug;go_wp2_with fail;go_ret2;have hun:=z2e A B s Y9;have e1:val u=A*s:=HV.out;refine⟨.slice (some ⟨gq,0,none⟩) k3 K,v8,rfl,⟨some ⟨gq,0,none⟩,K,q.take k3,by rw[List.length_take,HQL.out];congr 1;omega,by rw[List.length_take,HQL.out];omega,(HNQ.out w8 HB8.out).take k3,?_⟩,?_,HB7.out.trans (HB8.out.mono HB7.out.size)⟩
     ·have:=HR3.out
      rw[HEND.out.2,e1,hun.1]at this;exact this
     ·have:=M8.out
      rw[HEND.out.1,e1,hun.2]at this;exact this
end Go.Proofs.YtkobkpepgdddeaaGreatDoor
