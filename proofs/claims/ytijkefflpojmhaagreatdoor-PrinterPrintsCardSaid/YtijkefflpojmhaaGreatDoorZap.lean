/-
  (*out).contract walked: kind 10. No condition but lengths. (*out).contract: whole. No condition but lengths. The reference's Moved: each line moved by two spaces. No condition but the length. The reference's days. No condition but the days. The reference's in, from the contract of Contract. No condition but the size. The reference's Contract: kind 2. No condition but the size. The reference's Contract: kind 3. No condition but the size. The reference's Contract: kind 4. No condition but the size. The reference's Contract: kind 5. No condition but the size. The reference's Contract: kind 6. No condition but the size. The reference's Contract: kind 7. No condition but the size. The reference's Contract: kind 8. No condition but the size. The reference's Contract: kind 9. No condition but the size. The reference's Contract: kind 10. No condition but the size. The reference's Contract: whole. No condition but the size.
-/
import Derived.Test.YtijkefflpojmhaaGreatDoorZao
import Derived.Test.YtijkefflpojmhaaGreatDoorZac
import Derived.Test.YtijkefflpojmhaaGreatDoorZam
import Derived.Test.YtijkefflpojmhaaGreatDoorZal
namespace Go.Proofs.YtijkefflpojmhaaGreatDoor
open Go.RowKit
set_option maxHeartbeats 2000000 in
set_option maxRecDepth 100000 in
theorem contr_10 {Wb:World} {B b n:Nat} {m:Value} (ih:ContrC Wb B b m n) (x:Ct) (hk:x.kind=10) (cs:List Value) (d:Nat) (l:List UInt8) (w:World) (h:CtAt (n+1) Wb cs x) (ho:OkC (n+1) x) (hd:d+x.size≤1000) (he:OutEnv Wb B b m l w) (hlen:l.length+(pcT (n+1) x d).length≤1000000000) :
  Calls Tryz.prog 13 #[.pointer (some ⟨b,0,none⟩),.agg cs.toArray,.int .i64 (d:Int)] w (WrP B b m (l ++ pcT (n+1) x d) w):=by
 obtain ⟨ea,el,ec,da,dl,dc,a,len,cap,rfl,hex,hds,hlen2,hsub⟩:=h
 have hcs:(ctCells x ea el ec da dl dc a len cap).toArray = #[.int .u8 10,.string x.frm,.string x.too,.string x.name,.int .u8 x.expr.kind,.string x.expr.rat,.string x.expr.name,.int .i64 x.expr.date,.slice ea el ec,.int .i64 x.date,.slice da dl dc,.slice a len cap]:=by unfold ctCells;rw [hk]
 rw [hcs]
 obtain ⟨_,hns,hox,hdt,_,hday,hsok⟩:=ho
 obtain ⟨Y,hY⟩:∃ Y,Y=subT d (x.sub.map fun y => pcT n y (d+1)):=⟨_,rfl⟩
 obtain ⟨H,hH⟩:∃ H,H=headT (n+1) x:=⟨_,rfl⟩
 have hpc:pcT (n+1) x d=H ++ Y:=by rw [pcT,if_neg (by omega),if_neg (by omega),if_neg (by omega),hY,hH]
 rw [hpc] at hlen ⊢
 rw [List.length_append] at hlen
 have hlen3:len≤2:=by rw [← hlen2,hns];unfold nSub;split <;> (try split) <;> decide
 have HSUB:=Lib.hid hsub
 have HSOK:=Lib.hid hsok
 have HLE:Hid (∀ k,(subN n d x.sub k).length≤Y.length):=fun k => by rw [hY];exact subN_le _ _ _ _
 have HALL:Hid (∀ k,x.sub.length≤k→subN n d x.sub k=Y):=fun k hk => by rw [hY];exact subN_all _ _ _ _ hk
 have HDS:Hid (∀ y ∈ x.sub,d+1+y.size≤1000):=fun y hy => by have:=Ct.sub_size hy;omega
 have hxp:=x.size_pos
 have hd1:d≤1000:=by omega
 have HLEN2:=Lib.hid hlen2
 have HI:=Lib.hid ih
 have hc0:=CAt.start #[.int .u8 10,.string x.frm,.string x.too,.string x.name,.int .u8 x.expr.kind,.string x.expr.rat,.string x.expr.name,.int .i64 x.expr.date,.slice ea el ec,.int .i64 x.date,.slice da dl dc,.slice a len cap] he
 obtain ⟨W0,hW0⟩:∃ W0,W0=(w.alloc (.cells #[.pointer (some ⟨b,0,none⟩)] 41)).alloc (.cells #[.int .u8 10,.string x.frm,.string x.too,.string x.name,.int .u8 x.expr.kind,.string x.expr.rat,.string x.expr.name,.int .i64 x.expr.date,.slice ea el ec,.int .i64 x.date,.slice da dl dc,.slice a len cap] 29):=⟨_,rfl⟩
 have hW0s:W0.heap.size=w.heap.size+1+1:=by rw [hW0];simp
 rw [← hW0] at hc0
 have HW0:=Lib.hid hW0
 have HC0:=Lib.hid hc0
 have hday2:=hday (by omega)
 have HDS0:Hid (DaysAt Wb da dl x.dates∧(∀ d ∈ x.dates,0≤d∧d≤99999)∧x.dates.length≤200):=⟨hds,hday2.1,hday2.2.1⟩
 have HKX:=Lib.hid hk
 have hH2:H=[119,104,101,110,32] ++ rexT (n+1) x.expr ++ onT x.dates:=by rw [hH];unfold headT wUntil;rw [if_neg (by omega),if_neg (by omega),if_neg (by omega),if_neg (by omega),if_neg (by omega),if_neg (by omega)]
 obtain ⟨E,hE⟩:∃ E,E=rexT (n+1) x.expr:=⟨_,rfl⟩
 rw [← hE] at hH2
 have HXP:Hid (∀ l' W,OutEnv Wb B b m l' W→l'.length+E.length≤1000000000→Calls Tryz.prog 28 #[.pointer (some ⟨b,0,none⟩),.agg #[.int .u8 x.expr.kind,.string x.expr.rat,.string x.expr.name,.int .i64 x.expr.date,.slice ea el ec],.int .i64 0] W (WrP B b m (l' ++ E) W)):=fun l' W hW hl' => by
  have:=expr_all Wb B b m (n+1) x.expr _ 0 l' W hex (hox (by rw [hk];unfold HasEx;omega)).1 (by omega) (by omega) hW (by rw [pex_0,← hE];exact hl')
  rwa [pex_0,← hE] at this
 have hHl:5+E.length≤H.length:=by rw [hH2];simp only [List.length_append,List.length_cons,List.length_nil];omega
 have HH2:=Lib.hid hH2
 have u0:=ins_at W0 (ByteArray.mk #[117,110,116,105,108,32])
 have u1:=ins_atf W0 (ByteArray.mk #[117,110,116,105,108,32]) (ByteArray.mk #[119,104,101,110,32])
 have lk:=lok_two (alloc_at W0 (twoM (ByteArray.mk #[117,110,116,105,108,32]) (ByteArray.mk #[119,104,101,110,32]))) false
 rw [hW0s] at u0 u1 lk
 have lk2:LokR (W0.alloc (twoM (ByteArray.mk #[117,110,116,105,108,32]) (ByteArray.mk #[119,104,101,110,32]))) (w.heap.size+1+1) false (ByteArray.mk #[119,104,101,110,32]):=lk
 have hmm := @run_makeMap Tryz.prog
 have hcv:=hc0.below (own_below W0 (twoM (ByteArray.mk #[117,110,116,105,108,32]) (ByteArray.mk #[119,104,101,110,32])))
 obtain ⟨V,hV⟩:∃ V,V=W0.alloc (twoM (ByteArray.mk #[117,110,116,105,108,32]) (ByteArray.mk #[119,104,101,110,32])):=⟨_,rfl⟩
 have hVs:V.heap.size=w.heap.size+1+1+1:=by rw [hV,World.size_alloc,hW0s]
 rw [← hV] at hcv
 have HCV:=Lib.hid hcv
 have HP0:=Lib.hid (put1 B b m l (ByteArray.mk #[119,104,101,110,32]) V hcv.env.out (by show l.length+5≤_;omega) hcv.env.size)
 rw [hVs] at HP0
 rw [hW0] at u0 u1 lk2 hV
 have HV:=Lib.hid hV
 obtain ⟨c0,c1,c2,c3,c4,c5,c6,c7,c8,c9,ca,cb⟩:=ctBox hc0.cbx
 have o0:=exCell hc0.obx 0
 clear ih hsub hsok hlen2 hY hpc hH hH2 hns hox hdt hday hcs hex hds hW0 hc0 hE lk hV hcv hday2
 go_enter Tryz.func13,Tryz.ntmps13
 go_wp2_with fail
 rw [← HV.out]
 with_reducible refine HP0.out.mono ?_
 rintro e w1 ⟨rfl,hio1,hok1⟩
 have HC1:=Lib.hid (HCV.out.step hio1 hok1)
 have HP1:=Lib.hid (HXP.out _ w1 HC1.out.env (by simp only [List.length_append];show l.length+5+_≤_;omega))
 clear hio1 hok1 c0 c1 c2 c3 c4 c5 c6 c7 c8 c9 ca cb o0 u0 u1 lk2
 obtain ⟨c0,c1,c2,c3,c4,c5,c6,c7,c8,c9,ca,cb⟩:=ctBox HC1.out.cbx
 have o0:=exCell HC1.out.obx 0
 go_wp2_with fail
 with_reducible refine HP1.out.mono ?_
 rintro e w2 ⟨rfl,hio2,hok2⟩
 have HC2:=Lib.hid (HC1.out.step hio2 hok2)
 clear hio2 hok2 c0 c1 c2 c3 c4 c5 c6 c7 c8 c9 ca cb o0
 have HDT:=Lib.hid (dates_any (Wb:=Wb) (B:=B) (b:=b) (bc:=w.heap.size+1) (bo:=w.heap.size) (m:=m) x ea el ec da dl dc a len cap (_) w2 HC2.out.env HDS0.out.1 HDS0.out.2.1 HDS0.out.2.2 (by simp only [List.length_append];show l.length+5+_≤_;omega) (by rw [HKX.out];exact HC2.out.cbx) HC2.out.obx (by have:=HC2.out.lt;omega) (by have:=HC2.out.lt;omega))
 obtain ⟨c0,c1,c2,c3,c4,c5,c6,c7,c8,c9,ca,cb⟩:=ctBox HC2.out.cbx
 have o0:=exCell HC2.out.obx 0
 go_wp2_with fail
 with_reducible refine HDT.out.mono ?_
 rintro e w3 ⟨rfl,hioN,hokN⟩
 have HCE:=Lib.hid (CAt.cast (l':=l ++ H) (by rw [HH2.out];simp [List.append_assoc]) (HC2.out.step hioN hokN))
 clear hioN hokN c0 c1 c2 c3 c4 c5 c6 c7 c8 c9 ca cb o0
 obtain ⟨c0,c1,c2,c3,c4,c5,c6,c7,c8,c9,ca,cb⟩:=ctBox HCE.out.cbx
 have o0:=exCell HCE.out.obx 0
 go_wp2_with fail
 go_loopw [119] (fun iv wr => ∃ k:Nat,k≤len∧iv = .int .i64 (k:Int)∧CAt Wb B b m w #[.int .u8 10,.string x.frm,.string x.too,.string x.name,.int .u8 x.expr.kind,.string x.expr.rat,.string x.expr.name,.int .i64 x.expr.date,.slice ea el ec,.int .i64 x.date,.slice da dl dc,.slice a len cap] (l ++ (H ++ subN n d x.sub k)) wr) (fun iv _ => len - (intOf iv).toNat)
 case atStart => exact ⟨0,Nat.zero_le _,rfl,by simpa [subN,subT] using HCE.out⟩
 case round =>
  clear c0 c1 c2 c3 c4 c5 c6 c7 c8 c9 ca cb o0
  obtain ⟨v1,rfl⟩:∃ w1:World,w1=wr:=⟨_,rfl⟩
  obtain ⟨k,hk,rfl,hcat⟩:=hrel
  have HCA:=Lib.hid hcat
  have o0:=exCell hcat.obx 0
  by_cases hlt:k < len
  ·have hlt2:k < x.sub.length:=by rw [HLEN2.out];exact hlt
   rcases HSUB.out with h0 | ⟨g,o,ha,hg,hel⟩
   ·omega
   ·subst ha
    have HT:=Lib.hid (subN_succ n d x.sub k hlt2)
    have hqk:=HLE.out (k+1)
    rw [HT.out] at hqk
    obtain ⟨y,hy,eap,elp,ecp,dap,dlp,dcp,ap,lenp,capp,⟨e0,e1,e2,e3,e4,e5,e6,e7,e8,e9,ea_,eb_⟩,hx⟩:=(parts_old (B:=B) (b:=b) hcat.env.base hcat.env.old hg hel).elem (OutK.refl _ _ _) hlt2
    rw [← hy] at HT hqk
    have hym:y ∈ x.sub:=by rw [hy];exact List.getElem_mem _
    have HOY:=Lib.hid (HSOK.out y hym)
    have HDY:=Lib.hid (HDS.out y hym)
    have HX:=Lib.hid hx
    have q0:((k:Int) == 0)=decide (k=0):=by by_cases h:k=0 <;> simp [h]
    obtain ⟨p,hp⟩:∃ p:ByteArray,p=if decide (k=0)=true then ByteArray.mk #[32] else ByteArray.mk #[32,101,108,115,101,32]:=⟨_,rfl⟩
    have hps:(if decide (k=0)=true then [32] else [32,101,108,115,101,32])=p.data.toList:=by rw [hp];split <;> rfl
    rw [hps] at HT hqk
    have hpl:p.data.toList.length=p.size:=by simp
    have u0:=ins_at (v1.alloc (.cells #[.int .u8 y.kind,.string y.frm,.string y.too,.string y.name,.int .u8 y.expr.kind,.string y.expr.rat,.string y.expr.name,.int .i64 y.expr.date,.slice eap elp ecp,.int .i64 y.date,.slice dap dlp dcp,.slice ap lenp capp] 29)) (ByteArray.mk #[32])
    have u1:=ins_atf (v1.alloc (.cells #[.int .u8 y.kind,.string y.frm,.string y.too,.string y.name,.int .u8 y.expr.kind,.string y.expr.rat,.string y.expr.name,.int .i64 y.expr.date,.slice eap elp ecp,.int .i64 y.date,.slice dap dlp dcp,.slice ap lenp capp] 29)) (ByteArray.mk #[32]) (ByteArray.mk #[32,101,108,115,101,32])
    have lk:=lok_two (alloc_at (v1.alloc (.cells #[.int .u8 y.kind,.string y.frm,.string y.too,.string y.name,.int .u8 y.expr.kind,.string y.expr.rat,.string y.expr.name,.int .i64 y.expr.date,.slice eap elp ecp,.int .i64 y.date,.slice dap dlp dcp,.slice ap lenp capp] 29)) (twoM (ByteArray.mk #[32]) (ByteArray.mk #[32,101,108,115,101,32]))) (decide (k=0))
    rw [← hp] at lk
    rw [World.size_alloc] at u0 u1 lk
    obtain ⟨q,hq⟩:∃ q,q=decide (k=0):=⟨_,rfl⟩
    rw [← hq] at q0 lk
    have hmm := @run_makeMap Tryz.prog
    have HBX:=Lib.hid (alloc_at v1 (.cells #[.int .u8 y.kind,.string y.frm,.string y.too,.string y.name,.int .u8 y.expr.kind,.string y.expr.rat,.string y.expr.name,.int .i64 y.expr.date,.slice eap elp ecp,.int .i64 y.date,.slice dap dlp dcp,.slice ap lenp capp] 29))
    have hcb:=HCA.out.below (own_below v1 (.cells #[.int .u8 y.kind,.string y.frm,.string y.too,.string y.name,.int .u8 y.expr.kind,.string y.expr.rat,.string y.expr.name,.int .i64 y.expr.date,.slice eap elp ecp,.int .i64 y.date,.slice dap dlp dcp,.slice ap lenp capp] 29))
    have HBV:=Lib.hid (own_below (v1.alloc (.cells #[.int .u8 y.kind,.string y.frm,.string y.too,.string y.name,.int .u8 y.expr.kind,.string y.expr.rat,.string y.expr.name,.int .i64 y.expr.date,.slice eap elp ecp,.int .i64 y.date,.slice dap dlp dcp,.slice ap lenp capp] 29)) (twoM (ByteArray.mk #[32]) (ByteArray.mk #[32,101,108,115,101,32])))
    have hcv:=hcb.below HBV.out
    obtain ⟨V,hV⟩:∃ V,V=(v1.alloc (.cells #[.int .u8 y.kind,.string y.frm,.string y.too,.string y.name,.int .u8 y.expr.kind,.string y.expr.rat,.string y.expr.name,.int .i64 y.expr.date,.slice eap elp ecp,.int .i64 y.date,.slice dap dlp dcp,.slice ap lenp capp] 29)).alloc (twoM (ByteArray.mk #[32]) (ByteArray.mk #[32,101,108,115,101,32])):=⟨_,rfl⟩
    have hVs:V.heap.size=v1.heap.size+1+1:=by rw [hV];simp
    have hbx:V.heap[v1.heap.size]? = some (.cells #[.int .u8 y.kind,.string y.frm,.string y.too,.string y.name,.int .u8 y.expr.kind,.string y.expr.rat,.string y.expr.name,.int .i64 y.expr.date,.slice eap elp ecp,.int .i64 y.date,.slice dap dlp dcp,.slice ap lenp capp] 29):=by rw [hV];exact heap_two ..
    rw [← hV] at hcv
    have HCV:=Lib.hid hcv
    have HBXV:=Lib.hid hbx
    have hbw:=hcat.env.lt
    have hbo:=(Array.getElem?_eq_some_iff.1 hcat.obx).1
    have hbc:=(Array.getElem?_eq_some_iff.1 hcat.cbx).1
    have hl0:0≤(subN n d x.sub k).length:=Nat.zero_le _
    simp only [List.length_append] at hqk
    have HPP:=Lib.hid (put1 B b m _ p V hcv.env.out (by simp only [List.length_append];omega) hcv.env.size)
    rw [hVs] at HPP
    have HV:=Lib.hid hV
    clear hy hym hx hp hps hq hcb hcv hV hbx hcat hel HBV HBX
    have L0:(0:Int)≤(k:Int):=by omega
    have L1:(k:Int) < (len:Int):=by omega
    have HK0:Hid (k=0 ∨ ¬ k=0):=Lib.hid (by omega)
    go_wp2_with fail
    rw [← HV.out]
    with_reducible refine HPP.out.mono ?_
    rintro e v2 ⟨rfl,hio2,hok2⟩
    have HC2:=Lib.hid (HCV.out.step hio2 hok2)
    have hbx2:=ctbox_kept HBXV.out hok2 (by omega)
    have o0:=exCell HC2.out.obx 0
    have hc3:=HC2.out.below (own_below v2 (.cells #[.int .u8 y.kind,.string y.frm,.string y.too,.string y.name,.int .u8 y.expr.kind,.string y.expr.rat,.string y.expr.name,.int .i64 y.expr.date,.slice eap elp ecp,.int .i64 y.date,.slice dap dlp dcp,.slice ap lenp capp] 29))
    have HBR:=Lib.hid (braces_of HI.out d (ByteArray.mk #[]) (by decide) [y] v2.heap.size 0 1 1 _ _ rfl (by omega) hc3.env (parts_one HX.out HC2.out.env.lt) (fun z hz => by rw [List.mem_singleton.1 hz];exact HOY.out) (fun z hz => by rw [List.mem_singleton.1 hz];exact HDY.out) hd1 (by
     show _+(brT d [] [pcT n y (d+1)]).length≤_
     simp only [List.length_append];omega))
    obtain ⟨c0,c1,c2,c3,c4,c5,c6,c7,c8,c9,ca,cb⟩:=ctBox hbx2
    have HC3:=Lib.hid hc3
    clear hio2 hok2 hbx2 hc3 u0 u1 lk
    go_wp2_with fail
    with_reducible refine HBR.out.mono ?_
    rintro e v3 ⟨rfl,hio3,hok3⟩
    have HC4:=Lib.hid (CAt.cast (l':=l ++ (H ++ subN n d x.sub (k+1))) (by rw [HT.out];simp [List.append_assoc]) (HC3.out.step hio3 hok3))
    clear hio3 hok3 c0 c1 c2 c3 c4 c5 c6 c7 c8 c9 ca cb o0
    go_wp2_with fail
    go_roundw
    case rel => exact ⟨k+1,hlt,by go_num,HC4.out⟩
    case measure => simp [intOf] <;> omega
  ·have HE:Hid (subN n d x.sub k=Y):=HALL.out k (by rw [HLEN2.out];omega)
   have HF:Hid (WrP B b m (l ++ (H ++ Y)) w (.returned (.tuple #[])) v1):=by
    have:=HCA.out
    rw [HE.out] at this
    exact ⟨rfl,this.env.out,this.kept⟩
   clear hcat
   go_wp2_with fail
   go_end0
   exact HF.out
end Go.Proofs.YtijkefflpojmhaaGreatDoor

namespace Go.Proofs.YtijkefflpojmhaaGreatDoor
open Go.RowKit
theorem contr_all (Wb:World) (B b:Nat) (m:Value):∀ n,ContrC Wb B b m n:=by
 intro n
 induction n with
 | zero => intro x cs d l w h;exact h.elim
 | succ n ih =>
  intro x cs d l w h ho hd he hl
  have hk:x.kind=1 ∨ x.kind=2 ∨ x.kind=3 ∨ x.kind=4 ∨ x.kind=5 ∨ x.kind=6 ∨ x.kind=7 ∨ x.kind=8 ∨ x.kind=9 ∨ x.kind=10:=by have:=ho.1;omega
  rcases hk with k | k | k | k | k | k | k | k | k | k
  ·exact contr_1 ih x k cs d l w h ho hd he hl
  ·exact contr_2 ih x k cs d l w h ho hd he hl
  ·exact contr_3 ih x k cs d l w h ho hd he hl
  ·exact contr_4 ih x k cs d l w h ho hd he hl
  ·exact contr_5 ih x k cs d l w h ho hd he hl
  ·exact contr_6 ih x k cs d l w h ho hd he hl
  ·exact contr_7 ih x k cs d l w h ho hd he hl
  ·exact contr_8 ih x k cs d l w h ho hd he hl
  ·exact contr_9 ih x k cs d l w h ho hd he hl
  ·exact contr_10 ih x k cs d l w h ho hd he hl
end Go.Proofs.YtijkefflpojmhaaGreatDoor

namespace Go.Proofs.YtijkefflpojmhaaGreatDoor
open Go.RowKit
def mvN (l:List UInt8) (k:Nat):List UInt8:=[32,32] ++ ind 2 (l.take k)
theorem mvN_succ (l:List UInt8) (k:Nat) (h:k < l.length):mvN l (k+1)=mvN l k ++ [l[k]] ++ (if l[k]=10 then [32,32] else []):=by
 unfold mvN
 rw [List.take_succ_eq_append_getElem h,ind_append,ind_cons,ind_nil]
 by_cases h10:l[k]=10
 ·rw [if_pos h10,if_pos h10,h10];simp
 ·rw [if_neg h10,if_neg h10];simp
theorem mvN_len (l:List UInt8) (k:Nat) (h:k≤l.length):(mvN l k).length≤2+3*k:=by
 induction k with
 | zero => simp [mvN,ind_nil]
 | succ k ih =>
  have:=ih (by omega)
  rw [mvN_succ l k (by omega),List.length_append,List.length_append]
  split <;> simp <;> omega
theorem mvN_all (l:List UInt8) (k:Nat) (h:l.length≤k):mvN l k=mvT l:=by
 unfold mvN mvT;rw [List.take_of_length_le h]
def MvR (w:World) (s:ByteArray) (v iv:Value) (W:World):Prop :=
 ∃ k:Nat,k≤s.size∧iv = .int .i64 (k:Int)∧W.ownsRow w.heap.size 5 1 v (mvN s.data.toList k).length (bytesV (mvN s.data.toList k))∧Below w.heap.size w W
theorem bytesV_app (a b:List UInt8):bytesV (a ++ b)=bytesV a ++ bytesV b:=by simp [bytesV]
theorem owns_two (w:World):(w.alloc (.cells #[.int .u8 32,.int .u8 32] 5)).ownsRow w.heap.size 5 1 (.slice (some ⟨w.heap.size,0,none⟩) 2 2) 2 (bytesV [32,32]) :=
 ⟨rfl,.inr ⟨w.heap.size,2,#[.int .u8 32,.int .u8 32],rfl,Nat.le_refl _,alloc_at _ _,by decide,by decide,rfl,rfl⟩⟩
set_option maxHeartbeats 1000000 in
set_option maxRecDepth 100000 in
theorem rmoved_any (s:ByteArray) (w:World) (hs:s.size≤30000000):Calls Tryz.prog 37 #[.string s] w (RxP w (mvT s.data.toList)):=by
 obtain ⟨i0,hi,hz0,hz1,hz2⟩:=info_parts infoB8
 have hsz:s.data.toList.length=s.size:=by simp
 have H0:Hid (MvR w s (.slice (some ⟨w.heap.size,0,none⟩) 2 2) (.int .i64 0) (w.alloc (.cells #[.int .u8 32,.int .u8 32] 5))):=⟨0,Nat.zero_le _,rfl,owns_two w,own_below w _⟩
 go_enter Tryz.func37,Tryz.ntmps37
 go_wp2_with fail
 go_loopw [3,4] (fun v iv wr => MvR w s v iv wr) (fun _ iv _ => s.size - (intOf iv).toNat)
 case atStart => exact H0.out
 case round =>
  clear H0
  obtain ⟨w1,rfl⟩:∃ w1:World,w1=wr:=⟨_,rfl⟩
  obtain ⟨k,hk,rfl,ho,hb⟩:=hrel
  have HO:=Lib.hid ho
  have HB:=Lib.hid hb
  have hbs:=hb.size
  have hml:=mvN_len s.data.toList k (by omega)
  clear ho hb
  by_cases hlt:k < s.size
  ·have hlt2:k < s.data.toList.length:=by omega
   have HT:=Lib.hid (mvN_succ s.data.toList k hlt2)
   have hel:s.data.toList[k]=s[k]:=rfl
   rw [hel] at HT
   have k0:(0:Int)≤(k:Int):=by omega
   have k1:(k:Int) < (s.size:Int):=by omega
   obtain ⟨M,hM⟩:∃ M,M=mvN s.data.toList k:=⟨_,rfl⟩
   rw [← hM] at HT HO hml
   clear hM hel
   by_cases h10:s[k]=10
   ·have q10:(((s[k]'hlt).toNat:Int) == 10)=true:=by rw [h10];rfl
    rw [if_pos h10] at HT
    have HE:Hid (Value.int .u8 ((s[k]'hlt).toNat:Int) = .int .u8 10):=by show _=_;rw [h10];rfl
    clear h10
    go_wp2_with (at_builtin;refine wpList_append_own _ rfl (.tmp 12) (.tmp 16) 45 rfl w.heap.size 5 i0 (.int .u8 0) 1 1 Tryz.underlying45 hi hz0 hz1 hz2 rfl (by decide) _ _ _ rfl (HO.out.alloc _) ⟨w1.heap.size,0,none⟩ 1 1 [.int .u8 ((s[k]'hlt).toNat:Int)] rfl rfl ?c1 ?c2 ?c3 ?c4 ?c5 ?_)
    case c1 =>
     intro j u hj
     match j,hj with
     | 0,hj => simp at hj;subst hj;simp [Addr.add]
     | (j+1),hj => simp at hj
    case c2 => intro u hu;simp at hu;subst hu;rfl
    case c3 => unfold maxLen;omega
    case c4 => omega
    case c5 => simp;omega
    intro v2 w2 ho2 hg2 hn2
    have HB2:Hid (Below w.heap.size w w2):=(HB.out.alloc hbs _).grown hg2 (by simp;omega) (fun k hk => (HO.out.lt k hk).1)
    have ho2':w2.ownsRow w.heap.size 5 1 v2 (M.length+1) (bytesV (M ++ [s[k]'hlt])):=by rw [bytesV_app];exact ho2
    have HO2:=Lib.hid ho2'
    have hbs2:=HB2.out.size
    clear ho2 ho2' hg2 hn2
    go_wp2_with (at_builtin;refine wpList_append_own _ rfl (.tmp 22) (.tmp 23) 45 rfl w.heap.size 5 i0 (.int .u8 0) 1 1 Tryz.underlying45 hi hz0 hz1 hz2 rfl (by decide) _ _ _ rfl (HO2.out.alloc _) ⟨w2.heap.size,0,none⟩ 2 2 [.int .u8 32,.int .u8 32] rfl rfl ?c1 ?c2 ?c3 ?c4 ?c5 ?_)
    case c1 =>
     intro j u hj
     match j,hj with
     | 0,hj => simp at hj;subst hj;simp [Addr.add]
     | 1,hj => simp at hj;subst hj;simp [Addr.add]
     | (j+2),hj => simp at hj
    case c2 => intro u hu;simp at hu;subst hu;rfl
    case c3 => unfold maxLen;omega
    case c4 => omega
    case c5 => simp;omega
    intro v3 w3 ho3 hg3 hn3
    have HB3:Hid (Below w.heap.size w w3):=(HB2.out.alloc hbs2 _).grown hg3 (by simp;omega) (fun k hk => (HO2.out.lt k hk).1)
    have HO3:Hid (w3.ownsRow w.heap.size 5 1 v3 (mvN s.data.toList (k+1)).length (bytesV (mvN s.data.toList (k+1)))):=by
     show World.ownsRow ..
     rw [HT.out,bytesV_app,List.length_append,List.length_append]
     exact ho3
    clear ho3 hg3 hn3
    go_wp2_with fail
    go_roundw
    case rel => exact ⟨k+1,hlt,by go_num,HO3.out,HB3.out⟩
    case measure => simp [intOf] <;> omega
   ·have q10:(((s[k]'hlt).toNat:Int) == 10)=false:=by
     rw [beq_eq_false_iff_ne]
     intro e
     exact h10 (UInt8.toNat_inj.1 (by have:(10:UInt8).toNat=10:=rfl;omega))
    rw [if_neg h10,List.append_nil] at HT
    clear h10
    go_wp2_with (at_builtin;refine wpList_append_own _ rfl (.tmp 12) (.tmp 16) 45 rfl w.heap.size 5 i0 (.int .u8 0) 1 1 Tryz.underlying45 hi hz0 hz1 hz2 rfl (by decide) _ _ _ rfl (HO.out.alloc _) ⟨w1.heap.size,0,none⟩ 1 1 [.int .u8 ((s[k]'hlt).toNat:Int)] rfl rfl ?c1 ?c2 ?c3 ?c4 ?c5 ?_)
    case c1 =>
     intro j u hj
     match j,hj with
     | 0,hj => simp at hj;subst hj;simp [Addr.add]
     | (j+1),hj => simp at hj
    case c2 => intro u hu;simp at hu;subst hu;rfl
    case c3 => unfold maxLen;omega
    case c4 => omega
    case c5 => simp;omega
    intro v2 w2 ho2 hg2 hn2
    have HB2:Hid (Below w.heap.size w w2):=(HB.out.alloc hbs _).grown hg2 (by simp;omega) (fun k hk => (HO.out.lt k hk).1)
    have HO2:Hid (w2.ownsRow w.heap.size 5 1 v2 (mvN s.data.toList (k+1)).length (bytesV (mvN s.data.toList (k+1)))):=by
     show World.ownsRow ..
     rw [HT.out,bytesV_app,List.length_append]
     exact ho2
    clear ho2 hg2 hn2
    go_wp2_with fail
    go_roundw
    case rel => exact ⟨k+1,hlt,by go_num,HO2.out,HB2.out⟩
    case measure => simp [intOf] <;> omega
  ·have hall:=mvN_all s.data.toList k (by omega)
   rw [hall] at HO
   have hcv:=conv_own HO.out 9 Tryz.underlying9
   clear hall hml
   go_wp2_with fail
   go_ret
   exact ⟨rfl,HB.out⟩
end Go.Proofs.YtijkefflpojmhaaGreatDoor

namespace Go.Proofs.YtijkefflpojmhaaGreatDoor
open Go.RowKit
noncomputable def dyN (l:List Int) (k:Nat):List UInt8:=commas ((l.take k).map dtxt)
theorem dyN_one (l:List Int) (h:0 < l.length):dyN l 1=dtxt l[0]:=by
 unfold dyN
 rw [List.take_succ_eq_append_getElem h];simp [commas]
theorem dyN_succ (l:List Int) (k:Nat) (h:k < l.length) (h0:0 < k):dyN l (k+1)=dyN l k ++ ([44,32] ++ dtxt l[k]):=by
 unfold dyN
 rw [List.take_succ_eq_append_getElem h,List.map_append,List.map_singleton,commas_snoc,if_neg (by
  intro e
  have e2:=congrArg List.length e
  rw [List.length_map,List.length_take,List.length_nil] at e2
  omega)]
theorem dyN_len (l:List Int) (k:Nat) (h:k≤l.length):(dyN l k).length≤12*k:=by
 induction k with
 | zero => simp [dyN,commas]
 | succ k ih =>
  have:=ih (by omega)
  by_cases h0:k=0
  ·subst h0
   rw [dyN_one l (by omega),dtxt_len];omega
  ·rw [dyN_succ l k (by omega) (by omega),List.length_append,List.length_append,dtxt_len]
   simp;omega
theorem dyN_all (l:List Int) (k:Nat) (h:l.length≤k):dyN l k=daysT l:=by
 unfold dyN daysT;rw [List.take_of_length_le h]
def DyR (w:World) (l:List Int) (sv iv:Value) (W:World):Prop :=
 ∃ (k:Nat) (s:ByteArray),k≤l.length∧iv = .int .i64 (k:Int)∧sv = .string s∧Hid (s.data.toList=dyN l k)∧Below w.heap.size w W
set_option maxHeartbeats 1000000 in
set_option maxRecDepth 100000 in
theorem rdayl_any (l:List Int) (da:Option Addr) (dl dc:Nat) (w:World) (hd:DaysAt w da dl l) (hok:∀ d ∈ l,0≤d∧d≤99999) (hn:l.length≤200) :
  Calls Tryz.prog 40 #[.slice da dl dc] w (RxP w (daysT l)):=by
 obtain ⟨hdl,hat⟩:=hd
 have HDL:=Lib.hid hdl
 have HAT:=Lib.hid hat
 have HOK:=Lib.hid hok
 have hdb:dl≤200:=by omega
 clear hdl hat hok
 go_enter Tryz.func40,Tryz.ntmps40
 go_wp2_with fail
 go_loopw [3,4] (fun sv iv wr => DyR w l sv iv wr) (fun _ iv _ => dl - (intOf iv).toNat)
 case atStart => exact ⟨0,ByteArray.mk #[],Nat.zero_le _,rfl,rfl,Lib.hid (by simp [dyN,commas]),Below.refl _ _⟩
 case round =>
  obtain ⟨w1,rfl⟩:∃ w1:World,w1=wr:=⟨_,rfl⟩
  obtain ⟨k,s,hk,rfl,rfl,HS,hb⟩:=hrel
  have HB:=Lib.hid hb
  have hkl:k≤dl:=by rw [← HDL.out];exact hk
  by_cases hlt:k < dl
  ·have hlt2:k < l.length:=by rw [HDL.out];exact hlt
   rcases HAT.out with h0 | ⟨g,o,ha,hg,hel⟩
   ·omega
   ·subst ha
    have ek:=hel k hlt
    rw [List.getElem?_eq_getElem hlt2,Option.getD_some] at ek
    have ek1:w1.cell? ⟨g,o+k,none⟩=some (.int .i64 l[k]):=((bcell hb).1 _ _ hg).trans ek
    have hdr:=HOK.out _ (List.getElem_mem hlt2)
    have hl1:=dyN_len l k (by omega)
    have hss:=ba_size HS.out
    have k0i:(0:Int)≤(k:Int):=by omega
    have k1i:(k:Int) < (dl:Int):=by omega
    by_cases hk0:k=0
    ·subst hk0
     have HT:=Lib.hid (dyN_one l hlt2)
     obtain ⟨dd,hdd⟩:∃ d,d=l[0]:=⟨_,rfl⟩
     rw [← hdd] at ek1 hdr HT
     obtain ⟨t,ht⟩:∃ t,t=dS dd:=⟨_,rfl⟩
     have htz:t.data.toList=dtxt dd:=by rw [ht];rfl
     have hts:=ba_size htz
     rw [dtxt_len] at hts
     have HDY:Hid (∀ W,Calls Tryz.prog 39 #[.int .i64 dd] W (fun e w' => e = .returned (.string t)∧Below W.heap.size W w')):=fun W => by rw [ht];exact rdayT_is hdr.1 hdr.2 W
     have HS2:Hid ((s ++ t).data.toList=dyN l (0+1)):=by
      show (s ++ t).data.toList=_
      have h0:dyN l 0=[]:=by simp [dyN,commas]
      have:=HS.out
      rw [h0] at this
      rw [show dyN l (0+1)=dyN l 1 from rfl,HT.out,← htz]
      simp [this]
     simp only [Nat.add_zero] at ek1
     have n1:¬ 9223372036854775807 < s.size+t.size:=by omega
     clear hdd ht htz hel hdr ek hb
     go_wp2_with fail
     refine (HDY.out _).mono ?_
     rintro e w2 ⟨rfl,hb2⟩
     have HB2:=Lib.hid (HB.out.trans (hb2.mono HB.out.size))
     clear hb2
     go_wp2_with fail
     go_roundw
     case rel => exact ⟨0+1,s ++ t,by omega,by go_num,rfl,HS2.out,HB2.out⟩
     case measure => simp [intOf] <;> omega
    ·have HT:=Lib.hid (dyN_succ l k hlt2 (by omega))
     obtain ⟨dd,hdd⟩:∃ d,d=l[k]:=⟨_,rfl⟩
     rw [← hdd] at ek1 hdr HT
     obtain ⟨t,ht⟩:∃ t,t=dS dd:=⟨_,rfl⟩
     have htz:t.data.toList=dtxt dd:=by rw [ht];rfl
     have hts:=ba_size htz
     rw [dtxt_len] at hts
     have HDY:Hid (∀ W,Calls Tryz.prog 39 #[.int .i64 dd] W (fun e w' => e = .returned (.string t)∧Below W.heap.size W w')):=fun W => by rw [ht];exact rdayT_is hdr.1 hdr.2 W
     obtain ⟨s2,hs2⟩:∃ s2:ByteArray,s2=s ++ ByteArray.mk #[44,32]:=⟨_,rfl⟩
     have hs2z:s2.size=s.size+2:=by rw [hs2];simp [ByteArray.size_append];rfl
     have HS2:Hid ((s2 ++ t).data.toList=dyN l (k+1)):=by
      show (s2 ++ t).data.toList=_
      rw [HT.out,← htz,hs2]
      have:=HS.out
      simp [this]
     have HSS:=Lib.hid hs2
     have n2:s.size+2≤3000000:=by omega
     have n1:s2.size+t.size≤3000000:=by omega
     have hdc:decide ((0:Int) < (k:Int))=true:=by simp;omega
     clear hdd ht htz hel hdr ek hb hs2 hs2z
     go_wp2_with fail
     rw [← HSS.out]
     refine (HDY.out _).mono ?_
     rintro e w2 ⟨rfl,hb2⟩
     have HB2:=Lib.hid (HB.out.trans (hb2.mono HB.out.size))
     clear hb2
     go_wp2_with fail
     go_roundw
     case rel => exact ⟨k+1,s2 ++ t,by omega,by go_num,rfl,HS2.out,HB2.out⟩
     case measure => simp [intOf] <;> omega
  ·have HT:=Lib.hid (dyN_all l k (by rw [HDL.out];omega))
   have HF:Hid (s=⟨(daysT l).toArray⟩):=ba_eq (HS.out.trans HT.out)
   clear hb
   go_wp2_with fail
   go_ret
   exact ⟨by rw [HF.out];rfl,HB.out⟩
end Go.Proofs.YtijkefflpojmhaaGreatDoor

namespace Go.Proofs.YtijkefflpojmhaaGreatDoor
open Go.RowKit
def RcC (n:Nat):Prop := ∀ (x:Ct) (cs:List Value) (w:World) (d:Nat),CtAt n w cs x→OkC n x→CSm d x→x.size≤1000 →
  Calls Tryz.prog 16 #[.agg cs.toArray] w (RxP w (rcT n x))
theorem rcT_small {n d:Nat} {x:Ct} (ho:OkC n x) (hs:CSm d x) (hz:x.size≤1000):(rcT n x).length≤20000000∧(mvT (rcT n x)).length≤20010000∧(inT (rcT n x)).length≤20010000:=by
 obtain ⟨h1,h2⟩:=rcT_len n x d ho hs hz
 rw [mvT_len,inT_len]
 omega
set_option maxHeartbeats 1000000 in
set_option maxRecDepth 100000 in
theorem rin_of {n:Nat} (ih:RcC n) (y:Ct) (ea:Option Addr) (el ec:Nat) (da:Option Addr) (dl dc:Nat) (a:Option Addr) (len cap:Nat) (w:World) (d:Nat) (h:CtAt n w [.int .u8 y.kind,.string y.frm,.string y.too,.string y.name,.int .u8 y.expr.kind,.string y.expr.rat,.string y.expr.name,.int .i64 y.expr.date,.slice ea el ec,.int .i64 y.date,.slice da dl dc,.slice a len cap] y) (ho:OkC n y) (hs:CSm d y) (hz:y.size≤1000) :
  Calls Tryz.prog 38 #[.agg #[.int .u8 y.kind,.string y.frm,.string y.too,.string y.name,.int .u8 y.expr.kind,.string y.expr.rat,.string y.expr.name,.int .i64 y.expr.date,.slice ea el ec,.int .i64 y.date,.slice da dl dc,.slice a len cap]] w (RxP w (inT (rcT n y))):=by
 have hB0:=own_below w (.cells #[.int .u8 y.kind,.string y.frm,.string y.too,.string y.name,.int .u8 y.expr.kind,.string y.expr.rat,.string y.expr.name,.int .i64 y.expr.date,.slice ea el ec,.int .i64 y.date,.slice da dl dc,.slice a len cap] 29)
 have hC:=ih y _ (w.alloc (.cells #[.int .u8 y.kind,.string y.frm,.string y.too,.string y.name,.int .u8 y.expr.kind,.string y.expr.rat,.string y.expr.name,.int .i64 y.expr.date,.slice ea el ec,.int .i64 y.date,.slice da dl dc,.slice a len cap] 29)) d (CtAt.below hB0 h) ho hs hz
 have HB0:=Lib.hid hB0
 obtain ⟨l1,l2,l3⟩:=rcT_small ho hs hz
 obtain ⟨t,ht⟩:∃ t:ByteArray,t=⟨(rcT n y).toArray⟩:=⟨_,rfl⟩
 have htl:t.data.toList=rcT n y:=by rw [ht]
 have hts:=ba_size htl
 obtain ⟨m,hm⟩:∃ m:ByteArray,m=⟨(mvT (rcT n y)).toArray⟩:=⟨_,rfl⟩
 have hml:m.data.toList=mvT (rcT n y):=by rw [hm]
 have hms:=ba_size hml
 unfold RxP at hC
 rw [← ht] at hC
 have HC:=Lib.hid hC
 have HM:Hid (∀ W,Calls Tryz.prog 37 #[.string t] W (fun e w' => e = .returned (.string m)∧Below W.heap.size W w')):=fun W => by
  have:=rmoved_any t W (by omega)
  unfold RxP at this
  rwa [htl,← hm] at this
 have HF:Hid (ByteArray.mk #[123,10] ++ m ++ ByteArray.mk #[10,125]=⟨(inT (rcT n y)).toArray⟩):=ba_eq (by unfold inT;simp [hml])
 have n1:¬ 9223372036854775807 < 2+m.size:=by omega
 have n2:¬ 9223372036854775807 < 2+m.size+2:=by omega
 clear hB0 hC ht hm h ho hs hz ih htl hml
 go_enter Tryz.func38,Tryz.ntmps38
 go_wp2_with fail
 refine HC.out.mono ?_
 rintro e w1 ⟨rfl,hb1⟩
 have HB1:=Lib.hid (HB0.out.trans (hb1.mono HB0.out.size))
 clear hb1
 go_wp2_with fail
 refine (HM.out _).mono ?_
 rintro e w2 ⟨rfl,hb2⟩
 have HB2:=Lib.hid (HB1.out.trans (hb2.mono HB1.out.size))
 clear hb2
 go_wp2_with fail
 go_ret
 exact ⟨by rw [← HF.out];rfl,HB2.out⟩
end Go.Proofs.YtijkefflpojmhaaGreatDoor

namespace Go.Proofs.YtijkefflpojmhaaGreatDoor
open Go.RowKit
set_option maxHeartbeats 2000000 in
set_option maxRecDepth 100000 in
theorem rcontr_2 {n:Nat} (_ih:RcC n) (x:Ct) (hk:x.kind=2) (cs:List Value) (w:World) (d:Nat) (h:CtAt (n+1) w cs x) (ho:OkC (n+1) x) (hs:CSm d x) (hz:x.size≤1000) :
  Calls Tryz.prog 16 #[.agg cs.toArray] w (RxP w (rcT (n+1) x)):=by
 obtain ⟨ea,el,ec,da,dl,dc,a,len,cap,rfl,hex,hds,hlen2,hsub⟩:=h
 have hcs:(ctCells x ea el ec da dl dc a len cap).toArray = #[.int .u8 2,.string x.frm,.string x.too,.string x.name,.int .u8 x.expr.kind,.string x.expr.rat,.string x.expr.name,.int .i64 x.expr.date,.slice ea el ec,.int .i64 x.date,.slice da dl dc,.slice a len cap]:=by unfold ctCells;rw [hk]
 rw [hcs]
 match d,hs with
 | d+1,hs =>
 have hzx:=x.expr_size
 obtain ⟨_,hns,hox,hdt,_,hday,hsok⟩:=ho
 obtain ⟨⟨hnm1,hnm2,hnm3,hnd⟩,hsx,hss⟩:=hs
 obtain ⟨W0,hW0⟩:∃ W0,W0=w.alloc (.cells #[.int .u8 2,.string x.frm,.string x.too,.string x.name,.int .u8 x.expr.kind,.string x.expr.rat,.string x.expr.name,.int .i64 x.expr.date,.slice ea el ec,.int .i64 x.date,.slice da dl dc,.slice a len cap] 29):=⟨_,rfl⟩
 have hB0:Below w.heap.size w W0:=by rw [hW0];exact own_below w _
 have hbx:W0.heap[w.heap.size]? = some (.cells #[.int .u8 2,.string x.frm,.string x.too,.string x.name,.int .u8 x.expr.kind,.string x.expr.rat,.string x.expr.name,.int .i64 x.expr.date,.slice ea el ec,.int .i64 x.date,.slice da dl dc,.slice a len cap] 29):=by rw [hW0];exact alloc_at _ _
 obtain ⟨r,hr⟩:∃ v:ByteArray,v=qn x.frm:=⟨_,rfl⟩
 have hrl:r.data.toList=(qn x.frm).data.toList:=by rw [hr]
 have hrs:=ba_size hrl
 have hrn:=qn_len2 x.frm
 obtain ⟨E,hE⟩:∃ v:ByteArray,v=⟨(rexT (n+1) x.expr).toArray⟩:=⟨_,rfl⟩
 have hEl:E.data.toList=rexT (n+1) x.expr:=by rw [hE]
 have hEs:=ba_size hEl
 have hEo:=hox (by unfold HasEx;omega)
 have hEn:=rexT_len (n+1) x.expr _ hEo.1 hsx
 obtain ⟨q,hq⟩:∃ v:ByteArray,v=qn x.name:=⟨_,rfl⟩
 have hql:q.data.toList=(qn x.name).data.toList:=by rw [hq]
 have hqs:=ba_size hql
 have hqn:=qn_len2 x.name
 obtain ⟨u,hu⟩:∃ v:ByteArray,v=qn x.too:=⟨_,rfl⟩
 have hul:u.data.toList=(qn x.too).data.toList:=by rw [hu]
 have hus:=ba_size hul
 have hun:=qn_len2 x.too
 have hR:rcT (n+1) x=r.data.toList ++ [32,112,97,121,115,32] ++ E.data.toList ++ [32] ++ q.data.toList ++ [32,116,111,32] ++ u.data.toList:=by
  rw [rcT,if_neg (by omega),if_pos hk];unfold payT;rw [hrl,hEl,hql,hul]
 have HT:Hid (r ++ ByteArray.mk #[32,112,97,121,115,32] ++ E ++ ByteArray.mk #[32] ++ q ++ ByteArray.mk #[32,116,111,32] ++ u=⟨(rcT (n+1) x).toArray⟩):=ba_eq (by rw [hR];simp)
 have n1:¬ 9223372036854775807 < r.size+6:=by omega
 have n2:¬ 9223372036854775807 < r.size+6+E.size:=by omega
 have n3:¬ 9223372036854775807 < r.size+6+E.size+1:=by omega
 have n4:¬ 9223372036854775807 < r.size+6+E.size+1+q.size:=by omega
 have n5:¬ 9223372036854775807 < r.size+6+E.size+1+q.size+4:=by omega
 have n6:¬ 9223372036854775807 < r.size+6+E.size+1+q.size+4+u.size:=by omega
 have HX:Hid (∀ W,Below W0.heap.size W0 W→Calls Tryz.prog 36 #[.agg #[.int .u8 x.expr.kind,.string x.expr.rat,.string x.expr.name,.int .i64 x.expr.date,.slice ea el ec]] W (fun e w' => e = .returned (.string E)∧Below W.heap.size W w')):=fun W hW => by
  have:=rexpr_all (n+1) x.expr _ W (ExAt.below (hB0.trans (hW.mono hB0.size)) hex) hEo.1 (by omega)
  unfold RxP at this;rwa [← hE] at this
 have HNq:Hid (∀ W,Calls Tryz.prog 35 #[.string x.name] W (fun e w' => e = .returned (.string q)∧Below W.heap.size W w')):=fun W => by rw [hq];exact rqname_any _ W
 have HNr:Hid (∀ W,Calls Tryz.prog 35 #[.string x.frm] W (fun e w' => e = .returned (.string r)∧Below W.heap.size W w')):=fun W => by rw [hr];exact rqname_any _ W
 have HNu:Hid (∀ W,Calls Tryz.prog 35 #[.string x.too] W (fun e w' => e = .returned (.string u)∧Below W.heap.size W w')):=fun W => by rw [hu];exact rqname_any _ W
 obtain ⟨c0,c1,c2,c3,c4,c5,c6,c7,c8,c9,ca,cb⟩:=ctBox hbx
 have c1':=fun p:BelOf W0 => cell_bel c1 p
 have c2':=fun p:BelOf W0 => cell_bel c2 p
 have c3':=fun p:BelOf W0 => cell_bel c3 p
 have c4':=fun p:BelOf W0 => cell_bel c4 p
 have c5':=fun p:BelOf W0 => cell_bel c5 p
 have c6':=fun p:BelOf W0 => cell_bel c6 p
 have c7':=fun p:BelOf W0 => cell_bel c7 p
 have c8':=fun p:BelOf W0 => cell_bel c8 p
 have HB0:=Lib.hid hB0
 have HW:=Lib.hid hW0
 clear hW0 hB0 hbx hcs hR hox hdt hday hsok hsx hss hns hnm1 hnm2 hnm3 hnd hz hzx hlen2 hex hds hsub hr hrl hrs hE hEl hEs hq hql hqs hu hul hus hEo hEn hqn hrn hun
 go_enter Tryz.func16,Tryz.ntmps16
 go_wp2_with fail
 rw [← HW.out]
 clear HW c0 c1 c2 c3 c4 c5 c6 c7 c8 c9 ca cb
 refine region_bel (by kernel_rfl) (by kernel_rfl) ?_
 repeat (quiet_step (first
  | (go_at_call 36;with_reducible exact bel_of (HX.out _ (BelOf.h _)))
  | (go_at_call 35;first | with_reducible exact bel_of (HNq.out _) | with_reducible exact bel_of (HNr.out _) | with_reducible exact bel_of (HNu.out _))))
 refine wpQuiet_nil ?_
 intro w3 hw
 obtain ⟨⟨w4,hb⟩,hw⟩:=hw
 subst hw
 have HC:=Lib.hid hb
 clear hb
 go_wp2_with fail
 go_ret
 exact ⟨by rw [← HT.out];rfl,HB0.out.trans (HC.out.mono HB0.out.size)⟩
end Go.Proofs.YtijkefflpojmhaaGreatDoor

namespace Go.Proofs.YtijkefflpojmhaaGreatDoor
open Go.RowKit
set_option maxHeartbeats 2000000 in
set_option maxRecDepth 100000 in
theorem rcontr_3 {n:Nat} (ih:RcC n) (x:Ct) (hk:x.kind=3) (cs:List Value) (w:World) (d:Nat) (h:CtAt (n+1) w cs x) (ho:OkC (n+1) x) (hs:CSm d x) (hz:x.size≤1000) :
  Calls Tryz.prog 16 #[.agg cs.toArray] w (RxP w (rcT (n+1) x)):=by
 obtain ⟨ea,el,ec,da,dl,dc,a,len,cap,rfl,hex,hds,hlen2,hsub⟩:=h
 have hcs:(ctCells x ea el ec da dl dc a len cap).toArray = #[.int .u8 3,.string x.frm,.string x.too,.string x.name,.int .u8 x.expr.kind,.string x.expr.rat,.string x.expr.name,.int .i64 x.expr.date,.slice ea el ec,.int .i64 x.date,.slice da dl dc,.slice a len cap]:=by unfold ctCells;rw [hk]
 rw [hcs]
 match d,hs with
 | d+1,hs =>
 have hzx:=x.expr_size
 obtain ⟨_,hns,hox,hdt,_,hday,hsok⟩:=ho
 obtain ⟨⟨hnm1,hnm2,hnm3,hnd⟩,hsx,hss⟩:=hs
 obtain rfl:len=2:=by rw [← hlen2,hns,hk];rfl
 rcases hsub with h0 | ⟨g,o,rfl,hg,hel⟩
 ·omega
 obtain ⟨y0,hy0,eap,elp,ecp,dap,dlp,dcp,ap,lenp,capp,⟨e0,e1,e2,e3,e4,e5,e6,e7,e8,e9,ea_,eb_⟩,hx0⟩:=CtAt.elem (k:=0) hg (Below.refl _ w) (by rw [hlen2];omega) hel
 simp only [Nat.zero_mul,Nat.add_zero] at e0 e1 e2 e3 e4 e5 e6 e7 e8 e9 ea_ eb_
 have hm0:y0 ∈ x.sub:=by rw [hy0];exact List.getElem_mem _
 have hc0:crt x 0=y0:=by rw [hy0];unfold crt;rw [List.getElem?_eq_getElem (by rw [hlen2];omega)];rfl
 have hys0:=Ct.sub_size hm0
 have hls0:=rcT_small (hsok _ hm0) (hss _ hm0) (by omega)
 obtain ⟨y1,hy1,eaq,elq,ecq,daq,dlq,dcq,aq,lenq,capq,⟨f0,f1,f2,f3,f4,f5,f6,f7,f8,f9,fa_,fb_⟩,hx1⟩:=CtAt.elem (k:=1) hg (Below.refl _ w) (by rw [hlen2];omega) hel
 simp only [Nat.one_mul] at f0 f1 f2 f3 f4 f5 f6 f7 f8 f9 fa_ fb_
 have hm1:y1 ∈ x.sub:=by rw [hy1];exact List.getElem_mem _
 have hc1:crt x 1=y1:=by rw [hy1];unfold crt;rw [List.getElem?_eq_getElem (by rw [hlen2];omega)];rfl
 have hys1:=Ct.sub_size hm1
 have hls1:=rcT_small (hsok _ hm1) (hss _ hm1) (by omega)
 obtain ⟨W0,hW0⟩:∃ W0,W0=w.alloc (.cells #[.int .u8 3,.string x.frm,.string x.too,.string x.name,.int .u8 x.expr.kind,.string x.expr.rat,.string x.expr.name,.int .i64 x.expr.date,.slice ea el ec,.int .i64 x.date,.slice da dl dc,.slice (some ⟨g,o,none⟩) 2 cap] 29):=⟨_,rfl⟩
 have hB0:Below w.heap.size w W0:=by rw [hW0];exact own_below w _
 have hbx:W0.heap[w.heap.size]? = some (.cells #[.int .u8 3,.string x.frm,.string x.too,.string x.name,.int .u8 x.expr.kind,.string x.expr.rat,.string x.expr.name,.int .i64 x.expr.date,.slice ea el ec,.int .i64 x.date,.slice da dl dc,.slice (some ⟨g,o,none⟩) 2 cap] 29):=by rw [hW0];exact alloc_at _ _
 obtain ⟨M0,hM0⟩:∃ v:ByteArray,v=⟨(mvT (rcT n y0)).toArray⟩:=⟨_,rfl⟩
 have hM0l:M0.data.toList=mvT (rcT n y0):=by rw [hM0]
 have hM0s:=ba_size hM0l
 obtain ⟨M1,hM1⟩:∃ v:ByteArray,v=⟨(mvT (rcT n y1)).toArray⟩:=⟨_,rfl⟩
 have hM1l:M1.data.toList=mvT (rcT n y1):=by rw [hM1]
 have hM1s:=ba_size hM1l
 have hR:rcT (n+1) x=[98,111,116,104,32,123,10] ++ M0.data.toList ++ [59,10] ++ M1.data.toList ++ [10,125]:=by
  rw [rcT,if_neg (by omega),if_neg (by omega),if_pos hk,hc0,hc1,hM0l,hM1l]
 have HT:Hid (ByteArray.mk #[98,111,116,104,32,123,10] ++ M0 ++ ByteArray.mk #[59,10] ++ M1 ++ ByteArray.mk #[10,125]=⟨(rcT (n+1) x).toArray⟩):=ba_eq (by rw [hR];simp)
 have n1:¬ 9223372036854775807 < 7+M0.size:=by omega
 have n2:¬ 9223372036854775807 < 7+M0.size+2:=by omega
 have n3:¬ 9223372036854775807 < 7+M0.size+2+M1.size:=by omega
 have n4:¬ 9223372036854775807 < 7+M0.size+2+M1.size+2:=by omega
 obtain ⟨C0,hC0⟩:∃ v:ByteArray,v=⟨(rcT n y0).toArray⟩:=⟨_,rfl⟩
 have hC0l:C0.data.toList=rcT n y0:=by rw [hC0]
 have hC0s:=ba_size hC0l
 have HI0:Hid (∀ W,Below W0.heap.size W0 W→Calls Tryz.prog 16 #[.agg #[.int .u8 y0.kind,.string y0.frm,.string y0.too,.string y0.name,.int .u8 y0.expr.kind,.string y0.expr.rat,.string y0.expr.name,.int .i64 y0.expr.date,.slice eap elp ecp,.int .i64 y0.date,.slice dap dlp dcp,.slice ap lenp capp]] W (fun e w' => e = .returned (.string C0)∧Below W.heap.size W w')):=fun W hW => by
  have:=ih y0 _ W d (CtAt.below (hB0.trans (hW.mono hB0.size)) hx0) (hsok _ hm0) (hss _ hm0) (by omega)
  unfold RxP at this;rwa [← hC0] at this
 have HM0:Hid (∀ W,Calls Tryz.prog 37 #[.string C0] W (fun e w' => e = .returned (.string M0)∧Below W.heap.size W w')):=fun W => by
  have:=rmoved_any C0 W (by omega)
  unfold RxP at this;rwa [hC0l,← hM0] at this
 obtain ⟨C1,hC1⟩:∃ v:ByteArray,v=⟨(rcT n y1).toArray⟩:=⟨_,rfl⟩
 have hC1l:C1.data.toList=rcT n y1:=by rw [hC1]
 have hC1s:=ba_size hC1l
 have HI1:Hid (∀ W,Below W0.heap.size W0 W→Calls Tryz.prog 16 #[.agg #[.int .u8 y1.kind,.string y1.frm,.string y1.too,.string y1.name,.int .u8 y1.expr.kind,.string y1.expr.rat,.string y1.expr.name,.int .i64 y1.expr.date,.slice eaq elq ecq,.int .i64 y1.date,.slice daq dlq dcq,.slice aq lenq capq]] W (fun e w' => e = .returned (.string C1)∧Below W.heap.size W w')):=fun W hW => by
  have:=ih y1 _ W d (CtAt.below (hB0.trans (hW.mono hB0.size)) hx1) (hsok _ hm1) (hss _ hm1) (by omega)
  unfold RxP at this;rwa [← hC1] at this
 have HM1:Hid (∀ W,Calls Tryz.prog 37 #[.string C1] W (fun e w' => e = .returned (.string M1)∧Below W.heap.size W w')):=fun W => by
  have:=rmoved_any C1 W (by omega)
  unfold RxP at this;rwa [hC1l,← hM1] at this
 obtain ⟨c0,c1,c2,c3,c4,c5,c6,c7,c8,c9,ca,cb⟩:=ctBox hbx
 have ze0:=((bcell hB0).1 _ _ hg).trans e0
 have ze1:=((bcell hB0).1 _ _ hg).trans e1
 have ze2:=((bcell hB0).1 _ _ hg).trans e2
 have ze3:=((bcell hB0).1 _ _ hg).trans e3
 have ze4:=((bcell hB0).1 _ _ hg).trans e4
 have ze5:=((bcell hB0).1 _ _ hg).trans e5
 have ze6:=((bcell hB0).1 _ _ hg).trans e6
 have ze7:=((bcell hB0).1 _ _ hg).trans e7
 have ze8:=((bcell hB0).1 _ _ hg).trans e8
 have ze9:=((bcell hB0).1 _ _ hg).trans e9
 have zea_:=((bcell hB0).1 _ _ hg).trans ea_
 have zeb_:=((bcell hB0).1 _ _ hg).trans eb_
 have zf0:=((bcell hB0).1 _ _ hg).trans f0
 have zf1:=((bcell hB0).1 _ _ hg).trans f1
 have zf2:=((bcell hB0).1 _ _ hg).trans f2
 have zf3:=((bcell hB0).1 _ _ hg).trans f3
 have zf4:=((bcell hB0).1 _ _ hg).trans f4
 have zf5:=((bcell hB0).1 _ _ hg).trans f5
 have zf6:=((bcell hB0).1 _ _ hg).trans f6
 have zf7:=((bcell hB0).1 _ _ hg).trans f7
 have zf8:=((bcell hB0).1 _ _ hg).trans f8
 have zf9:=((bcell hB0).1 _ _ hg).trans f9
 have zfa_:=((bcell hB0).1 _ _ hg).trans fa_
 have zfb_:=((bcell hB0).1 _ _ hg).trans fb_
 have cb':=fun p:BelOf W0 => cell_bel cb p
 have ze0':=fun p:BelOf W0 => cell_bel ze0 p
 have ze1':=fun p:BelOf W0 => cell_bel ze1 p
 have ze2':=fun p:BelOf W0 => cell_bel ze2 p
 have ze3':=fun p:BelOf W0 => cell_bel ze3 p
 have ze4':=fun p:BelOf W0 => cell_bel ze4 p
 have ze5':=fun p:BelOf W0 => cell_bel ze5 p
 have ze6':=fun p:BelOf W0 => cell_bel ze6 p
 have ze7':=fun p:BelOf W0 => cell_bel ze7 p
 have ze8':=fun p:BelOf W0 => cell_bel ze8 p
 have ze9':=fun p:BelOf W0 => cell_bel ze9 p
 have zea_':=fun p:BelOf W0 => cell_bel zea_ p
 have zeb_':=fun p:BelOf W0 => cell_bel zeb_ p
 have zf0':=fun p:BelOf W0 => cell_bel zf0 p
 have zf1':=fun p:BelOf W0 => cell_bel zf1 p
 have zf2':=fun p:BelOf W0 => cell_bel zf2 p
 have zf3':=fun p:BelOf W0 => cell_bel zf3 p
 have zf4':=fun p:BelOf W0 => cell_bel zf4 p
 have zf5':=fun p:BelOf W0 => cell_bel zf5 p
 have zf6':=fun p:BelOf W0 => cell_bel zf6 p
 have zf7':=fun p:BelOf W0 => cell_bel zf7 p
 have zf8':=fun p:BelOf W0 => cell_bel zf8 p
 have zf9':=fun p:BelOf W0 => cell_bel zf9 p
 have zfa_':=fun p:BelOf W0 => cell_bel zfa_ p
 have zfb_':=fun p:BelOf W0 => cell_bel zfb_ p
 have HB0:=Lib.hid hB0
 have HW:=Lib.hid hW0
 clear hW0 hB0 hbx hcs hR hox hdt hday hsok hsx hss hns hnm1 hnm2 hnm3 hnd hz hzx hlen2 hex hds hel ih hg hy0 hm0 hc0 hys0 hls0 hx0 hy1 hm1 hc1 hys1 hls1 hx1 hM0 hM0l hM0s hM1 hM1l hM1s hC0 hC0l hC0s hC1 hC1l hC1s e0 ze0 e1 ze1 e2 ze2 e3 ze3 e4 ze4 e5 ze5 e6 ze6 e7 ze7 e8 ze8 e9 ze9 ea_ zea_ eb_ zeb_ f0 zf0 f1 zf1 f2 zf2 f3 zf3 f4 zf4 f5 zf5 f6 zf6 f7 zf7 f8 zf8 f9 zf9 fa_ zfa_ fb_ zfb_
 go_enter Tryz.func16,Tryz.ntmps16
 go_wp2_with fail
 rw [← HW.out]
 clear HW c0 c1 c2 c3 c4 c5 c6 c7 c8 c9 ca cb
 refine region_bel (by kernel_rfl) (by kernel_rfl) ?_
 repeat (quiet_step (first
  | (go_at_call 16;first | with_reducible exact bel_of (HI0.out _ (BelOf.h _)) | with_reducible exact bel_of (HI1.out _ (BelOf.h _)))
  | (go_at_call 37;first | with_reducible exact bel_of (HM0.out _) | with_reducible exact bel_of (HM1.out _))))
 refine wpQuiet_nil ?_
 intro w3 hw
 obtain ⟨⟨w4,hb⟩,hw⟩:=hw
 subst hw
 have HC:=Lib.hid hb
 clear hb
 go_wp2_with fail
 go_ret
 exact ⟨by rw [← HT.out];rfl,HB0.out.trans (HC.out.mono HB0.out.size)⟩
end Go.Proofs.YtijkefflpojmhaaGreatDoor

namespace Go.Proofs.YtijkefflpojmhaaGreatDoor
open Go.RowKit
set_option maxHeartbeats 2000000 in
set_option maxRecDepth 100000 in
theorem rcontr_4 {n:Nat} (ih:RcC n) (x:Ct) (hk:x.kind=4) (cs:List Value) (w:World) (d:Nat) (h:CtAt (n+1) w cs x) (ho:OkC (n+1) x) (hs:CSm d x) (hz:x.size≤1000) :
  Calls Tryz.prog 16 #[.agg cs.toArray] w (RxP w (rcT (n+1) x)):=by
 obtain ⟨ea,el,ec,da,dl,dc,a,len,cap,rfl,hex,hds,hlen2,hsub⟩:=h
 have hcs:(ctCells x ea el ec da dl dc a len cap).toArray = #[.int .u8 4,.string x.frm,.string x.too,.string x.name,.int .u8 x.expr.kind,.string x.expr.rat,.string x.expr.name,.int .i64 x.expr.date,.slice ea el ec,.int .i64 x.date,.slice da dl dc,.slice a len cap]:=by unfold ctCells;rw [hk]
 rw [hcs]
 match d,hs with
 | d+1,hs =>
 have hzx:=x.expr_size
 obtain ⟨_,hns,hox,hdt,_,hday,hsok⟩:=ho
 obtain ⟨⟨hnm1,hnm2,hnm3,hnd⟩,hsx,hss⟩:=hs
 obtain rfl:len=1:=by rw [← hlen2,hns,hk];rfl
 rcases hsub with h0 | ⟨g,o,rfl,hg,hel⟩
 ·omega
 obtain ⟨y0,hy0,eap,elp,ecp,dap,dlp,dcp,ap,lenp,capp,⟨e0,e1,e2,e3,e4,e5,e6,e7,e8,e9,ea_,eb_⟩,hx0⟩:=CtAt.elem (k:=0) hg (Below.refl _ w) (by rw [hlen2];omega) hel
 simp only [Nat.zero_mul,Nat.add_zero] at e0 e1 e2 e3 e4 e5 e6 e7 e8 e9 ea_ eb_
 have hm0:y0 ∈ x.sub:=by rw [hy0];exact List.getElem_mem _
 have hc0:crt x 0=y0:=by rw [hy0];unfold crt;rw [List.getElem?_eq_getElem (by rw [hlen2];omega)];rfl
 have hys0:=Ct.sub_size hm0
 have hls0:=rcT_small (hsok _ hm0) (hss _ hm0) (by omega)
 obtain ⟨W0,hW0⟩:∃ W0,W0=w.alloc (.cells #[.int .u8 4,.string x.frm,.string x.too,.string x.name,.int .u8 x.expr.kind,.string x.expr.rat,.string x.expr.name,.int .i64 x.expr.date,.slice ea el ec,.int .i64 x.date,.slice da dl dc,.slice (some ⟨g,o,none⟩) 1 cap] 29):=⟨_,rfl⟩
 have hB0:Below w.heap.size w W0:=by rw [hW0];exact own_below w _
 have hbx:W0.heap[w.heap.size]? = some (.cells #[.int .u8 4,.string x.frm,.string x.too,.string x.name,.int .u8 x.expr.kind,.string x.expr.rat,.string x.expr.name,.int .i64 x.expr.date,.slice ea el ec,.int .i64 x.date,.slice da dl dc,.slice (some ⟨g,o,none⟩) 1 cap] 29):=by rw [hW0];exact alloc_at _ _
 obtain ⟨E,hE⟩:∃ v:ByteArray,v=⟨(rexT (n+1) x.expr).toArray⟩:=⟨_,rfl⟩
 have hEl:E.data.toList=rexT (n+1) x.expr:=by rw [hE]
 have hEs:=ba_size hEl
 have hEo:=hox (by unfold HasEx;omega)
 have hEn:=rexT_len (n+1) x.expr _ hEo.1 hsx
 obtain ⟨I0,hI0⟩:∃ v:ByteArray,v=⟨(inT (rcT n y0)).toArray⟩:=⟨_,rfl⟩
 have hI0l:I0.data.toList=inT (rcT n y0):=by rw [hI0]
 have hI0s:=ba_size hI0l
 have hR:rcT (n+1) x=[115,99,97,108,101,32] ++ E.data.toList ++ [32] ++ I0.data.toList:=by
  rw [rcT,if_neg (by omega),if_neg (by omega),if_neg (by omega),if_neg (by omega),hc0]
  unfold headT
  rw [if_pos hk]
  rw [hEl,hI0l]
 have HT:Hid (ByteArray.mk #[115,99,97,108,101,32] ++ E ++ ByteArray.mk #[32] ++ I0=⟨(rcT (n+1) x).toArray⟩):=ba_eq (by rw [hR];simp)
 have n1:¬ 9223372036854775807 < 6+E.size:=by omega
 have n2:¬ 9223372036854775807 < 6+E.size+1:=by omega
 have n3:¬ 9223372036854775807 < 6+E.size+1+I0.size:=by omega
 have HX:Hid (∀ W,Below W0.heap.size W0 W→Calls Tryz.prog 36 #[.agg #[.int .u8 x.expr.kind,.string x.expr.rat,.string x.expr.name,.int .i64 x.expr.date,.slice ea el ec]] W (fun e w' => e = .returned (.string E)∧Below W.heap.size W w')):=fun W hW => by
  have:=rexpr_all (n+1) x.expr _ W (ExAt.below (hB0.trans (hW.mono hB0.size)) hex) hEo.1 (by omega)
  unfold RxP at this;rwa [← hE] at this
 have HI0:Hid (∀ W,Below W0.heap.size W0 W→Calls Tryz.prog 38 #[.agg #[.int .u8 y0.kind,.string y0.frm,.string y0.too,.string y0.name,.int .u8 y0.expr.kind,.string y0.expr.rat,.string y0.expr.name,.int .i64 y0.expr.date,.slice eap elp ecp,.int .i64 y0.date,.slice dap dlp dcp,.slice ap lenp capp]] W (fun e w' => e = .returned (.string I0)∧Below W.heap.size W w')):=fun W hW => by
  have:=rin_of ih y0 eap elp ecp dap dlp dcp ap lenp capp W d (CtAt.below (hB0.trans (hW.mono hB0.size)) hx0) (hsok _ hm0) (hss _ hm0) (by omega)
  unfold RxP at this;rwa [← hI0] at this
 obtain ⟨c0,c1,c2,c3,c4,c5,c6,c7,c8,c9,ca,cb⟩:=ctBox hbx
 have ze0:=((bcell hB0).1 _ _ hg).trans e0
 have ze1:=((bcell hB0).1 _ _ hg).trans e1
 have ze2:=((bcell hB0).1 _ _ hg).trans e2
 have ze3:=((bcell hB0).1 _ _ hg).trans e3
 have ze4:=((bcell hB0).1 _ _ hg).trans e4
 have ze5:=((bcell hB0).1 _ _ hg).trans e5
 have ze6:=((bcell hB0).1 _ _ hg).trans e6
 have ze7:=((bcell hB0).1 _ _ hg).trans e7
 have ze8:=((bcell hB0).1 _ _ hg).trans e8
 have ze9:=((bcell hB0).1 _ _ hg).trans e9
 have zea_:=((bcell hB0).1 _ _ hg).trans ea_
 have zeb_:=((bcell hB0).1 _ _ hg).trans eb_
 have c4':=fun p:BelOf W0 => cell_bel c4 p
 have c5':=fun p:BelOf W0 => cell_bel c5 p
 have c6':=fun p:BelOf W0 => cell_bel c6 p
 have c7':=fun p:BelOf W0 => cell_bel c7 p
 have c8':=fun p:BelOf W0 => cell_bel c8 p
 have cb':=fun p:BelOf W0 => cell_bel cb p
 have ze0':=fun p:BelOf W0 => cell_bel ze0 p
 have ze1':=fun p:BelOf W0 => cell_bel ze1 p
 have ze2':=fun p:BelOf W0 => cell_bel ze2 p
 have ze3':=fun p:BelOf W0 => cell_bel ze3 p
 have ze4':=fun p:BelOf W0 => cell_bel ze4 p
 have ze5':=fun p:BelOf W0 => cell_bel ze5 p
 have ze6':=fun p:BelOf W0 => cell_bel ze6 p
 have ze7':=fun p:BelOf W0 => cell_bel ze7 p
 have ze8':=fun p:BelOf W0 => cell_bel ze8 p
 have ze9':=fun p:BelOf W0 => cell_bel ze9 p
 have zea_':=fun p:BelOf W0 => cell_bel zea_ p
 have zeb_':=fun p:BelOf W0 => cell_bel zeb_ p
 have HB0:=Lib.hid hB0
 have HW:=Lib.hid hW0
 clear hW0 hB0 hbx hcs hR hox hdt hday hsok hsx hss hns hnm1 hnm2 hnm3 hnd hz hzx hlen2 hex hds hel ih hg hy0 hm0 hc0 hys0 hls0 hx0 hE hEl hEs hI0 hI0l hI0s hEo hEn e0 ze0 e1 ze1 e2 ze2 e3 ze3 e4 ze4 e5 ze5 e6 ze6 e7 ze7 e8 ze8 e9 ze9 ea_ zea_ eb_ zeb_
 go_enter Tryz.func16,Tryz.ntmps16
 go_wp2_with fail
 rw [← HW.out]
 clear HW c0 c1 c2 c3 c4 c5 c6 c7 c8 c9 ca cb
 refine region_bel (by kernel_rfl) (by kernel_rfl) ?_
 repeat (quiet_step (first
  | (go_at_call 36;with_reducible exact bel_of (HX.out _ (BelOf.h _)))
  | (go_at_call 38;first | with_reducible exact bel_of (HI0.out _ (BelOf.h _)))))
 refine wpQuiet_nil ?_
 intro w3 hw
 obtain ⟨⟨w4,hb⟩,hw⟩:=hw
 subst hw
 have HC:=Lib.hid hb
 clear hb
 go_wp2_with fail
 go_ret
 exact ⟨by rw [← HT.out];rfl,HB0.out.trans (HC.out.mono HB0.out.size)⟩
end Go.Proofs.YtijkefflpojmhaaGreatDoor

namespace Go.Proofs.YtijkefflpojmhaaGreatDoor
open Go.RowKit
set_option maxHeartbeats 2000000 in
set_option maxRecDepth 100000 in
theorem rcontr_5 {n:Nat} (ih:RcC n) (x:Ct) (hk:x.kind=5) (cs:List Value) (w:World) (d:Nat) (h:CtAt (n+1) w cs x) (ho:OkC (n+1) x) (hs:CSm d x) (hz:x.size≤1000) :
  Calls Tryz.prog 16 #[.agg cs.toArray] w (RxP w (rcT (n+1) x)):=by
 obtain ⟨ea,el,ec,da,dl,dc,a,len,cap,rfl,hex,hds,hlen2,hsub⟩:=h
 have hcs:(ctCells x ea el ec da dl dc a len cap).toArray = #[.int .u8 5,.string x.frm,.string x.too,.string x.name,.int .u8 x.expr.kind,.string x.expr.rat,.string x.expr.name,.int .i64 x.expr.date,.slice ea el ec,.int .i64 x.date,.slice da dl dc,.slice a len cap]:=by unfold ctCells;rw [hk]
 rw [hcs]
 match d,hs with
 | d+1,hs =>
 have hzx:=x.expr_size
 obtain ⟨_,hns,hox,hdt,_,hday,hsok⟩:=ho
 obtain ⟨⟨hnm1,hnm2,hnm3,hnd⟩,hsx,hss⟩:=hs
 obtain rfl:len=2:=by rw [← hlen2,hns,hk];rfl
 rcases hsub with h0 | ⟨g,o,rfl,hg,hel⟩
 ·omega
 obtain ⟨y0,hy0,eap,elp,ecp,dap,dlp,dcp,ap,lenp,capp,⟨e0,e1,e2,e3,e4,e5,e6,e7,e8,e9,ea_,eb_⟩,hx0⟩:=CtAt.elem (k:=0) hg (Below.refl _ w) (by rw [hlen2];omega) hel
 simp only [Nat.zero_mul,Nat.add_zero] at e0 e1 e2 e3 e4 e5 e6 e7 e8 e9 ea_ eb_
 have hm0:y0 ∈ x.sub:=by rw [hy0];exact List.getElem_mem _
 have hc0:crt x 0=y0:=by rw [hy0];unfold crt;rw [List.getElem?_eq_getElem (by rw [hlen2];omega)];rfl
 have hys0:=Ct.sub_size hm0
 have hls0:=rcT_small (hsok _ hm0) (hss _ hm0) (by omega)
 obtain ⟨y1,hy1,eaq,elq,ecq,daq,dlq,dcq,aq,lenq,capq,⟨f0,f1,f2,f3,f4,f5,f6,f7,f8,f9,fa_,fb_⟩,hx1⟩:=CtAt.elem (k:=1) hg (Below.refl _ w) (by rw [hlen2];omega) hel
 simp only [Nat.one_mul] at f0 f1 f2 f3 f4 f5 f6 f7 f8 f9 fa_ fb_
 have hm1:y1 ∈ x.sub:=by rw [hy1];exact List.getElem_mem _
 have hc1:crt x 1=y1:=by rw [hy1];unfold crt;rw [List.getElem?_eq_getElem (by rw [hlen2];omega)];rfl
 have hys1:=Ct.sub_size hm1
 have hls1:=rcT_small (hsok _ hm1) (hss _ hm1) (by omega)
 obtain ⟨W0,hW0⟩:∃ W0,W0=w.alloc (.cells #[.int .u8 5,.string x.frm,.string x.too,.string x.name,.int .u8 x.expr.kind,.string x.expr.rat,.string x.expr.name,.int .i64 x.expr.date,.slice ea el ec,.int .i64 x.date,.slice da dl dc,.slice (some ⟨g,o,none⟩) 2 cap] 29):=⟨_,rfl⟩
 have hB0:Below w.heap.size w W0:=by rw [hW0];exact own_below w _
 have hbx:W0.heap[w.heap.size]? = some (.cells #[.int .u8 5,.string x.frm,.string x.too,.string x.name,.int .u8 x.expr.kind,.string x.expr.rat,.string x.expr.name,.int .i64 x.expr.date,.slice ea el ec,.int .i64 x.date,.slice da dl dc,.slice (some ⟨g,o,none⟩) 2 cap] 29):=by rw [hW0];exact alloc_at _ _
 obtain ⟨E,hE⟩:∃ v:ByteArray,v=⟨(rexT (n+1) x.expr).toArray⟩:=⟨_,rfl⟩
 have hEl:E.data.toList=rexT (n+1) x.expr:=by rw [hE]
 have hEs:=ba_size hEl
 have hEo:=hox (by unfold HasEx;omega)
 have hEn:=rexT_len (n+1) x.expr _ hEo.1 hsx
 obtain ⟨I0,hI0⟩:∃ v:ByteArray,v=⟨(inT (rcT n y0)).toArray⟩:=⟨_,rfl⟩
 have hI0l:I0.data.toList=inT (rcT n y0):=by rw [hI0]
 have hI0s:=ba_size hI0l
 obtain ⟨I1,hI1⟩:∃ v:ByteArray,v=⟨(inT (rcT n y1)).toArray⟩:=⟨_,rfl⟩
 have hI1l:I1.data.toList=inT (rcT n y1):=by rw [hI1]
 have hI1s:=ba_size hI1l
 have hR:rcT (n+1) x=[105,102,32] ++ E.data.toList ++ [32] ++ I0.data.toList ++ [32,101,108,115,101,32] ++ I1.data.toList:=by
  rw [rcT,if_neg (by omega),if_neg (by omega),if_neg (by omega),if_pos (by omega),hc0,hc1]
  unfold headT
  rw [if_neg (by omega),if_pos hk]
  rw [hEl,hI0l,hI1l]
 have HT:Hid (ByteArray.mk #[105,102,32] ++ E ++ ByteArray.mk #[32] ++ I0 ++ ByteArray.mk #[32,101,108,115,101,32] ++ I1=⟨(rcT (n+1) x).toArray⟩):=ba_eq (by rw [hR];simp)
 have n1:¬ 9223372036854775807 < 3+E.size:=by omega
 have n2:¬ 9223372036854775807 < 3+E.size+1:=by omega
 have n3:¬ 9223372036854775807 < 3+E.size+1+I0.size:=by omega
 have n4:¬ 9223372036854775807 < 3+E.size+1+I0.size+6:=by omega
 have n5:¬ 9223372036854775807 < 3+E.size+1+I0.size+6+I1.size:=by omega
 have HX:Hid (∀ W,Below W0.heap.size W0 W→Calls Tryz.prog 36 #[.agg #[.int .u8 x.expr.kind,.string x.expr.rat,.string x.expr.name,.int .i64 x.expr.date,.slice ea el ec]] W (fun e w' => e = .returned (.string E)∧Below W.heap.size W w')):=fun W hW => by
  have:=rexpr_all (n+1) x.expr _ W (ExAt.below (hB0.trans (hW.mono hB0.size)) hex) hEo.1 (by omega)
  unfold RxP at this;rwa [← hE] at this
 have HI0:Hid (∀ W,Below W0.heap.size W0 W→Calls Tryz.prog 38 #[.agg #[.int .u8 y0.kind,.string y0.frm,.string y0.too,.string y0.name,.int .u8 y0.expr.kind,.string y0.expr.rat,.string y0.expr.name,.int .i64 y0.expr.date,.slice eap elp ecp,.int .i64 y0.date,.slice dap dlp dcp,.slice ap lenp capp]] W (fun e w' => e = .returned (.string I0)∧Below W.heap.size W w')):=fun W hW => by
  have:=rin_of ih y0 eap elp ecp dap dlp dcp ap lenp capp W d (CtAt.below (hB0.trans (hW.mono hB0.size)) hx0) (hsok _ hm0) (hss _ hm0) (by omega)
  unfold RxP at this;rwa [← hI0] at this
 have HI1:Hid (∀ W,Below W0.heap.size W0 W→Calls Tryz.prog 38 #[.agg #[.int .u8 y1.kind,.string y1.frm,.string y1.too,.string y1.name,.int .u8 y1.expr.kind,.string y1.expr.rat,.string y1.expr.name,.int .i64 y1.expr.date,.slice eaq elq ecq,.int .i64 y1.date,.slice daq dlq dcq,.slice aq lenq capq]] W (fun e w' => e = .returned (.string I1)∧Below W.heap.size W w')):=fun W hW => by
  have:=rin_of ih y1 eaq elq ecq daq dlq dcq aq lenq capq W d (CtAt.below (hB0.trans (hW.mono hB0.size)) hx1) (hsok _ hm1) (hss _ hm1) (by omega)
  unfold RxP at this;rwa [← hI1] at this
 obtain ⟨c0,c1,c2,c3,c4,c5,c6,c7,c8,c9,ca,cb⟩:=ctBox hbx
 have ze0:=((bcell hB0).1 _ _ hg).trans e0
 have ze1:=((bcell hB0).1 _ _ hg).trans e1
 have ze2:=((bcell hB0).1 _ _ hg).trans e2
 have ze3:=((bcell hB0).1 _ _ hg).trans e3
 have ze4:=((bcell hB0).1 _ _ hg).trans e4
 have ze5:=((bcell hB0).1 _ _ hg).trans e5
 have ze6:=((bcell hB0).1 _ _ hg).trans e6
 have ze7:=((bcell hB0).1 _ _ hg).trans e7
 have ze8:=((bcell hB0).1 _ _ hg).trans e8
 have ze9:=((bcell hB0).1 _ _ hg).trans e9
 have zea_:=((bcell hB0).1 _ _ hg).trans ea_
 have zeb_:=((bcell hB0).1 _ _ hg).trans eb_
 have zf0:=((bcell hB0).1 _ _ hg).trans f0
 have zf1:=((bcell hB0).1 _ _ hg).trans f1
 have zf2:=((bcell hB0).1 _ _ hg).trans f2
 have zf3:=((bcell hB0).1 _ _ hg).trans f3
 have zf4:=((bcell hB0).1 _ _ hg).trans f4
 have zf5:=((bcell hB0).1 _ _ hg).trans f5
 have zf6:=((bcell hB0).1 _ _ hg).trans f6
 have zf7:=((bcell hB0).1 _ _ hg).trans f7
 have zf8:=((bcell hB0).1 _ _ hg).trans f8
 have zf9:=((bcell hB0).1 _ _ hg).trans f9
 have zfa_:=((bcell hB0).1 _ _ hg).trans fa_
 have zfb_:=((bcell hB0).1 _ _ hg).trans fb_
 have c4':=fun p:BelOf W0 => cell_bel c4 p
 have c5':=fun p:BelOf W0 => cell_bel c5 p
 have c6':=fun p:BelOf W0 => cell_bel c6 p
 have c7':=fun p:BelOf W0 => cell_bel c7 p
 have c8':=fun p:BelOf W0 => cell_bel c8 p
 have cb':=fun p:BelOf W0 => cell_bel cb p
 have ze0':=fun p:BelOf W0 => cell_bel ze0 p
 have ze1':=fun p:BelOf W0 => cell_bel ze1 p
 have ze2':=fun p:BelOf W0 => cell_bel ze2 p
 have ze3':=fun p:BelOf W0 => cell_bel ze3 p
 have ze4':=fun p:BelOf W0 => cell_bel ze4 p
 have ze5':=fun p:BelOf W0 => cell_bel ze5 p
 have ze6':=fun p:BelOf W0 => cell_bel ze6 p
 have ze7':=fun p:BelOf W0 => cell_bel ze7 p
 have ze8':=fun p:BelOf W0 => cell_bel ze8 p
 have ze9':=fun p:BelOf W0 => cell_bel ze9 p
 have zea_':=fun p:BelOf W0 => cell_bel zea_ p
 have zeb_':=fun p:BelOf W0 => cell_bel zeb_ p
 have zf0':=fun p:BelOf W0 => cell_bel zf0 p
 have zf1':=fun p:BelOf W0 => cell_bel zf1 p
 have zf2':=fun p:BelOf W0 => cell_bel zf2 p
 have zf3':=fun p:BelOf W0 => cell_bel zf3 p
 have zf4':=fun p:BelOf W0 => cell_bel zf4 p
 have zf5':=fun p:BelOf W0 => cell_bel zf5 p
 have zf6':=fun p:BelOf W0 => cell_bel zf6 p
 have zf7':=fun p:BelOf W0 => cell_bel zf7 p
 have zf8':=fun p:BelOf W0 => cell_bel zf8 p
 have zf9':=fun p:BelOf W0 => cell_bel zf9 p
 have zfa_':=fun p:BelOf W0 => cell_bel zfa_ p
 have zfb_':=fun p:BelOf W0 => cell_bel zfb_ p
 have HB0:=Lib.hid hB0
 have HW:=Lib.hid hW0
 clear hW0 hB0 hbx hcs hR hox hdt hday hsok hsx hss hns hnm1 hnm2 hnm3 hnd hz hzx hlen2 hex hds hel ih hg hy0 hm0 hc0 hys0 hls0 hx0 hy1 hm1 hc1 hys1 hls1 hx1 hE hEl hEs hI0 hI0l hI0s hI1 hI1l hI1s hEo hEn e0 ze0 e1 ze1 e2 ze2 e3 ze3 e4 ze4 e5 ze5 e6 ze6 e7 ze7 e8 ze8 e9 ze9 ea_ zea_ eb_ zeb_ f0 zf0 f1 zf1 f2 zf2 f3 zf3 f4 zf4 f5 zf5 f6 zf6 f7 zf7 f8 zf8 f9 zf9 fa_ zfa_ fb_ zfb_
 go_enter Tryz.func16,Tryz.ntmps16
 go_wp2_with fail
 rw [← HW.out]
 clear HW c0 c1 c2 c3 c4 c5 c6 c7 c8 c9 ca cb
 refine region_bel (by kernel_rfl) (by kernel_rfl) ?_
 repeat (quiet_step (first
  | (go_at_call 36;with_reducible exact bel_of (HX.out _ (BelOf.h _)))
  | (go_at_call 38;first | with_reducible exact bel_of (HI0.out _ (BelOf.h _)) | with_reducible exact bel_of (HI1.out _ (BelOf.h _)))))
 refine wpQuiet_nil ?_
 intro w3 hw
 obtain ⟨⟨w4,hb⟩,hw⟩:=hw
 subst hw
 have HC:=Lib.hid hb
 clear hb
 go_wp2_with fail
 go_ret
 exact ⟨by rw [← HT.out];rfl,HB0.out.trans (HC.out.mono HB0.out.size)⟩
end Go.Proofs.YtijkefflpojmhaaGreatDoor

namespace Go.Proofs.YtijkefflpojmhaaGreatDoor
open Go.RowKit
set_option maxHeartbeats 2000000 in
set_option maxRecDepth 100000 in
theorem rcontr_6 {n:Nat} (ih:RcC n) (x:Ct) (hk:x.kind=6) (cs:List Value) (w:World) (d:Nat) (h:CtAt (n+1) w cs x) (ho:OkC (n+1) x) (hs:CSm d x) (hz:x.size≤1000) :
  Calls Tryz.prog 16 #[.agg cs.toArray] w (RxP w (rcT (n+1) x)):=by
 obtain ⟨ea,el,ec,da,dl,dc,a,len,cap,rfl,hex,hds,hlen2,hsub⟩:=h
 have hcs:(ctCells x ea el ec da dl dc a len cap).toArray = #[.int .u8 6,.string x.frm,.string x.too,.string x.name,.int .u8 x.expr.kind,.string x.expr.rat,.string x.expr.name,.int .i64 x.expr.date,.slice ea el ec,.int .i64 x.date,.slice da dl dc,.slice a len cap]:=by unfold ctCells;rw [hk]
 rw [hcs]
 match d,hs with
 | d+1,hs =>
 have hzx:=x.expr_size
 obtain ⟨_,hns,hox,hdt,_,hday,hsok⟩:=ho
 obtain ⟨⟨hnm1,hnm2,hnm3,hnd⟩,hsx,hss⟩:=hs
 obtain rfl:len=1:=by rw [← hlen2,hns,hk];rfl
 rcases hsub with h0 | ⟨g,o,rfl,hg,hel⟩
 ·omega
 obtain ⟨y0,hy0,eap,elp,ecp,dap,dlp,dcp,ap,lenp,capp,⟨e0,e1,e2,e3,e4,e5,e6,e7,e8,e9,ea_,eb_⟩,hx0⟩:=CtAt.elem (k:=0) hg (Below.refl _ w) (by rw [hlen2];omega) hel
 simp only [Nat.zero_mul,Nat.add_zero] at e0 e1 e2 e3 e4 e5 e6 e7 e8 e9 ea_ eb_
 have hm0:y0 ∈ x.sub:=by rw [hy0];exact List.getElem_mem _
 have hc0:crt x 0=y0:=by rw [hy0];unfold crt;rw [List.getElem?_eq_getElem (by rw [hlen2];omega)];rfl
 have hys0:=Ct.sub_size hm0
 have hls0:=rcT_small (hsok _ hm0) (hss _ hm0) (by omega)
 obtain ⟨W0,hW0⟩:∃ W0,W0=w.alloc (.cells #[.int .u8 6,.string x.frm,.string x.too,.string x.name,.int .u8 x.expr.kind,.string x.expr.rat,.string x.expr.name,.int .i64 x.expr.date,.slice ea el ec,.int .i64 x.date,.slice da dl dc,.slice (some ⟨g,o,none⟩) 1 cap] 29):=⟨_,rfl⟩
 have hB0:Below w.heap.size w W0:=by rw [hW0];exact own_below w _
 have hbx:W0.heap[w.heap.size]? = some (.cells #[.int .u8 6,.string x.frm,.string x.too,.string x.name,.int .u8 x.expr.kind,.string x.expr.rat,.string x.expr.name,.int .i64 x.expr.date,.slice ea el ec,.int .i64 x.date,.slice da dl dc,.slice (some ⟨g,o,none⟩) 1 cap] 29):=by rw [hW0];exact alloc_at _ _
 obtain ⟨D,hD⟩:∃ v:ByteArray,v=dS x.date:=⟨_,rfl⟩
 have hDl:D.data.toList=dtxt x.date:=by rw [hD];rfl
 have hDs:=ba_size hDl
 have hDn:=dtxt_len x.date
 have hdr:=hdt hk
 obtain ⟨I0,hI0⟩:∃ v:ByteArray,v=⟨(inT (rcT n y0)).toArray⟩:=⟨_,rfl⟩
 have hI0l:I0.data.toList=inT (rcT n y0):=by rw [hI0]
 have hI0s:=ba_size hI0l
 have hR:rcT (n+1) x=[111,110,32] ++ D.data.toList ++ [32] ++ I0.data.toList:=by
  rw [rcT,if_neg (by omega),if_neg (by omega),if_neg (by omega),if_neg (by omega),hc0]
  unfold headT
  rw [if_neg (by omega),if_neg (by omega),if_pos hk]
  rw [hDl,hI0l]
 have HT:Hid (ByteArray.mk #[111,110,32] ++ D ++ ByteArray.mk #[32] ++ I0=⟨(rcT (n+1) x).toArray⟩):=ba_eq (by rw [hR];simp)
 have n1:¬ 9223372036854775807 < 3+D.size:=by omega
 have n2:¬ 9223372036854775807 < 3+D.size+1:=by omega
 have n3:¬ 9223372036854775807 < 3+D.size+1+I0.size:=by omega
 have HDD:Hid (∀ W,Calls Tryz.prog 39 #[.int .i64 x.date] W (fun e w' => e = .returned (.string D)∧Below W.heap.size W w')):=fun W => by rw [hD];exact rdayT_is hdr.1 hdr.2 W
 have HI0:Hid (∀ W,Below W0.heap.size W0 W→Calls Tryz.prog 38 #[.agg #[.int .u8 y0.kind,.string y0.frm,.string y0.too,.string y0.name,.int .u8 y0.expr.kind,.string y0.expr.rat,.string y0.expr.name,.int .i64 y0.expr.date,.slice eap elp ecp,.int .i64 y0.date,.slice dap dlp dcp,.slice ap lenp capp]] W (fun e w' => e = .returned (.string I0)∧Below W.heap.size W w')):=fun W hW => by
  have:=rin_of ih y0 eap elp ecp dap dlp dcp ap lenp capp W d (CtAt.below (hB0.trans (hW.mono hB0.size)) hx0) (hsok _ hm0) (hss _ hm0) (by omega)
  unfold RxP at this;rwa [← hI0] at this
 obtain ⟨c0,c1,c2,c3,c4,c5,c6,c7,c8,c9,ca,cb⟩:=ctBox hbx
 have ze0:=((bcell hB0).1 _ _ hg).trans e0
 have ze1:=((bcell hB0).1 _ _ hg).trans e1
 have ze2:=((bcell hB0).1 _ _ hg).trans e2
 have ze3:=((bcell hB0).1 _ _ hg).trans e3
 have ze4:=((bcell hB0).1 _ _ hg).trans e4
 have ze5:=((bcell hB0).1 _ _ hg).trans e5
 have ze6:=((bcell hB0).1 _ _ hg).trans e6
 have ze7:=((bcell hB0).1 _ _ hg).trans e7
 have ze8:=((bcell hB0).1 _ _ hg).trans e8
 have ze9:=((bcell hB0).1 _ _ hg).trans e9
 have zea_:=((bcell hB0).1 _ _ hg).trans ea_
 have zeb_:=((bcell hB0).1 _ _ hg).trans eb_
 have c9':=fun p:BelOf W0 => cell_bel c9 p
 have cb':=fun p:BelOf W0 => cell_bel cb p
 have ze0':=fun p:BelOf W0 => cell_bel ze0 p
 have ze1':=fun p:BelOf W0 => cell_bel ze1 p
 have ze2':=fun p:BelOf W0 => cell_bel ze2 p
 have ze3':=fun p:BelOf W0 => cell_bel ze3 p
 have ze4':=fun p:BelOf W0 => cell_bel ze4 p
 have ze5':=fun p:BelOf W0 => cell_bel ze5 p
 have ze6':=fun p:BelOf W0 => cell_bel ze6 p
 have ze7':=fun p:BelOf W0 => cell_bel ze7 p
 have ze8':=fun p:BelOf W0 => cell_bel ze8 p
 have ze9':=fun p:BelOf W0 => cell_bel ze9 p
 have zea_':=fun p:BelOf W0 => cell_bel zea_ p
 have zeb_':=fun p:BelOf W0 => cell_bel zeb_ p
 have HB0:=Lib.hid hB0
 have HW:=Lib.hid hW0
 clear hW0 hB0 hbx hcs hR hox hdt hday hsok hsx hss hns hnm1 hnm2 hnm3 hnd hz hzx hlen2 hex hds hel ih hg hy0 hm0 hc0 hys0 hls0 hx0 hD hDl hDs hI0 hI0l hI0s hDn hdr e0 ze0 e1 ze1 e2 ze2 e3 ze3 e4 ze4 e5 ze5 e6 ze6 e7 ze7 e8 ze8 e9 ze9 ea_ zea_ eb_ zeb_
 go_enter Tryz.func16,Tryz.ntmps16
 go_wp2_with fail
 rw [← HW.out]
 clear HW c0 c1 c2 c3 c4 c5 c6 c7 c8 c9 ca cb
 refine region_bel (by kernel_rfl) (by kernel_rfl) ?_
 repeat (quiet_step (first
  | (go_at_call 39;with_reducible exact bel_of (HDD.out _))
  | (go_at_call 38;first | with_reducible exact bel_of (HI0.out _ (BelOf.h _)))))
 refine wpQuiet_nil ?_
 intro w3 hw
 obtain ⟨⟨w4,hb⟩,hw⟩:=hw
 subst hw
 have HC:=Lib.hid hb
 clear hb
 go_wp2_with fail
 go_ret
 exact ⟨by rw [← HT.out];rfl,HB0.out.trans (HC.out.mono HB0.out.size)⟩
end Go.Proofs.YtijkefflpojmhaaGreatDoor

namespace Go.Proofs.YtijkefflpojmhaaGreatDoor
open Go.RowKit
set_option maxHeartbeats 2000000 in
set_option maxRecDepth 100000 in
theorem rcontr_7 {n:Nat} (ih:RcC n) (x:Ct) (hk:x.kind=7) (cs:List Value) (w:World) (d:Nat) (h:CtAt (n+1) w cs x) (ho:OkC (n+1) x) (hs:CSm d x) (hz:x.size≤1000) :
  Calls Tryz.prog 16 #[.agg cs.toArray] w (RxP w (rcT (n+1) x)):=by
 obtain ⟨ea,el,ec,da,dl,dc,a,len,cap,rfl,hex,hds,hlen2,hsub⟩:=h
 have hcs:(ctCells x ea el ec da dl dc a len cap).toArray = #[.int .u8 7,.string x.frm,.string x.too,.string x.name,.int .u8 x.expr.kind,.string x.expr.rat,.string x.expr.name,.int .i64 x.expr.date,.slice ea el ec,.int .i64 x.date,.slice da dl dc,.slice a len cap]:=by unfold ctCells;rw [hk]
 rw [hcs]
 match d,hs with
 | d+1,hs =>
 have hzx:=x.expr_size
 obtain ⟨_,hns,hox,hdt,_,hday,hsok⟩:=ho
 obtain ⟨⟨hnm1,hnm2,hnm3,hnd⟩,hsx,hss⟩:=hs
 obtain rfl:len=2:=by rw [← hlen2,hns,hk];rfl
 rcases hsub with h0 | ⟨g,o,rfl,hg,hel⟩
 ·omega
 obtain ⟨y0,hy0,eap,elp,ecp,dap,dlp,dcp,ap,lenp,capp,⟨e0,e1,e2,e3,e4,e5,e6,e7,e8,e9,ea_,eb_⟩,hx0⟩:=CtAt.elem (k:=0) hg (Below.refl _ w) (by rw [hlen2];omega) hel
 simp only [Nat.zero_mul,Nat.add_zero] at e0 e1 e2 e3 e4 e5 e6 e7 e8 e9 ea_ eb_
 have hm0:y0 ∈ x.sub:=by rw [hy0];exact List.getElem_mem _
 have hc0:crt x 0=y0:=by rw [hy0];unfold crt;rw [List.getElem?_eq_getElem (by rw [hlen2];omega)];rfl
 have hys0:=Ct.sub_size hm0
 have hls0:=rcT_small (hsok _ hm0) (hss _ hm0) (by omega)
 obtain ⟨y1,hy1,eaq,elq,ecq,daq,dlq,dcq,aq,lenq,capq,⟨f0,f1,f2,f3,f4,f5,f6,f7,f8,f9,fa_,fb_⟩,hx1⟩:=CtAt.elem (k:=1) hg (Below.refl _ w) (by rw [hlen2];omega) hel
 simp only [Nat.one_mul] at f0 f1 f2 f3 f4 f5 f6 f7 f8 f9 fa_ fb_
 have hm1:y1 ∈ x.sub:=by rw [hy1];exact List.getElem_mem _
 have hc1:crt x 1=y1:=by rw [hy1];unfold crt;rw [List.getElem?_eq_getElem (by rw [hlen2];omega)];rfl
 have hys1:=Ct.sub_size hm1
 have hls1:=rcT_small (hsok _ hm1) (hss _ hm1) (by omega)
 obtain ⟨W0,hW0⟩:∃ W0,W0=w.alloc (.cells #[.int .u8 7,.string x.frm,.string x.too,.string x.name,.int .u8 x.expr.kind,.string x.expr.rat,.string x.expr.name,.int .i64 x.expr.date,.slice ea el ec,.int .i64 x.date,.slice da dl dc,.slice (some ⟨g,o,none⟩) 2 cap] 29):=⟨_,rfl⟩
 have hB0:Below w.heap.size w W0:=by rw [hW0];exact own_below w _
 have hbx:W0.heap[w.heap.size]? = some (.cells #[.int .u8 7,.string x.frm,.string x.too,.string x.name,.int .u8 x.expr.kind,.string x.expr.rat,.string x.expr.name,.int .i64 x.expr.date,.slice ea el ec,.int .i64 x.date,.slice da dl dc,.slice (some ⟨g,o,none⟩) 2 cap] 29):=by rw [hW0];exact alloc_at _ _
 obtain ⟨q,hq⟩:∃ v:ByteArray,v=qn x.name:=⟨_,rfl⟩
 have hql:q.data.toList=(qn x.name).data.toList:=by rw [hq]
 have hqs:=ba_size hql
 have hqn:=qn_len2 x.name
 obtain ⟨r,hr⟩:∃ v:ByteArray,v=qn x.frm:=⟨_,rfl⟩
 have hrl:r.data.toList=(qn x.frm).data.toList:=by rw [hr]
 have hrs:=ba_size hrl
 have hrn:=qn_len2 x.frm
 obtain ⟨I0,hI0⟩:∃ v:ByteArray,v=⟨(inT (rcT n y0)).toArray⟩:=⟨_,rfl⟩
 have hI0l:I0.data.toList=inT (rcT n y0):=by rw [hI0]
 have hI0s:=ba_size hI0l
 obtain ⟨I1,hI1⟩:∃ v:ByteArray,v=⟨(inT (rcT n y1)).toArray⟩:=⟨_,rfl⟩
 have hI1l:I1.data.toList=inT (rcT n y1):=by rw [hI1]
 have hI1s:=ba_size hI1l
 have hR:rcT (n+1) x=[99,104,111,105,99,101,32] ++ q.data.toList ++ [32,98,121,32] ++ r.data.toList ++ [32] ++ I0.data.toList ++ [32,101,108,115,101,32] ++ I1.data.toList:=by
  rw [rcT,if_neg (by omega),if_neg (by omega),if_neg (by omega),if_pos (by omega),hc0,hc1]
  unfold headT
  rw [if_neg (by omega),if_neg (by omega),if_neg (by omega),if_pos hk]
  rw [hql,hrl,hI0l,hI1l]
 have HT:Hid (ByteArray.mk #[99,104,111,105,99,101,32] ++ q ++ ByteArray.mk #[32,98,121,32] ++ r ++ ByteArray.mk #[32] ++ I0 ++ ByteArray.mk #[32,101,108,115,101,32] ++ I1=⟨(rcT (n+1) x).toArray⟩):=ba_eq (by rw [hR];simp)
 have n1:¬ 9223372036854775807 < 7+q.size:=by omega
 have n2:¬ 9223372036854775807 < 7+q.size+4:=by omega
 have n3:¬ 9223372036854775807 < 7+q.size+4+r.size:=by omega
 have n4:¬ 9223372036854775807 < 7+q.size+4+r.size+1:=by omega
 have n5:¬ 9223372036854775807 < 7+q.size+4+r.size+1+I0.size:=by omega
 have n6:¬ 9223372036854775807 < 7+q.size+4+r.size+1+I0.size+6:=by omega
 have n7:¬ 9223372036854775807 < 7+q.size+4+r.size+1+I0.size+6+I1.size:=by omega
 have HNq:Hid (∀ W,Calls Tryz.prog 35 #[.string x.name] W (fun e w' => e = .returned (.string q)∧Below W.heap.size W w')):=fun W => by rw [hq];exact rqname_any _ W
 have HNr:Hid (∀ W,Calls Tryz.prog 35 #[.string x.frm] W (fun e w' => e = .returned (.string r)∧Below W.heap.size W w')):=fun W => by rw [hr];exact rqname_any _ W
 have HI0:Hid (∀ W,Below W0.heap.size W0 W→Calls Tryz.prog 38 #[.agg #[.int .u8 y0.kind,.string y0.frm,.string y0.too,.string y0.name,.int .u8 y0.expr.kind,.string y0.expr.rat,.string y0.expr.name,.int .i64 y0.expr.date,.slice eap elp ecp,.int .i64 y0.date,.slice dap dlp dcp,.slice ap lenp capp]] W (fun e w' => e = .returned (.string I0)∧Below W.heap.size W w')):=fun W hW => by
  have:=rin_of ih y0 eap elp ecp dap dlp dcp ap lenp capp W d (CtAt.below (hB0.trans (hW.mono hB0.size)) hx0) (hsok _ hm0) (hss _ hm0) (by omega)
  unfold RxP at this;rwa [← hI0] at this
 have HI1:Hid (∀ W,Below W0.heap.size W0 W→Calls Tryz.prog 38 #[.agg #[.int .u8 y1.kind,.string y1.frm,.string y1.too,.string y1.name,.int .u8 y1.expr.kind,.string y1.expr.rat,.string y1.expr.name,.int .i64 y1.expr.date,.slice eaq elq ecq,.int .i64 y1.date,.slice daq dlq dcq,.slice aq lenq capq]] W (fun e w' => e = .returned (.string I1)∧Below W.heap.size W w')):=fun W hW => by
  have:=rin_of ih y1 eaq elq ecq daq dlq dcq aq lenq capq W d (CtAt.below (hB0.trans (hW.mono hB0.size)) hx1) (hsok _ hm1) (hss _ hm1) (by omega)
  unfold RxP at this;rwa [← hI1] at this
 obtain ⟨c0,c1,c2,c3,c4,c5,c6,c7,c8,c9,ca,cb⟩:=ctBox hbx
 have ze0:=((bcell hB0).1 _ _ hg).trans e0
 have ze1:=((bcell hB0).1 _ _ hg).trans e1
 have ze2:=((bcell hB0).1 _ _ hg).trans e2
 have ze3:=((bcell hB0).1 _ _ hg).trans e3
 have ze4:=((bcell hB0).1 _ _ hg).trans e4
 have ze5:=((bcell hB0).1 _ _ hg).trans e5
 have ze6:=((bcell hB0).1 _ _ hg).trans e6
 have ze7:=((bcell hB0).1 _ _ hg).trans e7
 have ze8:=((bcell hB0).1 _ _ hg).trans e8
 have ze9:=((bcell hB0).1 _ _ hg).trans e9
 have zea_:=((bcell hB0).1 _ _ hg).trans ea_
 have zeb_:=((bcell hB0).1 _ _ hg).trans eb_
 have zf0:=((bcell hB0).1 _ _ hg).trans f0
 have zf1:=((bcell hB0).1 _ _ hg).trans f1
 have zf2:=((bcell hB0).1 _ _ hg).trans f2
 have zf3:=((bcell hB0).1 _ _ hg).trans f3
 have zf4:=((bcell hB0).1 _ _ hg).trans f4
 have zf5:=((bcell hB0).1 _ _ hg).trans f5
 have zf6:=((bcell hB0).1 _ _ hg).trans f6
 have zf7:=((bcell hB0).1 _ _ hg).trans f7
 have zf8:=((bcell hB0).1 _ _ hg).trans f8
 have zf9:=((bcell hB0).1 _ _ hg).trans f9
 have zfa_:=((bcell hB0).1 _ _ hg).trans fa_
 have zfb_:=((bcell hB0).1 _ _ hg).trans fb_
 have c1':=fun p:BelOf W0 => cell_bel c1 p
 have c3':=fun p:BelOf W0 => cell_bel c3 p
 have cb':=fun p:BelOf W0 => cell_bel cb p
 have ze0':=fun p:BelOf W0 => cell_bel ze0 p
 have ze1':=fun p:BelOf W0 => cell_bel ze1 p
 have ze2':=fun p:BelOf W0 => cell_bel ze2 p
 have ze3':=fun p:BelOf W0 => cell_bel ze3 p
 have ze4':=fun p:BelOf W0 => cell_bel ze4 p
 have ze5':=fun p:BelOf W0 => cell_bel ze5 p
 have ze6':=fun p:BelOf W0 => cell_bel ze6 p
 have ze7':=fun p:BelOf W0 => cell_bel ze7 p
 have ze8':=fun p:BelOf W0 => cell_bel ze8 p
 have ze9':=fun p:BelOf W0 => cell_bel ze9 p
 have zea_':=fun p:BelOf W0 => cell_bel zea_ p
 have zeb_':=fun p:BelOf W0 => cell_bel zeb_ p
 have zf0':=fun p:BelOf W0 => cell_bel zf0 p
 have zf1':=fun p:BelOf W0 => cell_bel zf1 p
 have zf2':=fun p:BelOf W0 => cell_bel zf2 p
 have zf3':=fun p:BelOf W0 => cell_bel zf3 p
 have zf4':=fun p:BelOf W0 => cell_bel zf4 p
 have zf5':=fun p:BelOf W0 => cell_bel zf5 p
 have zf6':=fun p:BelOf W0 => cell_bel zf6 p
 have zf7':=fun p:BelOf W0 => cell_bel zf7 p
 have zf8':=fun p:BelOf W0 => cell_bel zf8 p
 have zf9':=fun p:BelOf W0 => cell_bel zf9 p
 have zfa_':=fun p:BelOf W0 => cell_bel zfa_ p
 have zfb_':=fun p:BelOf W0 => cell_bel zfb_ p
 have HB0:=Lib.hid hB0
 have HW:=Lib.hid hW0
 clear hW0 hB0 hbx hcs hR hox hdt hday hsok hsx hss hns hnm1 hnm2 hnm3 hnd hz hzx hlen2 hex hds hel ih hg hy0 hm0 hc0 hys0 hls0 hx0 hy1 hm1 hc1 hys1 hls1 hx1 hq hql hqs hr hrl hrs hI0 hI0l hI0s hI1 hI1l hI1s hqn hrn e0 ze0 e1 ze1 e2 ze2 e3 ze3 e4 ze4 e5 ze5 e6 ze6 e7 ze7 e8 ze8 e9 ze9 ea_ zea_ eb_ zeb_ f0 zf0 f1 zf1 f2 zf2 f3 zf3 f4 zf4 f5 zf5 f6 zf6 f7 zf7 f8 zf8 f9 zf9 fa_ zfa_ fb_ zfb_
 go_enter Tryz.func16,Tryz.ntmps16
 go_wp2_with fail
 rw [← HW.out]
 clear HW c0 c1 c2 c3 c4 c5 c6 c7 c8 c9 ca cb
 refine region_bel (by kernel_rfl) (by kernel_rfl) ?_
 repeat (quiet_step (first
  | (go_at_call 35;first | with_reducible exact bel_of (HNq.out _) | with_reducible exact bel_of (HNr.out _))
  | (go_at_call 38;first | with_reducible exact bel_of (HI0.out _ (BelOf.h _)) | with_reducible exact bel_of (HI1.out _ (BelOf.h _)))))
 refine wpQuiet_nil ?_
 intro w3 hw
 obtain ⟨⟨w4,hb⟩,hw⟩:=hw
 subst hw
 have HC:=Lib.hid hb
 clear hb
 go_wp2_with fail
 go_ret
 exact ⟨by rw [← HT.out];rfl,HB0.out.trans (HC.out.mono HB0.out.size)⟩
end Go.Proofs.YtijkefflpojmhaaGreatDoor

namespace Go.Proofs.YtijkefflpojmhaaGreatDoor
open Go.RowKit
set_option maxHeartbeats 2000000 in
set_option maxRecDepth 100000 in
theorem rcontr_8 {n:Nat} (ih:RcC n) (x:Ct) (hk:x.kind=8) (cs:List Value) (w:World) (d:Nat) (h:CtAt (n+1) w cs x) (ho:OkC (n+1) x) (hs:CSm d x) (hz:x.size≤1000) :
  Calls Tryz.prog 16 #[.agg cs.toArray] w (RxP w (rcT (n+1) x)):=by
 obtain ⟨ea,el,ec,da,dl,dc,a,len,cap,rfl,hex,hds,hlen2,hsub⟩:=h
 have hcs:(ctCells x ea el ec da dl dc a len cap).toArray = #[.int .u8 8,.string x.frm,.string x.too,.string x.name,.int .u8 x.expr.kind,.string x.expr.rat,.string x.expr.name,.int .i64 x.expr.date,.slice ea el ec,.int .i64 x.date,.slice da dl dc,.slice a len cap]:=by unfold ctCells;rw [hk]
 rw [hcs]
 match d,hs with
 | d+1,hs =>
 have hzx:=x.expr_size
 obtain ⟨_,hns,hox,hdt,_,hday,hsok⟩:=ho
 obtain ⟨⟨hnm1,hnm2,hnm3,hnd⟩,hsx,hss⟩:=hs
 obtain rfl:len=1:=by rw [← hlen2,hns,hk];rfl
 rcases hsub with h0 | ⟨g,o,rfl,hg,hel⟩
 ·omega
 obtain ⟨y0,hy0,eap,elp,ecp,dap,dlp,dcp,ap,lenp,capp,⟨e0,e1,e2,e3,e4,e5,e6,e7,e8,e9,ea_,eb_⟩,hx0⟩:=CtAt.elem (k:=0) hg (Below.refl _ w) (by rw [hlen2];omega) hel
 simp only [Nat.zero_mul,Nat.add_zero] at e0 e1 e2 e3 e4 e5 e6 e7 e8 e9 ea_ eb_
 have hm0:y0 ∈ x.sub:=by rw [hy0];exact List.getElem_mem _
 have hc0:crt x 0=y0:=by rw [hy0];unfold crt;rw [List.getElem?_eq_getElem (by rw [hlen2];omega)];rfl
 have hys0:=Ct.sub_size hm0
 have hls0:=rcT_small (hsok _ hm0) (hss _ hm0) (by omega)
 obtain ⟨W0,hW0⟩:∃ W0,W0=w.alloc (.cells #[.int .u8 8,.string x.frm,.string x.too,.string x.name,.int .u8 x.expr.kind,.string x.expr.rat,.string x.expr.name,.int .i64 x.expr.date,.slice ea el ec,.int .i64 x.date,.slice da dl dc,.slice (some ⟨g,o,none⟩) 1 cap] 29):=⟨_,rfl⟩
 have hB0:Below w.heap.size w W0:=by rw [hW0];exact own_below w _
 have hbx:W0.heap[w.heap.size]? = some (.cells #[.int .u8 8,.string x.frm,.string x.too,.string x.name,.int .u8 x.expr.kind,.string x.expr.rat,.string x.expr.name,.int .i64 x.expr.date,.slice ea el ec,.int .i64 x.date,.slice da dl dc,.slice (some ⟨g,o,none⟩) 1 cap] 29):=by rw [hW0];exact alloc_at _ _
 obtain ⟨q,hq⟩:∃ v:ByteArray,v=qn x.name:=⟨_,rfl⟩
 have hql:q.data.toList=(qn x.name).data.toList:=by rw [hq]
 have hqs:=ba_size hql
 have hqn:=qn_len2 x.name
 obtain ⟨r,hr⟩:∃ v:ByteArray,v=qn x.frm:=⟨_,rfl⟩
 have hrl:r.data.toList=(qn x.frm).data.toList:=by rw [hr]
 have hrs:=ba_size hrl
 have hrn:=qn_len2 x.frm
 obtain ⟨T,hT⟩:∃ v:ByteArray,v=⟨(daysT x.dates).toArray⟩:=⟨_,rfl⟩
 have hTl:T.data.toList=daysT x.dates:=by rw [hT]
 have hTs:=ba_size hTl
 have hTn:=daysT_len x.dates
 have hday2:=hday (by omega)
 obtain ⟨I0,hI0⟩:∃ v:ByteArray,v=⟨(inT (rcT n y0)).toArray⟩:=⟨_,rfl⟩
 have hI0l:I0.data.toList=inT (rcT n y0):=by rw [hI0]
 have hI0s:=ba_size hI0l
 have hR:rcT (n+1) x=[99,97,108,108,32] ++ q.data.toList ++ [32,98,121,32] ++ r.data.toList ++ [32,111,110,32] ++ T.data.toList ++ [32] ++ I0.data.toList:=by
  rw [rcT,if_neg (by omega),if_neg (by omega),if_neg (by omega),if_neg (by omega),hc0]
  unfold headT onT
  rw [if_neg (by omega),if_neg (by omega),if_neg (by omega),if_neg (by omega),if_pos hk]
  rw [if_neg (hday (by omega)).2.2]
  rw [hql,hrl,hTl,hI0l]
  simp [List.append_assoc]
 have HT:Hid (ByteArray.mk #[99,97,108,108,32] ++ q ++ ByteArray.mk #[32,98,121,32] ++ r ++ ByteArray.mk #[32,111,110,32] ++ T ++ ByteArray.mk #[32] ++ I0=⟨(rcT (n+1) x).toArray⟩):=ba_eq (by rw [hR];simp)
 have n1:¬ 9223372036854775807 < 5+q.size:=by omega
 have n2:¬ 9223372036854775807 < 5+q.size+4:=by omega
 have n3:¬ 9223372036854775807 < 5+q.size+4+r.size:=by omega
 have n4:¬ 9223372036854775807 < 5+q.size+4+r.size+4:=by omega
 have n5:¬ 9223372036854775807 < 5+q.size+4+r.size+4+T.size:=by omega
 have n6:¬ 9223372036854775807 < 5+q.size+4+r.size+4+T.size+1:=by omega
 have n7:¬ 9223372036854775807 < 5+q.size+4+r.size+4+T.size+1+I0.size:=by omega
 have HNq:Hid (∀ W,Calls Tryz.prog 35 #[.string x.name] W (fun e w' => e = .returned (.string q)∧Below W.heap.size W w')):=fun W => by rw [hq];exact rqname_any _ W
 have HNr:Hid (∀ W,Calls Tryz.prog 35 #[.string x.frm] W (fun e w' => e = .returned (.string r)∧Below W.heap.size W w')):=fun W => by rw [hr];exact rqname_any _ W
 have HDT:Hid (∀ W,Below W0.heap.size W0 W→Calls Tryz.prog 40 #[.slice da dl dc] W (fun e w' => e = .returned (.string T)∧Below W.heap.size W w')):=fun W hW => by
  have:=rdayl_any x.dates da dl dc W (hds.below (hB0.trans (hW.mono hB0.size))) hday2.1 hday2.2.1
  unfold RxP at this;rwa [← hT] at this
 have HI0:Hid (∀ W,Below W0.heap.size W0 W→Calls Tryz.prog 38 #[.agg #[.int .u8 y0.kind,.string y0.frm,.string y0.too,.string y0.name,.int .u8 y0.expr.kind,.string y0.expr.rat,.string y0.expr.name,.int .i64 y0.expr.date,.slice eap elp ecp,.int .i64 y0.date,.slice dap dlp dcp,.slice ap lenp capp]] W (fun e w' => e = .returned (.string I0)∧Below W.heap.size W w')):=fun W hW => by
  have:=rin_of ih y0 eap elp ecp dap dlp dcp ap lenp capp W d (CtAt.below (hB0.trans (hW.mono hB0.size)) hx0) (hsok _ hm0) (hss _ hm0) (by omega)
  unfold RxP at this;rwa [← hI0] at this
 obtain ⟨c0,c1,c2,c3,c4,c5,c6,c7,c8,c9,ca,cb⟩:=ctBox hbx
 have ze0:=((bcell hB0).1 _ _ hg).trans e0
 have ze1:=((bcell hB0).1 _ _ hg).trans e1
 have ze2:=((bcell hB0).1 _ _ hg).trans e2
 have ze3:=((bcell hB0).1 _ _ hg).trans e3
 have ze4:=((bcell hB0).1 _ _ hg).trans e4
 have ze5:=((bcell hB0).1 _ _ hg).trans e5
 have ze6:=((bcell hB0).1 _ _ hg).trans e6
 have ze7:=((bcell hB0).1 _ _ hg).trans e7
 have ze8:=((bcell hB0).1 _ _ hg).trans e8
 have ze9:=((bcell hB0).1 _ _ hg).trans e9
 have zea_:=((bcell hB0).1 _ _ hg).trans ea_
 have zeb_:=((bcell hB0).1 _ _ hg).trans eb_
 have c1':=fun p:BelOf W0 => cell_bel c1 p
 have c3':=fun p:BelOf W0 => cell_bel c3 p
 have ca':=fun p:BelOf W0 => cell_bel ca p
 have cb':=fun p:BelOf W0 => cell_bel cb p
 have ze0':=fun p:BelOf W0 => cell_bel ze0 p
 have ze1':=fun p:BelOf W0 => cell_bel ze1 p
 have ze2':=fun p:BelOf W0 => cell_bel ze2 p
 have ze3':=fun p:BelOf W0 => cell_bel ze3 p
 have ze4':=fun p:BelOf W0 => cell_bel ze4 p
 have ze5':=fun p:BelOf W0 => cell_bel ze5 p
 have ze6':=fun p:BelOf W0 => cell_bel ze6 p
 have ze7':=fun p:BelOf W0 => cell_bel ze7 p
 have ze8':=fun p:BelOf W0 => cell_bel ze8 p
 have ze9':=fun p:BelOf W0 => cell_bel ze9 p
 have zea_':=fun p:BelOf W0 => cell_bel zea_ p
 have zeb_':=fun p:BelOf W0 => cell_bel zeb_ p
 have HB0:=Lib.hid hB0
 have HW:=Lib.hid hW0
 clear hW0 hB0 hbx hcs hR hox hdt hday hsok hsx hss hns hnm1 hnm2 hnm3 hnd hz hzx hlen2 hex hds hel ih hg hy0 hm0 hc0 hys0 hls0 hx0 hq hql hqs hr hrl hrs hT hTl hTs hI0 hI0l hI0s hqn hrn hTn hday2 e0 ze0 e1 ze1 e2 ze2 e3 ze3 e4 ze4 e5 ze5 e6 ze6 e7 ze7 e8 ze8 e9 ze9 ea_ zea_ eb_ zeb_
 go_enter Tryz.func16,Tryz.ntmps16
 go_wp2_with fail
 rw [← HW.out]
 clear HW c0 c1 c2 c3 c4 c5 c6 c7 c8 c9 ca cb
 refine region_bel (by kernel_rfl) (by kernel_rfl) ?_
 repeat (quiet_step (first
  | (go_at_call 35;first | with_reducible exact bel_of (HNq.out _) | with_reducible exact bel_of (HNr.out _))
  | (go_at_call 40;with_reducible exact bel_of (HDT.out _ (BelOf.h _)))
  | (go_at_call 38;first | with_reducible exact bel_of (HI0.out _ (BelOf.h _)))))
 refine wpQuiet_nil ?_
 intro w3 hw
 obtain ⟨⟨w4,hb⟩,hw⟩:=hw
 subst hw
 have HC:=Lib.hid hb
 clear hb
 go_wp2_with fail
 go_ret
 exact ⟨by rw [← HT.out];rfl,HB0.out.trans (HC.out.mono HB0.out.size)⟩
end Go.Proofs.YtijkefflpojmhaaGreatDoor

namespace Go.Proofs.YtijkefflpojmhaaGreatDoor
open Go.RowKit
set_option maxHeartbeats 2000000 in
set_option maxRecDepth 100000 in
theorem rcontr_9 {n:Nat} (ih:RcC n) (x:Ct) (hk:x.kind=9) (cs:List Value) (w:World) (d:Nat) (h:CtAt (n+1) w cs x) (ho:OkC (n+1) x) (hs:CSm d x) (hz:x.size≤1000) :
  Calls Tryz.prog 16 #[.agg cs.toArray] w (RxP w (rcT (n+1) x)):=by
 obtain ⟨ea,el,ec,da,dl,dc,a,len,cap,rfl,hex,hds,hlen2,hsub⟩:=h
 have hcs:(ctCells x ea el ec da dl dc a len cap).toArray = #[.int .u8 9,.string x.frm,.string x.too,.string x.name,.int .u8 x.expr.kind,.string x.expr.rat,.string x.expr.name,.int .i64 x.expr.date,.slice ea el ec,.int .i64 x.date,.slice da dl dc,.slice a len cap]:=by unfold ctCells;rw [hk]
 rw [hcs]
 match d,hs with
 | d+1,hs =>
 have hzx:=x.expr_size
 obtain ⟨_,hns,hox,hdt,_,hday,hsok⟩:=ho
 obtain ⟨⟨hnm1,hnm2,hnm3,hnd⟩,hsx,hss⟩:=hs
 obtain rfl:len=1:=by rw [← hlen2,hns,hk];rfl
 rcases hsub with h0 | ⟨g,o,rfl,hg,hel⟩
 ·omega
 obtain ⟨y0,hy0,eap,elp,ecp,dap,dlp,dcp,ap,lenp,capp,⟨e0,e1,e2,e3,e4,e5,e6,e7,e8,e9,ea_,eb_⟩,hx0⟩:=CtAt.elem (k:=0) hg (Below.refl _ w) (by rw [hlen2];omega) hel
 simp only [Nat.zero_mul,Nat.add_zero] at e0 e1 e2 e3 e4 e5 e6 e7 e8 e9 ea_ eb_
 have hm0:y0 ∈ x.sub:=by rw [hy0];exact List.getElem_mem _
 have hc0:crt x 0=y0:=by rw [hy0];unfold crt;rw [List.getElem?_eq_getElem (by rw [hlen2];omega)];rfl
 have hys0:=Ct.sub_size hm0
 have hls0:=rcT_small (hsok _ hm0) (hss _ hm0) (by omega)
 obtain ⟨W0,hW0⟩:∃ W0,W0=w.alloc (.cells #[.int .u8 9,.string x.frm,.string x.too,.string x.name,.int .u8 x.expr.kind,.string x.expr.rat,.string x.expr.name,.int .i64 x.expr.date,.slice ea el ec,.int .i64 x.date,.slice da dl dc,.slice (some ⟨g,o,none⟩) 1 cap] 29):=⟨_,rfl⟩
 have hB0:Below w.heap.size w W0:=by rw [hW0];exact own_below w _
 have hbx:W0.heap[w.heap.size]? = some (.cells #[.int .u8 9,.string x.frm,.string x.too,.string x.name,.int .u8 x.expr.kind,.string x.expr.rat,.string x.expr.name,.int .i64 x.expr.date,.slice ea el ec,.int .i64 x.date,.slice da dl dc,.slice (some ⟨g,o,none⟩) 1 cap] 29):=by rw [hW0];exact alloc_at _ _
 obtain ⟨E,hE⟩:∃ v:ByteArray,v=⟨(rexT (n+1) x.expr).toArray⟩:=⟨_,rfl⟩
 have hEl:E.data.toList=rexT (n+1) x.expr:=by rw [hE]
 have hEs:=ba_size hEl
 have hEo:=hox (by unfold HasEx;omega)
 have hEn:=rexT_len (n+1) x.expr _ hEo.1 hsx
 obtain ⟨T,hT⟩:∃ v:ByteArray,v=⟨(daysT x.dates).toArray⟩:=⟨_,rfl⟩
 have hTl:T.data.toList=daysT x.dates:=by rw [hT]
 have hTs:=ba_size hTl
 have hTn:=daysT_len x.dates
 have hday2:=hday (by omega)
 obtain ⟨I0,hI0⟩:∃ v:ByteArray,v=⟨(inT (rcT n y0)).toArray⟩:=⟨_,rfl⟩
 have hI0l:I0.data.toList=inT (rcT n y0):=by rw [hI0]
 have hI0s:=ba_size hI0l
 have hR:rcT (n+1) x=[117,110,116,105,108,32] ++ E.data.toList ++ [32,111,110,32] ++ T.data.toList ++ [32] ++ I0.data.toList:=by
  rw [rcT,if_neg (by omega),if_neg (by omega),if_neg (by omega),if_neg (by omega),hc0]
  unfold headT wUntil onT
  rw [if_neg (by omega),if_neg (by omega),if_neg (by omega),if_neg (by omega),if_neg (by omega),if_pos hk]
  rw [if_neg (hday (by omega)).2.2]
  rw [hEl,hTl,hI0l]
  simp [List.append_assoc]
 have HT:Hid (ByteArray.mk #[117,110,116,105,108,32] ++ E ++ ByteArray.mk #[32,111,110,32] ++ T ++ ByteArray.mk #[32] ++ I0=⟨(rcT (n+1) x).toArray⟩):=ba_eq (by rw [hR];simp)
 have n1:¬ 9223372036854775807 < 6+E.size:=by omega
 have n2:¬ 9223372036854775807 < 6+E.size+4:=by omega
 have n3:¬ 9223372036854775807 < 6+E.size+4+T.size:=by omega
 have n4:¬ 9223372036854775807 < 6+E.size+4+T.size+1:=by omega
 have n5:¬ 9223372036854775807 < 6+E.size+4+T.size+1+I0.size:=by omega
 have HX:Hid (∀ W,Below W0.heap.size W0 W→Calls Tryz.prog 36 #[.agg #[.int .u8 x.expr.kind,.string x.expr.rat,.string x.expr.name,.int .i64 x.expr.date,.slice ea el ec]] W (fun e w' => e = .returned (.string E)∧Below W.heap.size W w')):=fun W hW => by
  have:=rexpr_all (n+1) x.expr _ W (ExAt.below (hB0.trans (hW.mono hB0.size)) hex) hEo.1 (by omega)
  unfold RxP at this;rwa [← hE] at this
 have HDT:Hid (∀ W,Below W0.heap.size W0 W→Calls Tryz.prog 40 #[.slice da dl dc] W (fun e w' => e = .returned (.string T)∧Below W.heap.size W w')):=fun W hW => by
  have:=rdayl_any x.dates da dl dc W (hds.below (hB0.trans (hW.mono hB0.size))) hday2.1 hday2.2.1
  unfold RxP at this;rwa [← hT] at this
 have HI0:Hid (∀ W,Below W0.heap.size W0 W→Calls Tryz.prog 38 #[.agg #[.int .u8 y0.kind,.string y0.frm,.string y0.too,.string y0.name,.int .u8 y0.expr.kind,.string y0.expr.rat,.string y0.expr.name,.int .i64 y0.expr.date,.slice eap elp ecp,.int .i64 y0.date,.slice dap dlp dcp,.slice ap lenp capp]] W (fun e w' => e = .returned (.string I0)∧Below W.heap.size W w')):=fun W hW => by
  have:=rin_of ih y0 eap elp ecp dap dlp dcp ap lenp capp W d (CtAt.below (hB0.trans (hW.mono hB0.size)) hx0) (hsok _ hm0) (hss _ hm0) (by omega)
  unfold RxP at this;rwa [← hI0] at this
 obtain ⟨c0,c1,c2,c3,c4,c5,c6,c7,c8,c9,ca,cb⟩:=ctBox hbx
 have ze0:=((bcell hB0).1 _ _ hg).trans e0
 have ze1:=((bcell hB0).1 _ _ hg).trans e1
 have ze2:=((bcell hB0).1 _ _ hg).trans e2
 have ze3:=((bcell hB0).1 _ _ hg).trans e3
 have ze4:=((bcell hB0).1 _ _ hg).trans e4
 have ze5:=((bcell hB0).1 _ _ hg).trans e5
 have ze6:=((bcell hB0).1 _ _ hg).trans e6
 have ze7:=((bcell hB0).1 _ _ hg).trans e7
 have ze8:=((bcell hB0).1 _ _ hg).trans e8
 have ze9:=((bcell hB0).1 _ _ hg).trans e9
 have zea_:=((bcell hB0).1 _ _ hg).trans ea_
 have zeb_:=((bcell hB0).1 _ _ hg).trans eb_
 have c4':=fun p:BelOf W0 => cell_bel c4 p
 have c5':=fun p:BelOf W0 => cell_bel c5 p
 have c6':=fun p:BelOf W0 => cell_bel c6 p
 have c7':=fun p:BelOf W0 => cell_bel c7 p
 have c8':=fun p:BelOf W0 => cell_bel c8 p
 have ca':=fun p:BelOf W0 => cell_bel ca p
 have cb':=fun p:BelOf W0 => cell_bel cb p
 have ze0':=fun p:BelOf W0 => cell_bel ze0 p
 have ze1':=fun p:BelOf W0 => cell_bel ze1 p
 have ze2':=fun p:BelOf W0 => cell_bel ze2 p
 have ze3':=fun p:BelOf W0 => cell_bel ze3 p
 have ze4':=fun p:BelOf W0 => cell_bel ze4 p
 have ze5':=fun p:BelOf W0 => cell_bel ze5 p
 have ze6':=fun p:BelOf W0 => cell_bel ze6 p
 have ze7':=fun p:BelOf W0 => cell_bel ze7 p
 have ze8':=fun p:BelOf W0 => cell_bel ze8 p
 have ze9':=fun p:BelOf W0 => cell_bel ze9 p
 have zea_':=fun p:BelOf W0 => cell_bel zea_ p
 have zeb_':=fun p:BelOf W0 => cell_bel zeb_ p
 have HB0:=Lib.hid hB0
 have HW:=Lib.hid hW0
 clear hW0 hB0 hbx hcs hR hox hdt hday hsok hsx hss hns hnm1 hnm2 hnm3 hnd hz hzx hlen2 hex hds hel ih hg hy0 hm0 hc0 hys0 hls0 hx0 hE hEl hEs hT hTl hTs hI0 hI0l hI0s hEo hEn hTn hday2 e0 ze0 e1 ze1 e2 ze2 e3 ze3 e4 ze4 e5 ze5 e6 ze6 e7 ze7 e8 ze8 e9 ze9 ea_ zea_ eb_ zeb_
 go_enter Tryz.func16,Tryz.ntmps16
 go_wp2_with fail
 rw [← HW.out]
 clear HW c0 c1 c2 c3 c4 c5 c6 c7 c8 c9 ca cb
 refine region_bel (by kernel_rfl) (by kernel_rfl) ?_
 repeat (quiet_step (first
  | (go_at_call 36;with_reducible exact bel_of (HX.out _ (BelOf.h _)))
  | (go_at_call 40;with_reducible exact bel_of (HDT.out _ (BelOf.h _)))
  | (go_at_call 38;first | with_reducible exact bel_of (HI0.out _ (BelOf.h _)))))
 refine wpQuiet_nil ?_
 intro w3 hw
 obtain ⟨⟨w4,hb⟩,hw⟩:=hw
 subst hw
 have HC:=Lib.hid hb
 clear hb
 go_wp2_with fail
 go_ret
 exact ⟨by rw [← HT.out];rfl,HB0.out.trans (HC.out.mono HB0.out.size)⟩
end Go.Proofs.YtijkefflpojmhaaGreatDoor

namespace Go.Proofs.YtijkefflpojmhaaGreatDoor
open Go.RowKit
set_option maxHeartbeats 2000000 in
set_option maxRecDepth 100000 in
theorem rcontr_10 {n:Nat} (ih:RcC n) (x:Ct) (hk:x.kind=10) (cs:List Value) (w:World) (d:Nat) (h:CtAt (n+1) w cs x) (ho:OkC (n+1) x) (hs:CSm d x) (hz:x.size≤1000) :
  Calls Tryz.prog 16 #[.agg cs.toArray] w (RxP w (rcT (n+1) x)):=by
 obtain ⟨ea,el,ec,da,dl,dc,a,len,cap,rfl,hex,hds,hlen2,hsub⟩:=h
 have hcs:(ctCells x ea el ec da dl dc a len cap).toArray = #[.int .u8 10,.string x.frm,.string x.too,.string x.name,.int .u8 x.expr.kind,.string x.expr.rat,.string x.expr.name,.int .i64 x.expr.date,.slice ea el ec,.int .i64 x.date,.slice da dl dc,.slice a len cap]:=by unfold ctCells;rw [hk]
 rw [hcs]
 match d,hs with
 | d+1,hs =>
 have hzx:=x.expr_size
 obtain ⟨_,hns,hox,hdt,_,hday,hsok⟩:=ho
 obtain ⟨⟨hnm1,hnm2,hnm3,hnd⟩,hsx,hss⟩:=hs
 obtain rfl:len=1:=by rw [← hlen2,hns,hk];rfl
 rcases hsub with h0 | ⟨g,o,rfl,hg,hel⟩
 ·omega
 obtain ⟨y0,hy0,eap,elp,ecp,dap,dlp,dcp,ap,lenp,capp,⟨e0,e1,e2,e3,e4,e5,e6,e7,e8,e9,ea_,eb_⟩,hx0⟩:=CtAt.elem (k:=0) hg (Below.refl _ w) (by rw [hlen2];omega) hel
 simp only [Nat.zero_mul,Nat.add_zero] at e0 e1 e2 e3 e4 e5 e6 e7 e8 e9 ea_ eb_
 have hm0:y0 ∈ x.sub:=by rw [hy0];exact List.getElem_mem _
 have hc0:crt x 0=y0:=by rw [hy0];unfold crt;rw [List.getElem?_eq_getElem (by rw [hlen2];omega)];rfl
 have hys0:=Ct.sub_size hm0
 have hls0:=rcT_small (hsok _ hm0) (hss _ hm0) (by omega)
 obtain ⟨W0,hW0⟩:∃ W0,W0=w.alloc (.cells #[.int .u8 10,.string x.frm,.string x.too,.string x.name,.int .u8 x.expr.kind,.string x.expr.rat,.string x.expr.name,.int .i64 x.expr.date,.slice ea el ec,.int .i64 x.date,.slice da dl dc,.slice (some ⟨g,o,none⟩) 1 cap] 29):=⟨_,rfl⟩
 have hB0:Below w.heap.size w W0:=by rw [hW0];exact own_below w _
 have hbx:W0.heap[w.heap.size]? = some (.cells #[.int .u8 10,.string x.frm,.string x.too,.string x.name,.int .u8 x.expr.kind,.string x.expr.rat,.string x.expr.name,.int .i64 x.expr.date,.slice ea el ec,.int .i64 x.date,.slice da dl dc,.slice (some ⟨g,o,none⟩) 1 cap] 29):=by rw [hW0];exact alloc_at _ _
 obtain ⟨E,hE⟩:∃ v:ByteArray,v=⟨(rexT (n+1) x.expr).toArray⟩:=⟨_,rfl⟩
 have hEl:E.data.toList=rexT (n+1) x.expr:=by rw [hE]
 have hEs:=ba_size hEl
 have hEo:=hox (by unfold HasEx;omega)
 have hEn:=rexT_len (n+1) x.expr _ hEo.1 hsx
 obtain ⟨T,hT⟩:∃ v:ByteArray,v=⟨(daysT x.dates).toArray⟩:=⟨_,rfl⟩
 have hTl:T.data.toList=daysT x.dates:=by rw [hT]
 have hTs:=ba_size hTl
 have hTn:=daysT_len x.dates
 have hday2:=hday (by omega)
 obtain ⟨I0,hI0⟩:∃ v:ByteArray,v=⟨(inT (rcT n y0)).toArray⟩:=⟨_,rfl⟩
 have hI0l:I0.data.toList=inT (rcT n y0):=by rw [hI0]
 have hI0s:=ba_size hI0l
 have hR:rcT (n+1) x=[119,104,101,110,32] ++ E.data.toList ++ [32,111,110,32] ++ T.data.toList ++ [32] ++ I0.data.toList:=by
  rw [rcT,if_neg (by omega),if_neg (by omega),if_neg (by omega),if_neg (by omega),hc0]
  unfold headT wUntil onT
  rw [if_neg (by omega),if_neg (by omega),if_neg (by omega),if_neg (by omega),if_neg (by omega),if_neg (by omega)]
  rw [if_neg (hday (by omega)).2.2]
  rw [hEl,hTl,hI0l]
  simp [List.append_assoc]
 have HT:Hid (ByteArray.mk #[119,104,101,110,32] ++ E ++ ByteArray.mk #[32,111,110,32] ++ T ++ ByteArray.mk #[32] ++ I0=⟨(rcT (n+1) x).toArray⟩):=ba_eq (by rw [hR];simp)
 have n1:¬ 9223372036854775807 < 5+E.size:=by omega
 have n2:¬ 9223372036854775807 < 5+E.size+4:=by omega
 have n3:¬ 9223372036854775807 < 5+E.size+4+T.size:=by omega
 have n4:¬ 9223372036854775807 < 5+E.size+4+T.size+1:=by omega
 have n5:¬ 9223372036854775807 < 5+E.size+4+T.size+1+I0.size:=by omega
 have HX:Hid (∀ W,Below W0.heap.size W0 W→Calls Tryz.prog 36 #[.agg #[.int .u8 x.expr.kind,.string x.expr.rat,.string x.expr.name,.int .i64 x.expr.date,.slice ea el ec]] W (fun e w' => e = .returned (.string E)∧Below W.heap.size W w')):=fun W hW => by
  have:=rexpr_all (n+1) x.expr _ W (ExAt.below (hB0.trans (hW.mono hB0.size)) hex) hEo.1 (by omega)
  unfold RxP at this;rwa [← hE] at this
 have HDT:Hid (∀ W,Below W0.heap.size W0 W→Calls Tryz.prog 40 #[.slice da dl dc] W (fun e w' => e = .returned (.string T)∧Below W.heap.size W w')):=fun W hW => by
  have:=rdayl_any x.dates da dl dc W (hds.below (hB0.trans (hW.mono hB0.size))) hday2.1 hday2.2.1
  unfold RxP at this;rwa [← hT] at this
 have HI0:Hid (∀ W,Below W0.heap.size W0 W→Calls Tryz.prog 38 #[.agg #[.int .u8 y0.kind,.string y0.frm,.string y0.too,.string y0.name,.int .u8 y0.expr.kind,.string y0.expr.rat,.string y0.expr.name,.int .i64 y0.expr.date,.slice eap elp ecp,.int .i64 y0.date,.slice dap dlp dcp,.slice ap lenp capp]] W (fun e w' => e = .returned (.string I0)∧Below W.heap.size W w')):=fun W hW => by
  have:=rin_of ih y0 eap elp ecp dap dlp dcp ap lenp capp W d (CtAt.below (hB0.trans (hW.mono hB0.size)) hx0) (hsok _ hm0) (hss _ hm0) (by omega)
  unfold RxP at this;rwa [← hI0] at this
 obtain ⟨c0,c1,c2,c3,c4,c5,c6,c7,c8,c9,ca,cb⟩:=ctBox hbx
 have ze0:=((bcell hB0).1 _ _ hg).trans e0
 have ze1:=((bcell hB0).1 _ _ hg).trans e1
 have ze2:=((bcell hB0).1 _ _ hg).trans e2
 have ze3:=((bcell hB0).1 _ _ hg).trans e3
 have ze4:=((bcell hB0).1 _ _ hg).trans e4
 have ze5:=((bcell hB0).1 _ _ hg).trans e5
 have ze6:=((bcell hB0).1 _ _ hg).trans e6
 have ze7:=((bcell hB0).1 _ _ hg).trans e7
 have ze8:=((bcell hB0).1 _ _ hg).trans e8
 have ze9:=((bcell hB0).1 _ _ hg).trans e9
 have zea_:=((bcell hB0).1 _ _ hg).trans ea_
 have zeb_:=((bcell hB0).1 _ _ hg).trans eb_
 have c4':=fun p:BelOf W0 => cell_bel c4 p
 have c5':=fun p:BelOf W0 => cell_bel c5 p
 have c6':=fun p:BelOf W0 => cell_bel c6 p
 have c7':=fun p:BelOf W0 => cell_bel c7 p
 have c8':=fun p:BelOf W0 => cell_bel c8 p
 have ca':=fun p:BelOf W0 => cell_bel ca p
 have cb':=fun p:BelOf W0 => cell_bel cb p
 have ze0':=fun p:BelOf W0 => cell_bel ze0 p
 have ze1':=fun p:BelOf W0 => cell_bel ze1 p
 have ze2':=fun p:BelOf W0 => cell_bel ze2 p
 have ze3':=fun p:BelOf W0 => cell_bel ze3 p
 have ze4':=fun p:BelOf W0 => cell_bel ze4 p
 have ze5':=fun p:BelOf W0 => cell_bel ze5 p
 have ze6':=fun p:BelOf W0 => cell_bel ze6 p
 have ze7':=fun p:BelOf W0 => cell_bel ze7 p
 have ze8':=fun p:BelOf W0 => cell_bel ze8 p
 have ze9':=fun p:BelOf W0 => cell_bel ze9 p
 have zea_':=fun p:BelOf W0 => cell_bel zea_ p
 have zeb_':=fun p:BelOf W0 => cell_bel zeb_ p
 have HB0:=Lib.hid hB0
 have HW:=Lib.hid hW0
 clear hW0 hB0 hbx hcs hR hox hdt hday hsok hsx hss hns hnm1 hnm2 hnm3 hnd hz hzx hlen2 hex hds hel ih hg hy0 hm0 hc0 hys0 hls0 hx0 hE hEl hEs hT hTl hTs hI0 hI0l hI0s hEo hEn hTn hday2 e0 ze0 e1 ze1 e2 ze2 e3 ze3 e4 ze4 e5 ze5 e6 ze6 e7 ze7 e8 ze8 e9 ze9 ea_ zea_ eb_ zeb_
 go_enter Tryz.func16,Tryz.ntmps16
 go_wp2_with fail
 rw [← HW.out]
 clear HW c0 c1 c2 c3 c4 c5 c6 c7 c8 c9 ca cb
 refine region_bel (by kernel_rfl) (by kernel_rfl) ?_
 repeat (quiet_step (first
  | (go_at_call 36;with_reducible exact bel_of (HX.out _ (BelOf.h _)))
  | (go_at_call 40;with_reducible exact bel_of (HDT.out _ (BelOf.h _)))
  | (go_at_call 38;first | with_reducible exact bel_of (HI0.out _ (BelOf.h _)))))
 refine wpQuiet_nil ?_
 intro w3 hw
 obtain ⟨⟨w4,hb⟩,hw⟩:=hw
 subst hw
 have HC:=Lib.hid hb
 clear hb
 go_wp2_with fail
 go_ret
 exact ⟨by rw [← HT.out];rfl,HB0.out.trans (HC.out.mono HB0.out.size)⟩
end Go.Proofs.YtijkefflpojmhaaGreatDoor

namespace Go.Proofs.YtijkefflpojmhaaGreatDoor
open Go.RowKit
set_option maxHeartbeats 1000000 in
set_option maxRecDepth 100000 in
theorem rcontr_1 {n:Nat} (x:Ct) (hk:x.kind=1) (cs:List Value) (w:World) (h:CtAt (n+1) w cs x) :
  Calls Tryz.prog 16 #[.agg cs.toArray] w (RxP w (rcT (n+1) x)):=by
 obtain ⟨ea,el,ec,da,dl,dc,a,len,cap,rfl,_⟩:=h.shape
 have hcs:(ctCells x ea el ec da dl dc a len cap).toArray = #[.int .u8 1,.string x.frm,.string x.too,.string x.name,.int .u8 x.expr.kind,.string x.expr.rat,.string x.expr.name,.int .i64 x.expr.date,.slice ea el ec,.int .i64 x.date,.slice da dl dc,.slice a len cap]:=by unfold ctCells;rw [hk]
 rw [hcs]
 have hR:rcT (n+1) x=[110,111,116,104,105,110,103]:=by rw [rcT,if_pos hk];rfl
 rw [hR]
 have HB0:=Lib.hid (own_below w (.cells #[.int .u8 1,.string x.frm,.string x.too,.string x.name,.int .u8 x.expr.kind,.string x.expr.rat,.string x.expr.name,.int .i64 x.expr.date,.slice ea el ec,.int .i64 x.date,.slice da dl dc,.slice a len cap] 29))
 go_enter Tryz.func16,Tryz.ntmps16
 go_wp2_with fail
 go_ret
 exact ⟨rfl,HB0.out⟩
theorem rcontr_all:∀ n,RcC n:=by
 intro n
 induction n with
 | zero => intro x cs w d h;exact h.elim
 | succ n ih =>
  intro x cs w d h ho hs hz
  have hk:x.kind=1 ∨ x.kind=2 ∨ x.kind=3 ∨ x.kind=4 ∨ x.kind=5 ∨ x.kind=6 ∨ x.kind=7 ∨ x.kind=8 ∨ x.kind=9 ∨ x.kind=10:=by have:=ho.1;omega
  rcases hk with k | k | k | k | k | k | k | k | k | k
  ·exact rcontr_1 x k cs w h
  ·exact rcontr_2 ih x k cs w d h ho hs hz
  ·exact rcontr_3 ih x k cs w d h ho hs hz
  ·exact rcontr_4 ih x k cs w d h ho hs hz
  ·exact rcontr_5 ih x k cs w d h ho hs hz
  ·exact rcontr_6 ih x k cs w d h ho hs hz
  ·exact rcontr_7 ih x k cs w d h ho hs hz
  ·exact rcontr_8 ih x k cs w d h ho hs hz
  ·exact rcontr_9 ih x k cs w d h ho hs hz
  ·exact rcontr_10 ih x k cs w d h ho hs hz
end Go.Proofs.YtijkefflpojmhaaGreatDoor
