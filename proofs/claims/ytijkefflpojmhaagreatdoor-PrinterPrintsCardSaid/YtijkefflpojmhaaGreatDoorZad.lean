/-
  The reference's Check of rationals, joined. No condition. The program's pair and Gcd. No condition. The program's Gcd. No condition.
-/
import Derived.Test.YtijkefflpojmhaaGreatDoorZac
import Derived.RegionTactic
import Derived.Outline
namespace Go.Proofs.YtijkefflpojmhaaGreatDoor
open Go.RowKit
theorem list_beq {l m:List UInt8}:(l == m)=false ↔ l ≠ m:=by simp
theorem decN_1:(decN (1:Int).natAbs).length=1:=by
 have:decN 1=[1]:=by unfold decN;rw [if_neg (by decide),decL_pos (by decide)];show _ :: decL 0=_;rw [decL_zero]
 show (decN 1).length=1
 rw [this];rfl
theorem bigZ_false {z:Int} (h:bigZ z=false):(decN z.natAbs).length≤1000:=by unfold bigZ at h;simpa using h
theorem bigZ_true {z:Int} (h:bigZ z=true):1000 < (decN z.natAbs).length:=by unfold bigZ at h;simpa using h
theorem rgcd_of (n d:ByteArray) (x y:Int) (W:World) (hn:n.data.toList=txtZ x) (hd:d.data.toList=txtZ y) (bx:bigZ x=false) (byy:bigZ y=false) (h1:n.size≤1000000) (h2:d.size≤1000000) :
  Calls Tryz.prog 110 #[.string n,.string d] W (GPost W ⟨(txtZ (Nat.gcd x.natAbs y.natAbs:Int)).toArray⟩):=rgcd_good n d x y W hn hd bx byy h1 h2
theorem rrat_int (s:ByteArray) (w:World) (hs:s.size≤1000000) (h:slN s.data.toList=s.data.toList.length) :
  Calls Tryz.prog 95 #[.string s] w (ErrPost w (chkR s.data.toList)):=by
 have HW:Hid (Calls Tryz.prog 107 #[.string s] w (WrPost w s ⟨#[49]⟩)):=(written_int s w hs h).mono fun e w' ⟨e1,e2⟩ => ⟨e1,by subst e2;exact Below.refl _ _⟩
 have hd1:rdZ (⟨#[49]⟩:ByteArray).data.toList=some 1:=by show rdZ [49]=_;rw [← txtZ_1,rdZ_txtZ]
 have HD:Hid (∀ W,Calls Tryz.prog 108 #[.string ⟨#[49]⟩] W (DigYes W 1)):=fun W => digits_yes _ 1 W (by show (1:Nat)≤_;omega) hd1
 have HS:Hid (∀ W,Calls Tryz.prog 109 #[.string s] W fun e w' => e = .returned (.int .i64 (-1))∧W=w'):=fun W => by
  have:=slash_any s W hs
  rwa [slI_none h] at this
 rw [chkR_int h]
 rcases chkZ_cases s.data.toList with ⟨e1,e2⟩ | ⟨x,e1,e2,e3⟩
 ·rw [e1]
  exact rc_ny s s _ 1 (fun W => digits_no s W hs e2) HD false rfl w HW
 ·have HN:Hid (∀ W,Calls Tryz.prog 108 #[.string s] W (DigYes W x)):=fun W => digits_yes s x W hs e1
  cases hb:bigZ x with
  | true =>
   rw [e3,hb,if_pos rfl]
   exact rc_bigi s s _ x 1 HN HD _ rfl rfl (by rw [toList_data];rfl) (-1) HS rfl (.inl (bigZ_true hb)) w HW
  | false =>
   rw [e3,hb,if_neg (by simp)]
   exact rc_gi s s _ x 1 HN HD _ rfl rfl (by rw [toList_data];rfl) (-1) HS rfl _ (fun W => rgcd_of s ⟨#[49]⟩ x 1 W e2 txtZ_1.symm hb bigZ_one hs (by show (1:Nat)≤_;omega)) ⟨bigZ_false hb,by rw [decN_1];omega⟩ w HW
theorem rrat_frac (s:ByteArray) (k:Nat) (w:World) (hs:s.size≤1000000) (h:slN s.data.toList=k) (hk:k < s.size) :
  Calls Tryz.prog 95 #[.string s] w (ErrPost w (chkR s.data.toList)):=by
 rw [chkR_frac h (by rw [data_len];exact hk)]
 have HW0:=written_frac s k w hs h hk
 have HSI:∀ W,Calls Tryz.prog 109 #[.string s] W fun e w' => e = .returned (.int .i64 (k:Int))∧W=w':=fun W => by
  have:=slash_any s W hs
  rwa [slI_at h (by rw [data_len];exact hk)] at this
 obtain ⟨n,hn⟩:∃ n,n=s.extract 0 k:=⟨_,rfl⟩
 obtain ⟨d,hd⟩:∃ d,d=s.extract (k+1) s.size:=⟨_,rfl⟩
 rw [← hn,← hd] at HW0
 have en:s.data.toList.take k=n.data.toList:=by rw [hn,Lib.extract_data];simp
 have ed:s.data.toList.drop (k+1)=d.data.toList:=by rw [hd,Lib.extract_to_end]
 rw [en,ed]
 have sn:n.size≤1000000:=by rw [hn];simp;omega
 have sd:d.size≤1000000:=by rw [hd];simp;omega
 have HW:Hid (Calls Tryz.prog 107 #[.string s] w (WrPost w n d)):=HW0.mono fun e w' ⟨e1,q,e2⟩ => ⟨e1,by subst e2;exact below_drewN (Below.refl _ _) q⟩
 have HS:=Lib.hid HSI
 have hi:decide ((0:Int)≤(k:Int))=true:=by simp
 clear HW0 HSI hn hd en ed h hk
 rcases chkZ_cases n.data.toList with ⟨n1,n2⟩ | ⟨x,n1,n2,n3⟩
 ·rw [chkF_12 (.inl n1)]
  rcases chkZ_cases d.data.toList with ⟨d1,d2⟩ | ⟨y,d1,d2,d3⟩
  ·exact rc_nn s n d (fun W => digits_no n W sn n2) (fun W => digits_no d W sd d2) w HW
  ·exact rc_ny s n d y (fun W => digits_no n W sn n2) (fun W => digits_yes d y W sd d1) _ rfl w HW
 ·have HN:Hid (∀ W,Calls Tryz.prog 108 #[.string n] W (DigYes W x)):=fun W => digits_yes n x W sn n1
  rcases chkZ_cases d.data.toList with ⟨d1,d2⟩ | ⟨y,d1,d2,d3⟩
  ·rw [chkF_12 (.inr (.inl d1))]
   exact rc_yn s n d x HN (fun W => digits_no d W sd d2) _ rfl w HW
  ·have HD:Hid (∀ W,Calls Tryz.prog 108 #[.string d] W (DigYes W y)):=fun W => digits_yes d y W sd d1
   by_cases hy:y < 0
   ·rw [chkF_12 (.inr (.inr (.inl (by rw [d2,txtZ_head];exact hy))))]
    exact rc_neg s n d x y HN HD _ rfl (by show decide _=true;simpa using hy) w HW
   ·have hy':decide (y < 0)=false:=by simpa using hy
    by_cases h0:d.data.toList=[48]
    ·rw [chkF_12 (.inr (.inr (.inr (.inl h0))))]
     exact rc_zero s n d x y HN HD _ rfl hy' (by rw [toList_data,h0];rfl) w HW
    ·have h0':(d.toList == [48])=false:=by rw [toList_data];exact list_beq.2 h0
     by_cases h1:d.data.toList=[49]
     ·rw [chkF_12 (.inr (.inr (.inr (.inr h1))))]
      exact rc_one s n d x y HN HD _ rfl hy' h0' (by rw [toList_data,h1];rfl) _ HS hi w HW
     ·have h1':(d.toList == [49])=false:=by rw [toList_data];exact list_beq.2 h1
      have ef:chkF n.data.toList d.data.toList=if bigZ x=true ∨ bigZ y=true then 14 else if Nat.gcd x.natAbs y.natAbs=1 then 0 else 12:=by
       rw [n2,d2];exact chkF_some x y (by omega) (by rw [← d2];exact h0) (by rw [← d2];exact h1)
      rw [ef]
      by_cases hb:bigZ x=true ∨ bigZ y=true
      ·rw [if_pos hb]
       exact rc_big s n d x y HN HD _ rfl hy' h0' h1' _ HS hi (by
        rcases hb with hb | hb
        ·exact .inl (bigZ_true hb)
        ·exact .inr (bigZ_true hb)) w HW
      ·rw [if_neg hb]
       have bx:bigZ x=false:=by cases h:bigZ x with | false => rfl | true => exact absurd (.inl h) hb
       have by2:bigZ y=false:=by cases h:bigZ y with | false => rfl | true => exact absurd (.inr h) hb
       have HG:Hid (∀ W,Calls Tryz.prog 110 #[.string n,.string d] W (GPost W ⟨(txtZ (Nat.gcd x.natAbs y.natAbs:Int)).toArray⟩)):=fun W => rgcd_of n d x y W n2 d2 bx by2 sn sd
       by_cases hg:Nat.gcd x.natAbs y.natAbs=1
       ·rw [if_pos hg]
        exact rc_gyes s n d x y HN HD _ rfl hy' h0' h1' _ HS hi _ HG ⟨bigZ_false bx,bigZ_false by2⟩ (by rw [toList_data,hg];show ((txtZ ((1:Nat):Int)) == [49])=true;rw [(txtZ_one 1).2 rfl];rfl) w HW
       ·rw [if_neg hg]
        exact rc_gno s n d x y HN HD _ rfl hy' h0' h1' _ HS hi _ HG ⟨bigZ_false bx,bigZ_false by2⟩ (by rw [toList_data];exact list_beq.2 (fun h => hg ((txtZ_one _).1 h))) w HW
theorem rrat_any (s:ByteArray) (w:World) (hs:s.size≤1000000) :
  Calls Tryz.prog 95 #[.string s] w (ErrPost w (chkR s.data.toList)):=by
 by_cases h:slN s.data.toList < s.size
 ·exact rrat_frac s _ w hs rfl h
 ·exact rrat_int s w hs (by have:=slN_le s.data.toList;rw [data_len] at this ⊢;omega)
end Go.Proofs.YtijkefflpojmhaaGreatDoor

namespace Go.Proofs.YtijkefflpojmhaaGreatDoor
open Go.RowKit Go.Shelf
def PairPost (w:World) (x y:Int) (e:Ending) (w':World):Prop :=
 ∃ a c la b d lb,e = .returned (.tuple #[.agg #[.bool (decide (x < 0)),.slice a (la:List Nat).length c],.agg #[.bool (decide (y < 0)),.slice b (lb:List Nat).length d],.int .i64 0]) ∧
  la.length≤c∧lb.length≤d∧Nums .u32 w' a la∧Nums .u32 w' b lb∧Rep la x.natAbs∧Rep lb y.natAbs∧Below w.heap.size w w'
def PairNo (w:World) (n:Int) (e:Ending) (w':World):Prop :=
 e = .returned (.tuple #[.agg #[.bool false,.slice none 0 0],.agg #[.bool false,.slice none 0 0],.int .i64 n])∧Below w.heap.size w w'
theorem check_same (s:ByteArray) (w:World) (hs:s.size≤1000000):Calls Tryz.prog 115 #[.string s] w fun e w' => e = .returned (.int .i64 (chkZ s.data.toList))∧w=w' :=
 (check_any s w hs).mono fun _ _ ⟨a,b⟩ => ⟨a,b.symm⟩
set_option maxHeartbeats 2000000 in
set_option maxRecDepth 100000 in
theorem pair_ok (s t:ByteArray) (x y:Int) (w:World) (hs:s.size≤100000) (ht:t.size≤100000) (hx:s.data.toList=txtZ x) (hy:t.data.toList=txtZ y) (bx:bigZ x=false) (byy:bigZ y=false) :
  Calls Tryz.prog 123 #[.string s,.string t] w (PairPost w x y):=by
 have hc1:=fun W => check_same s W (by omega)
 have hc2:=fun W => check_same t W (by omega)
 rw [hx,chkZ_txtZ,bx] at hc1
 rw [hy,chkZ_txtZ,byy] at hc2
 simp only [Bool.false_eq_true,if_false] at hc1 hc2
 have hr1:=fun W => read_any s x W hs hx
 have hr2:=fun W => read_any t y W ht hy
 have HC1:=Lib.hid hc1
 have HC2:=Lib.hid hc2
 have HR1:=Lib.hid hr1
 have HR2:=Lib.hid hr2
 obtain ⟨W0,hW0⟩:∃ W0,W0=(w.alloc (.cells #[.bool false,.slice none 0 0] 151)).alloc (.cells #[.bool false,.slice none 0 0] 151):=⟨_,rfl⟩
 have hA0:Box2 W0 w.heap.size false (.slice none 0 0):=by rw [hW0];exact Box2.alloc (show Box2 (w.alloc (.cells #[.bool false,.slice none 0 0] 151)) w.heap.size false (.slice none 0 0) from World.alloc_heap_new w _) _
 have hB0:Box2 W0 (w.heap.size+1) false (.slice none 0 0):=by
  rw [hW0]
  have:=World.alloc_heap_new (w.alloc (.cells #[.bool false,.slice none 0 0] 151)) (.cells #[.bool false,.slice none 0 0] 151)
  rw [World.size_alloc] at this
  exact this
 have hb0:Below w.heap.size w W0:=by rw [hW0];exact ((Below.refl _ w).alloc (Nat.le_refl _) _).alloc (by simp) _
 have HA0:=Lib.hid hA0
 have HB0:=Lib.hid hB0
 have HBL:=Lib.hid hb0
 have HW0:=Lib.hid hW0
 clear hc1 hc2 hr1 hr2 hx hy bx byy hA0 hB0 hb0 hW0
 go_enter Tryz.func123,Tryz.ntmps123
 go_wp2_with fail
 rw [← HW0.out]
 refine (HC1.out _).mono ?_
 rintro e w' ⟨rfl,rfl⟩
 go_wp2_with fail
 refine (HC2.out _).mono ?_
 rintro e w' ⟨rfl,rfl⟩
 go_wp2_with fail
 refine (HR1.out W0).mono ?_
 rintro e W1 ⟨a,c,la,rfl,hlc1,hn1,hp1,hb1⟩
 obtain ⟨k1,hk1⟩:∃ k1,k1=la.length:=⟨_,rfl⟩
 rw [← hk1] at hlc1 ⊢
 have HN1:=Lib.hid hn1
 have HP1:=Lib.hid hp1
 have HB1:=Lib.hid hb1
 have HK1:=Lib.hid hk1
 clear hn1 hp1 hb1 hk1
 go_wp2_with fail
 refine (HR2.out W1).mono ?_
 rintro e W2 ⟨b,d,lb,rfl,hlc2,hn2,hp2,hb2⟩
 obtain ⟨k2,hk2⟩:∃ k2,k2=lb.length:=⟨_,rfl⟩
 rw [← hk2] at hlc2 ⊢
 have HN2:=Lib.hid hn2
 have HP2:=Lib.hid hp2
 have HK2:=Lib.hid hk2
 have hb02:Below W0.heap.size W0 W2:=HB1.out.trans (hb2.mono HB1.out.size)
 have HB02:=Lib.hid hb02
 have HBB:=Lib.hid hb2
 have hsz:w.heap.size+1 < W0.heap.size:=HB0.out.lt
 have hA2:Box2 W2 w.heap.size false (.slice none 0 0):=(hb02.block _ HA0.out.lt).trans HA0.out
 have hB2:Box2 W2 (w.heap.size+1) false (.slice none 0 0):=(hb02.block _ HB0.out.lt).trans HB0.out
 clear hn2 hp2 hk2 hb2 hb02
 obtain ⟨nx,hnx⟩:∃ nx,nx=decide (x < 0):=⟨_,rfl⟩
 obtain ⟨ny,hny⟩:∃ ny,ny=decide (y < 0):=⟨_,rfl⟩
 rw [← hnx,← hny]
 have HNX:=Lib.hid hnx
 have HNY:=Lib.hid hny
 have a0:=hA2.cell0
 have a1:=hA2.cell1
 have af0:=hA2.frozen 0
 have af1:=hA2.frozen 1
 have hA3:Box2 ((W2.setCell ⟨w.heap.size,0,none⟩ (.bool nx)).setCell ⟨w.heap.size,1,none⟩ (.slice a k1 c)) w.heap.size nx (.slice a k1 c):=(hA2.set0 nx).set1 _
 have hB3:Box2 ((W2.setCell ⟨w.heap.size,0,none⟩ (.bool nx)).setCell ⟨w.heap.size,1,none⟩ (.slice a k1 c)) (w.heap.size+1) false (.slice none 0 0):=(hB2.other (by show w.heap.size+1 ≠ w.heap.size;omega) _).other (by show w.heap.size+1 ≠ w.heap.size;omega) _
 have b0:=hB3.cell0
 have b1:=hB3.cell1
 have bf0:=hB3.frozen 0
 have bf1:=hB3.frozen 1
 have hA4:Box2 ((((W2.setCell ⟨w.heap.size,0,none⟩ (.bool nx)).setCell ⟨w.heap.size,1,none⟩ (.slice a k1 c)).setCell ⟨w.heap.size+1,0,none⟩ (.bool ny)).setCell ⟨w.heap.size+1,1,none⟩ (.slice b k2 d)) w.heap.size nx (.slice a k1 c):=(hA3.other (by show w.heap.size ≠ w.heap.size+1;omega) _).other (by show w.heap.size ≠ w.heap.size+1;omega) _
 have hB4:Box2 ((((W2.setCell ⟨w.heap.size,0,none⟩ (.bool nx)).setCell ⟨w.heap.size,1,none⟩ (.slice a k1 c)).setCell ⟨w.heap.size+1,0,none⟩ (.bool ny)).setCell ⟨w.heap.size+1,1,none⟩ (.slice b k2 d)) (w.heap.size+1) ny (.slice b k2 d):=(hB3.set0 ny).set1 _
 have HA4:=Lib.hid hA4
 have HB4:=Lib.hid hB4
 clear hnx hny hA2 hB2 hA3 hB3 hA4 hB4
 have ow1:W2.ownsRow W0.heap.size 123 1 (.slice a k1 c) k1 (nums .u32 la):=by
  have:=HN1.out
  rw [← HK1.out] at this
  obtain ⟨h1,h2⟩:=this
  refine ⟨h1,?_⟩
  rcases h2 with h | ⟨g,cap,cur,e1,e2,e3,e4⟩
  ·exact .inl h
  ·exact .inr ⟨g,cap,cur,e1,e2,(HBB.out.block g (Array.getElem?_eq_some_iff.1 e3).1).trans e3,e4⟩
 have ow2:W2.ownsRow W0.heap.size 123 1 (.slice b k2 d) k2 (nums .u32 lb):=by
  have:=HN2.out
  rw [← HK2.out] at this
  exact owns_base this HB1.out.size
 have hkeep:∀ {v:Value} {k:Nat} {xs:List Value} {W:World} {B:Nat} {u:Value} {i:Nat},W.ownsRow W0.heap.size 123 1 v k xs→B < W0.heap.size→(W.setCell ⟨B,i,none⟩ u).ownsRow W0.heap.size 123 1 v k xs:=fun {v k xs W B u i} h hB =>
  h.kept (row:=some B) (only_setCell (only_refl _ _) (.inl rfl) _) (.inr (fun e => by have:=(h.lt B e).1;omega))
 have ow3:=hkeep (hkeep (hkeep (hkeep ow1 (B:=w.heap.size) (u := .bool nx) (i:=0) (by omega)) (B:=w.heap.size) (u := .slice a k1 c) (i:=1) (by omega)) (B:=w.heap.size+1) (u := .bool ny) (i:=0) (by omega)) (B:=w.heap.size+1) (u := .slice b k2 d) (i:=1) (by omega)
 have ow4:=hkeep (hkeep (hkeep (hkeep ow2 (B:=w.heap.size) (u := .bool nx) (i:=0) (by omega)) (B:=w.heap.size) (u := .slice a k1 c) (i:=1) (by omega)) (B:=w.heap.size+1) (u := .bool ny) (i:=0) (by omega)) (B:=w.heap.size+1) (u := .slice b k2 d) (i:=1) (by omega)
 have OW3:=Lib.hid ow3
 have OW4:=Lib.hid ow4
 clear ow1 ow2 hkeep ow3 ow4
 go_wp2_with fail
 have q0:=HA4.out.cell0
 have q1:=HA4.out.cell1
 have q2:=HB4.out.cell0
 have q3:=HB4.out.cell1
 refine bodyPost_ret (v := .tuple #[.agg #[.bool nx,.slice a k1 c],.agg #[.bool ny,.slice b k2 d],.int .i64 0]) (by simp [results,Tryz.results123,go_sem,q0,q1,q2,q3]) rfl ?_
 obtain ⟨a3,c3,e3,hl3,hlc3,hn3⟩:=nums_of_owns OW3.out
 injection e3 with e31 _ e33
 subst e31 e33
 obtain ⟨a4,c4,e4,hl4,hlc4,hn4⟩:=nums_of_owns OW4.out
 injection e4 with e41 _ e43
 subst e41 e43
 refine ⟨a,c,la,b,d,lb,by rw [HNX.out,HNY.out,hl3,hl4],by omega,by omega,hn3,hn4,HP1.out,HP2.out,?_⟩
 have b2:=HBL.out.trans (HB02.out.mono HBL.out.size)
 exact (((b2.setCell (p:=⟨w.heap.size,0,none⟩) (Nat.le_refl _) _).setCell (p:=⟨w.heap.size,1,none⟩) (Nat.le_refl _) _).setCell (p:=⟨w.heap.size+1,0,none⟩) (by show w.heap.size≤w.heap.size+1;omega) _).setCell (p:=⟨w.heap.size+1,1,none⟩) (by show w.heap.size≤w.heap.size+1;omega) _
theorem divide_any (a b:Option Addr) (n m c d A B:Nat) (la lb:List Nat) (w:World) (hla:la.length=n) (hlb:lb.length=m) (hn:n≤100000) (hm:m≤100000) (hnc:n≤c)
  (ra:Rep la A) (rb:Rep lb B) (ha:Nums .u32 w a la) (hb:Nums .u32 w b lb) (h0:0 < B) :
  Calls Tryz.prog 124 #[.slice a n c,.slice b m d] w (QRPost w A B):=by
 rcases Nat.lt_or_ge A B with h | h
 ·exact divide_small a b n m c d A B la lb w hla hlb hn hm hnc ra rb ha hb h
 ·match m,hlb with
  | 0,hlb =>
   rw [List.eq_nil_of_length_eq_zero hlb] at rb
   have:=rb.2.2
   simp [val] at this;omega
  | 1,hlb => exact divide_one a b n c d A B la lb w hla hlb hn ra rb ha hb h
  | p+2,hlb => exact divide_long a b n p c d A B la lb w hla hlb hn (by omega) ra rb ha hb h
theorem MagAt.len {w:World} {v:Value} {N k:Nat} (h:MagAt w v N) (hk:N < Bs ^ k):∃ a n c l,v = .slice a n c∧(l:List Nat).length=n∧n≤k∧n≤c∧Nums .u32 w a l∧Rep l N:=by
 obtain ⟨a,c,l,h1,h2,h3,h4⟩:=h
 exact ⟨a,_,c,l,h1,rfl,rep_len_of l N k h4 hk,h2,h3,h4⟩
def KM:Nat:=112
theorem KM_eq:KM=112:=rfl
theorem big_bound {z:Int} (h:bigZ z=false):z.natAbs < Bs ^ KM:=by
 have h1:=bigZ_false h
 obtain ⟨k,hk⟩:∃ k,k=1000:=⟨_,rfl⟩
 rw [← hk] at h1
 have h2:=(decN_len_le z.natAbs k (by omega)).1 h1
 rw [Bs_pow KM]
 exact Nat.lt_trans h2 (Nat.pow_lt_pow_right (by omega) (by rw [KM_eq];omega))
theorem bigZ_le {m n:Nat} (h:m≤n) (hb:bigZ (n:Int)=false):bigZ (m:Int)=false:=by
 have h1:=bigZ_false hb
 have h2:=decN_mono h
 unfold bigZ
 simp only [Int.natAbs_natCast] at h1 ⊢
 simp;omega
def GcM (w:World) (gx gy G:Nat) (gk:Nat) (wr:World):Prop :=
 ∃ (X Y:Nat) (nx ny:Bool) (vx vy:Value),gk=Y∧Box2 wr gx nx vx∧Box2 wr gy ny vy∧MagAt wr vx X∧MagAt wr vy Y∧Nat.gcd X Y=G∧X < Bs ^ KM∧Y < Bs ^ KM∧Below w.heap.size w wr
end Go.Proofs.YtijkefflpojmhaaGreatDoor

namespace Go.Proofs.YtijkefflpojmhaaGreatDoor
open Go.RowKit Go.Shelf
theorem nums_box {W:World} {B:Nat} {neg:Bool} {a':Option Addr} {n' c':Nat} {a:Option Addr} {l:List Nat} (h:Box2 W B neg (.slice a' n' c')) (hn:Nums .u32 W a l) (u:Value) (i:Nat):Nums .u32 (W.setCell ⟨B,i,none⟩ u) a l:=fun e he => by
 obtain ⟨g,o,e1,hg,hc⟩:=hn e he
 refine ⟨g,o,e1,by simpa [World.setCell] using hg,?_⟩
 have hne:B ≠ g:=by
  intro hB
  subst hB
  unfold World.cell? at hc
  rw [show W.heap[B]? = _ from h] at hc
  simp only at hc
  match ho:o+e,hc with
  | 0,hc => simp at hc
  | 1,hc => simp at hc
  | k+2,hc => simp at hc
 rw [World.cell?_setCell_other _ _ _ _ (by intro h;injection h with h;exact hne h)]
 exact hc
theorem magAt_box {W:World} {B:Nat} {neg:Bool} {a':Option Addr} {n' c':Nat} {v:Value} {N:Nat} (h:Box2 W B neg (.slice a' n' c')) (hm:MagAt W v N) (u:Value) (i:Nat):MagAt (W.setCell ⟨B,i,none⟩ u) v N:=by
 obtain ⟨a,c,l,h1,h2,h3,h4⟩:=hm
 exact ⟨a,c,l,h1,h2,nums_box h h3 u i,h4⟩
set_option maxHeartbeats 4000000 in
set_option maxRecDepth 100000 in
theorem gcd_good (s t:ByteArray) (x y:Int) (w:World) (hs:s.size≤100000) (ht:t.size≤100000) (hx:s.data.toList=txtZ x) (hy:t.data.toList=txtZ y) (bx:bigZ x=false) (byy:bigZ y=false) :
  Calls Tryz.prog 116 #[.string s,.string t] w (GPost w ⟨(txtZ (Nat.gcd x.natAbs y.natAbs:Int)).toArray⟩):=by
 have hp:=pair_ok s t x y w hs ht hx hy bx byy
 obtain ⟨G,hG⟩:∃ G,G=Nat.gcd x.natAbs y.natAbs:=⟨_,rfl⟩
 rw [← hG]
 have hGb:bigZ (G:Int)=false:=by
  rcases Nat.eq_zero_or_pos x.natAbs with h | h
  ·rw [hG,h,Nat.gcd_zero_left]
   refine bigZ_le (n:=y.natAbs) (Nat.le_refl _) ?_
   unfold bigZ at byy ⊢;simpa using byy
  ·refine bigZ_le (n:=x.natAbs) (by rw [hG];exact Nat.gcd_le_left _ h) ?_
   unfold bigZ at bx ⊢;simpa using bx
 have hbx:=big_bound bx
 have hby:=big_bound byy
 have HP:=Lib.hid hp
 have HG:=Lib.hid hG
 have HGB:=Lib.hid hGb
 have HBX:=Lib.hid hbx
 have HBY:=Lib.hid hby
 clear hp hx hy bx byy hG hGb hbx hby
 go_enter Tryz.func116,Tryz.ntmps116
 go_wp2_with fail
 refine HP.out.mono ?_
 rintro e w1 ⟨a,c,la,b,d,lb,rfl,hlc,hld,hna,hnb,hra,hrb,b1⟩
 obtain ⟨nx,hnx⟩:∃ nx,nx=decide (x < 0):=⟨_,rfl⟩
 obtain ⟨ny,hny⟩:∃ ny,ny=decide (y < 0):=⟨_,rfl⟩
 obtain ⟨k1,hk1⟩:∃ k1,k1=la.length:=⟨_,rfl⟩
 obtain ⟨k2,hk2⟩:∃ k2,k2=lb.length:=⟨_,rfl⟩
 rw [← hnx,← hny,← hk1,← hk2]
 have HMA:=Lib.hid (⟨a,c,la,by rw [hk1],hlc,hna,hra⟩:MagAt w1 (.slice a k1 c) x.natAbs)
 have HMB:=Lib.hid (⟨b,d,lb,by rw [hk2],hld,hnb,hrb⟩:MagAt w1 (.slice b k2 d) y.natAbs)
 have B1:=Lib.hid b1
 clear hlc hld hna hnb hra hrb b1 hnx hny hk1 hk2
 obtain ⟨W2,hW2⟩:∃ W2,W2=(w1.alloc (.cells #[.bool nx,.slice a k1 c] 151)).alloc (.cells #[.bool ny,.slice b k2 d] 151):=⟨_,rfl⟩
 have hA0:Box2 W2 w1.heap.size nx (.slice a k1 c):=by rw [hW2];exact Box2.alloc (show Box2 (w1.alloc (.cells #[.bool nx,.slice a k1 c] 151)) w1.heap.size nx (.slice a k1 c) from World.alloc_heap_new w1 _) _
 have hB0:Box2 W2 (w1.heap.size+1) ny (.slice b k2 d):=by
  rw [hW2]
  have:=World.alloc_heap_new (w1.alloc (.cells #[.bool nx,.slice a k1 c] 151)) (.cells #[.bool ny,.slice b k2 d] 151)
  rw [World.size_alloc] at this
  exact this
 have hbl1:Below w1.heap.size w1 W2:=by rw [hW2];exact ((Below.refl _ w1).alloc (Nat.le_refl _) _).alloc (by simp) _
 have hst:GcM w w1.heap.size (w1.heap.size+1) G y.natAbs W2 :=
  ⟨x.natAbs,y.natAbs,nx,ny,_,_,rfl,hA0,hB0,MagAt.below HMA.out hbl1,MagAt.below HMB.out hbl1,HG.out.symm,HBX.out,HBY.out,B1.out.trans (hbl1.mono B1.out.size)⟩
 have ST:=Lib.hid hst
 have HW2:=Lib.hid hW2
 have SZ:=Lib.hid B1.out.size
 clear hW2 hA0 hB0 hbl1 hst
 go_wp2_with fail
 rw [← HW2.out]
 obtain ⟨gx,hgx⟩:∃ gx,gx=w1.heap.size:=⟨_,rfl⟩
 have hgw:w.heap.size≤gx:=by rw [hgx];exact SZ.out
 have GW:=Lib.hid hgw
 rw [← hgx] at ST ⊢
 clear hgw hgx HW2
 go_loopg [] y.natAbs (fun k wr => GcM w gx (gx+1) G k wr)
 case atStart => exact ST.out
 case round =>
  obtain ⟨w4,rfl⟩:∃ w4:World,w4=wr:=⟨_,rfl⟩
  obtain ⟨X,Y,mx,my,vx,vy,hk,h1,h2,h3,h4,h5,h6,h7,h8⟩:=hrel
  have hk':=hk.symm
  clear hk
  subst hk'
  obtain ⟨a1,n1,c1,l1,rfl,e1,e2,e3,e4,e5⟩:=h3.len h6
  obtain ⟨a2,n2,c2,l2,rfl,f1,f2,f3,f4,f5⟩:=h4.len h7
  rw [KM_eq] at e2 f2
  have H1:=Lib.hid h1
  have H2:=Lib.hid h2
  have N1:=Lib.hid e4
  have N2:=Lib.hid f4
  have R1:=Lib.hid e5
  have R2:=Lib.hid f5
  have L1:=Lib.hid e1
  have L2:=Lib.hid f1
  have HM1:=Lib.hid h3
  have HM2:=Lib.hid h4
  have GG:=Lib.hid h5
  have BB:=Lib.hid h8
  have P1:=Lib.hid h6
  have P2:=Lib.hid h7
  by_cases hy0:Y=0
  ·subst hy0
   have hl:l2=[]:=rep_zero l2 f5
   have hn:n2=0:=by rw [← f1,hl];rfl
   subst hn
   have hG2:X=G:=by rw [← h5,Nat.gcd_zero_right]
   have hwr:=write_any false a1 n1 c1 X l1 w4 e1 (by omega) e5 e4
   have ez:(if false=true then -(X:Int) else (X:Int))=(G:Int):=by simp [hG2]
   rw [ez] at hwr
   have HWR:=Lib.hid hwr
   clear h1 h2 h3 h4 h5 h6 h7 h8 e1 e4 e5 f1 f4 f5 hl hG2 hwr ez
   have q1:=H1.out.cell1
   have q2:=H2.out.cell1
   go_wp2_with fail
   refine HWR.out.mono ?_
   rintro e w5 ⟨hq,b5⟩
   rcases hq with ⟨hq,_⟩ | ⟨_,rfl⟩
   ·rw [HGB.out] at hq;cases hq
   have B5:=Lib.hid b5
   clear b5
   go_wp2_with fail
   go_ret2
   exact ⟨rfl,BB.out.trans (B5.out.mono BB.out.size)⟩
  ·have hyp:0 < Y:=by omega
   have hn:0 < n2:=by
    rcases Nat.eq_zero_or_pos n2 with h | h
    ·rw [h] at f1
     rw [List.eq_nil_of_length_eq_zero f1] at f5
     have:=f5.2.2
     simp [val] at this;omega
    ·exact h
   have hdv:=divide_any a1 a2 n1 n2 c1 c2 X Y l1 l2 w4 e1 f1 (by omega) (by omega) e3 e5 f5 e4 f4 hyp
   have HDV:=Lib.hid hdv
   have HYP:=Lib.hid hyp
   have q1:=H1.out.cell1
   have q2:=H2.out.cell1
   clear h1 h2 h3 h4 h5 h6 h7 h8 e1 e4 e5 f1 f4 f5 hdv hy0 hyp
   go_wp2_with fail
   refine HDV.out.mono ?_
   rintro e w5 ⟨v1,v2,rfl,m1,m2,b5⟩
   obtain ⟨a3,n3,c3,e3,m3⟩:∃ a3 n3 c3,v2 = .slice a3 n3 c3∧MagAt w5 (.slice a3 n3 c3) (X % Y):=by
    obtain ⟨a3,c3,l3,q,_⟩:=id m2
    exact ⟨a3,_,c3,q,q ▸ m2⟩
   subst e3
   clear m2
   have m2:=m3
   clear m3
   have hx5:Box2 w5 gx mx (.slice a1 n1 c1):=(b5.block _ H1.out.lt).trans H1.out
   have hy5:Box2 w5 (gx+1) my (.slice a2 n2 c2):=(b5.block _ H2.out.lt).trans H2.out
   have hx6:Box2 (w5.setCell ⟨gx,1,none⟩ (.slice a2 n2 c2)) gx mx (.slice a2 n2 c2):=hx5.set1 _
   have hy6:Box2 (w5.setCell ⟨gx,1,none⟩ (.slice a2 n2 c2)) (gx+1) my (.slice a2 n2 c2):=hy5.other (by show gx+1 ≠ gx;omega) _
   have hx7:Box2 ((w5.setCell ⟨gx,1,none⟩ (.slice a2 n2 c2)).setCell ⟨gx+1,1,none⟩ (.slice a3 n3 c3)) gx mx (.slice a2 n2 c2):=hx6.other (by show gx ≠ gx+1;omega) _
   have hy7:Box2 ((w5.setCell ⟨gx,1,none⟩ (.slice a2 n2 c2)).setCell ⟨gx+1,1,none⟩ (.slice a3 n3 c3)) (gx+1) my (.slice a3 n3 c3):=hy6.set1 _
   have hlt:X % Y < Y:=Nat.mod_lt _ HYP.out
   have hrel:GcM w gx (gx+1) G (X % Y) ((w5.setCell ⟨gx,1,none⟩ (.slice a2 n2 c2)).setCell ⟨gx+1,1,none⟩ (.slice a3 n3 c3)):=by
    refine ⟨Y,X % Y,mx,my,_,_,rfl,hx7,hy7,?_,?_,?_,P2.out,by have:=P2.out;omega,?_⟩
    ·exact magAt_box hy6 (magAt_box hx5 (HM2.out.below b5) _ _) _ _
    ·exact magAt_box hy6 (magAt_box hx5 m2 _ _) _ _
    ·rw [Nat.gcd_comm,← Nat.gcd_rec,Nat.gcd_comm];exact GG.out
    ·exact ((BB.out.trans (b5.mono BB.out.size)).setCell (p:=⟨gx,1,none⟩) GW.out _).setCell (p:=⟨gx+1,1,none⟩) (by have:=GW.out;show w.heap.size≤gx+1;omega) _
   have HREL:=Lib.hid hrel
   have HLT:=Lib.hid hlt
   have r1:=hx5.cell1
   have r2:=hy5.cell1
   have r3:=hx5.frozen 1
   have r4:=hy6.frozen 1
   have r5:=hy6.cell1
   clear m1 m2 b5 hx5 hy5 hx6 hy6 hx7 hy7 hlt hrel
   go_wp2_with fail
   go_roundg (X % Y)
   case measure => exact HLT.out
   case rel => exact HREL.out
end Go.Proofs.YtijkefflpojmhaaGreatDoor
