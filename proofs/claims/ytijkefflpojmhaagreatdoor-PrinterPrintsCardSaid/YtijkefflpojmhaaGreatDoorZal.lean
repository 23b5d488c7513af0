/-
  (*out).expr walked: of a number, of a name with a day, of a name. No condition but lengths. (*out).expr walked: of a kind with a word. No condition but lengths. (*out).expr: whole. The reference's list. No condition but lengths. A region that draws its order, whose operations only read and whose callees may make blocks of their own: walked once, in the order of the text. No condition. The reference's Expr walked. No condition but lengths. A valid expression: its kinds, its text's length. No program. The text of a contract, as the program writes it and as the reference does: one and the same. No program.
-/
import Derived.Test.YtijkefflpojmhaaGreatDoorZak
import Derived.Deep.RegionHeld3
import Derived.Test.YtijkefflpojmhaaGreatDoorZaa
import Derived.BigQuiet
import Derived.Test.YtijkefflpojmhaaGreatDoorZaf
namespace Go.Proofs.YtijkefflpojmhaaGreatDoor
open Go.RowKit
theorem oper_leaf {k:Int} (h4:k ≠ 4) (h5:k ≠ 5) (h6:k ≠ 6) (W:World):Calls Tryz.prog 56 #[.int .u8 k] W (fun e w' => e = .returned (.tuple #[.string (ByteArray.mk #[]),.int .i64 2,.int .i64 2])∧W=w'):=by
  have:=oper_any k W
  unfold opS opO opN at this
  rw [if_neg h4,if_neg h5,if_neg h6,if_neg h4,if_neg h5,if_neg h6,if_neg h4,if_neg h5] at this
  exact this
set_option maxHeartbeats 2000000 in
set_option maxRecDepth 100000 in
theorem expr_rat {Wb:World} {B b:Nat} {m:Value} {n:Nat} (r nm:ByteArray) (d:Int) (sub:List Ex) (cs:List Value) (least:Int) (l:List UInt8) (w:World)
    (h:ExAt (n+1) Wb cs (Ex.mk 1 r nm d sub)) (hl:least≤2) (he:OutEnv Wb B b m l w) (hlen:l.length+(pexT (n+1) (Ex.mk 1 r nm d sub) least).length≤1000000000) :
    Calls Tryz.prog 28 #[.pointer (some ⟨b,0,none⟩),.agg cs.toArray,.int .i64 least] w (WrP B b m (l ++ pexT (n+1) (Ex.mk 1 r nm d sub) least) w):=by
  have hpt:pexT (n+1) (Ex.mk 1 r nm d sub) least=r.data.toList:=by
    rw [pexT];simp [parT,opO,Ex.kind,leafT,Ex.rat];omega
  rw [hpt] at hlen ⊢
  obtain ⟨a,len,cap,rfl,hlen2,hsub⟩:=h
  have HOP:Hid (∀ W,Calls Tryz.prog 56 #[.int .u8 1] W (fun e w' => e = .returned (.tuple #[.string (ByteArray.mk #[]),.int .i64 2,.int .i64 2])∧W=w')):=fun W => oper_leaf (by decide) (by decide) (by decide) W
  have HEN:=Lib.hid he
  have hbw:=he.lt
  clear hlen2 hpt hsub
  show Calls Tryz.prog 28 #[.pointer (some ⟨b,0,none⟩),.agg #[.int .u8 1,.string r,.string nm,.int .i64 d,.slice a len cap],.int .i64 least] w _
  go_enter Tryz.func28,Tryz.ntmps28
  go_wp2_with fail
  refine (HOP.out _).mono ?_
  rintro e w' ⟨rfl,rfl⟩
  obtain ⟨W0,hW0⟩:∃ W0,W0=w.alloc (.cells #[.int .u8 1,.string r,.string nm,.int .i64 d,.slice a len cap] 25):=⟨_,rfl⟩
  have hbx:W0.heap[w.heap.size]? = some (.cells #[.int .u8 1,.string r,.string nm,.int .i64 d,.slice a len cap] 25):=by rw [hW0];exact alloc_at _ _
  have hE0:OutEnv Wb B b m l W0:=by rw [hW0];exact HEN.out.below (own_below w _)
  have HK0:Hid (OutK B b w W0):=by rw [hW0];exact OutK.below (own_below w _) HEN.out.size
  rw [← hW0]
  obtain ⟨b0,b1,b2,b3,b4⟩:=exCells hbx
  have HC := Lib.hid (put1 B b m l r W0 hE0.out (by have : r.data.toList.length = r.size := by simp
                                                    omega) hE0.size)
  clear hW0 hE0 hbx
  go_wp2_with fail
  refine HC.out.mono ?_
  rintro e W1 ⟨rfl,hio1,hok1⟩
  have HF:Hid (WrP B b m (l ++ r.data.toList) w (.returned (.tuple #[])) W1):=⟨rfl,hio1,HK0.out.trans hok1⟩
  clear hio1 hok1
  go_wp2_with fail
  go_end0
  exact HF.out
set_option maxHeartbeats 2000000 in
set_option maxRecDepth 100000 in
theorem expr_now {Wb:World} {B b:Nat} {m:Value} {n:Nat} (r nm:ByteArray) (d:Int) (sub:List Ex) (cs:List Value) (least:Int) (l:List UInt8) (w:World)
    (h:ExAt (n+1) Wb cs (Ex.mk 3 r nm d sub)) (hl:least≤2) (he:OutEnv Wb B b m l w) (hlen:l.length+(pexT (n+1) (Ex.mk 3 r nm d sub) least).length≤1000000000) :
    Calls Tryz.prog 28 #[.pointer (some ⟨b,0,none⟩),.agg cs.toArray,.int .i64 least] w (WrP B b m (l ++ pexT (n+1) (Ex.mk 3 r nm d sub) least) w):=by
  have hpt:pexT (n+1) (Ex.mk 3 r nm d sub) least=(qn nm).data.toList ++ [64,110,111,119]:=by
    rw [pexT];simp [parT,opO,Ex.kind,leafT,Ex.name];omega
  rw [hpt] at hlen ⊢
  obtain ⟨a,len,cap,rfl,hlen2,hsub⟩:=h
  have HOP:Hid (∀ W,Calls Tryz.prog 56 #[.int .u8 3] W (fun e w' => e = .returned (.tuple #[.string (ByteArray.mk #[]),.int .i64 2,.int .i64 2])∧W=w')):=fun W => oper_leaf (by decide) (by decide) (by decide) W
  have HQ:=Lib.hid (pqname_any nm)
  obtain ⟨q,hq⟩:∃ q,q=qn nm:=⟨_,rfl⟩
  rw [← hq] at HQ hlen ⊢
  have hlen3:l.length+(q.size+4)≤1000000000:=by
    have:q.data.toList.length=q.size:=by simp
    rw [List.length_append,this] at hlen;exact hlen
  have HEN:=Lib.hid he
  have hbw:=he.lt
  clear hlen2 hpt hsub hq hlen
  show Calls Tryz.prog 28 #[.pointer (some ⟨b,0,none⟩),.agg #[.int .u8 3,.string r,.string nm,.int .i64 d,.slice a len cap],.int .i64 least] w _
  go_enter Tryz.func28,Tryz.ntmps28
  go_wp2_with fail
  refine (HOP.out _).mono ?_
  rintro e w' ⟨rfl,rfl⟩
  obtain ⟨W0,hW0⟩:∃ W0,W0=w.alloc (.cells #[.int .u8 3,.string r,.string nm,.int .i64 d,.slice a len cap] 25):=⟨_,rfl⟩
  have hbx:W0.heap[w.heap.size]? = some (.cells #[.int .u8 3,.string r,.string nm,.int .i64 d,.slice a len cap] 25):=by rw [hW0];exact alloc_at _ _
  have hE0:OutEnv Wb B b m l W0:=by rw [hW0];exact HEN.out.below (own_below w _)
  have hK0:OutK B b w W0:=by rw [hW0];exact OutK.below (own_below w _) HEN.out.size
  rw [← hW0]
  have HE0:=Lib.hid hE0
  have HK0:=Lib.hid hK0
  obtain ⟨b0,b1,b2,b3,b4⟩:=exCells hbx
  clear hW0 hbx hE0 hK0
  go_wp2_with fail
  refine (HQ.out _).mono ?_
  rintro e V ⟨rfl,hb⟩
  have hEV:=HE0.out.below hb
  have HKV:=Lib.hid (HK0.out.trans (OutK.below (b:=b) hb HE0.out.size))
  have HC:=Lib.hid (put2 B b m l q (ByteArray.mk #[64,110,111,119]) V hEV.out (by show l.length+(q.size+4)≤_;omega) hEV.size)
  clear hb hEV
  go_wp2_with fail
  refine HC.out.mono ?_
  rintro e W1 ⟨rfl,hio1,hok1⟩
  have HF:Hid (WrP B b m (l ++ (q.data.toList ++ [64,110,111,119])) w (.returned (.tuple #[])) W1):=⟨rfl,hio1,HKV.out.trans hok1⟩
  clear hio1 hok1
  go_wp2_with fail
  go_end0
  exact HF.out
set_option maxHeartbeats 4000000 in
set_option maxRecDepth 100000 in
theorem expr_fix {Wb:World} {B b:Nat} {m:Value} {n:Nat} (r nm:ByteArray) (d:Int) (sub:List Ex) (cs:List Value) (least:Int) (l:List UInt8) (w:World) (hd0:0≤d) (hd1:d≤99999)
    (h:ExAt (n+1) Wb cs (Ex.mk 2 r nm d sub)) (hl:least≤2) (he:OutEnv Wb B b m l w) (hlen:l.length+(pexT (n+1) (Ex.mk 2 r nm d sub) least).length≤1000000000) :
    Calls Tryz.prog 28 #[.pointer (some ⟨b,0,none⟩),.agg cs.toArray,.int .i64 least] w (WrP B b m (l ++ pexT (n+1) (Ex.mk 2 r nm d sub) least) w):=by
  have hpt:pexT (n+1) (Ex.mk 2 r nm d sub) least=(qn nm).data.toList ++ ([64] ++ (dS d).data.toList):=by
    rw [pexT];simp [parT,opO,Ex.kind,leafT,Ex.name,Ex.date,dS];omega
  rw [hpt] at hlen ⊢
  obtain ⟨a,len,cap,rfl,hlen2,hsub⟩:=h
  have HOP:Hid (∀ W,Calls Tryz.prog 56 #[.int .u8 2] W (fun e w' => e = .returned (.tuple #[.string (ByteArray.mk #[]),.int .i64 2,.int .i64 2])∧W=w')):=fun W => oper_leaf (by decide) (by decide) (by decide) W
  have HQ:=Lib.hid (pqname_any nm)
  have HD:Hid (∀ W,Calls Tryz.prog 26 #[.int .i64 d] W (fun e w' => e = .returned (.string (dS d))∧Below W.heap.size W w')):=fun W => pdayT_is hd0 hd1 W
  obtain ⟨q,hq⟩:∃ q,q=qn nm:=⟨_,rfl⟩
  obtain ⟨s,hs⟩:∃ s,s=dS d:=⟨_,rfl⟩
  rw [← hq,← hs] at hlen ⊢
  rw [← hq] at HQ
  rw [← hs] at HD
  have hlen3:l.length+(q.size+(1+s.size))≤1000000000:=by
    have h1:q.data.toList.length=q.size:=by simp
    have h2:s.data.toList.length=s.size:=by simp
    rw [List.length_append,List.length_append,h1,h2] at hlen;exact hlen
  have HEN:=Lib.hid he
  have hbw:=he.lt
  clear hlen2 hpt hsub hq hlen hs hd0 hd1
  show Calls Tryz.prog 28 #[.pointer (some ⟨b,0,none⟩),.agg #[.int .u8 2,.string r,.string nm,.int .i64 d,.slice a len cap],.int .i64 least] w _
  go_enter Tryz.func28,Tryz.ntmps28
  go_wp2_with fail
  refine (HOP.out _).mono ?_
  rintro e w' ⟨rfl,rfl⟩
  obtain ⟨W0,hW0⟩:∃ W0,W0=w.alloc (.cells #[.int .u8 2,.string r,.string nm,.int .i64 d,.slice a len cap] 25):=⟨_,rfl⟩
  have hbx:W0.heap[w.heap.size]? = some (.cells #[.int .u8 2,.string r,.string nm,.int .i64 d,.slice a len cap] 25):=by rw [hW0];exact alloc_at _ _
  have hE0:OutEnv Wb B b m l W0:=by rw [hW0];exact HEN.out.below (own_below w _)
  have hK0:OutK B b w W0:=by rw [hW0];exact OutK.below (own_below w _) HEN.out.size
  rw [← hW0]
  have HE0:=Lib.hid hE0
  have HK0:=Lib.hid hK0
  have HBX:=Lib.hid hbx
  obtain ⟨b0,b1,b2,b3,b4⟩:=exCells hbx
  have SB:∀ W,Below W0.heap.size W0 W→W.cell? ⟨w.heap.size,2,none⟩=some (.string nm)∧W.cell? ⟨w.heap.size,3,none⟩=some (.int .i64 d):=fun W hW =>
    have q:=exCells ((hW.block _ (Array.getElem?_eq_some_iff.1 hbx).1).trans hbx)
    ⟨q.2.2.1,q.2.2.2.1⟩
  have HSB:=Lib.hid SB
  have HC0:Hid (Below W0.heap.size W0 W0):=Below.refl _ W0
  have HC:Hid (Below W0.heap.size W0 W0.drew):=(Below.refl _ W0).drew
  clear hW0 hbx hE0 hK0 SB
  go_wp2_with fail
  go_region_held3 (fun W => W.cell? ⟨w.heap.size,2,none⟩=some (.string nm)∧W.cell? ⟨w.heap.size,3,none⟩=some (.int .i64 d))
    ((first | with_reducible exact HSB.out _ HC.out | with_reducible exact HSB.out _ HC0.out | with_reducible exact HSB.out _ (HC.out.alloc HC.out.size _) | with_reducible exact HSZ.out))
    ((first
      | (go_at_call 27;refine (HQ.out _).mono ?_;rintro e u ⟨rfl,hb⟩;have HC:=Lib.hid (HC.out.trans (hb.mono HC.out.size));clear hb)
      | (go_at_call 26;refine (HD.out _).mono ?_;rintro e u ⟨rfl,hb⟩;have HC:=Lib.hid (HC.out.trans (hb.mono HC.out.size));clear hb)
      | (go_at_call 25;refine (put3 B b m l q (ByteArray.mk #[64]) s _ (HE0.out.below HC.out).out (by show l.length+(q.size+(1+s.size))≤_;omega) (HE0.out.below HC.out).size).mono ?_;rintro e u ⟨rfl,hio,hok⟩;have HIO:=Lib.hid hio;have HOK:=Lib.hid ((OutK.below (b:=b) HC.out HE0.out.size).trans hok);have HXX:=exCells (boxed_kept HBX.out HOK.out (by omega));have HSZ:=Lib.hid (And.intro HXX.2.2.1 HXX.2.2.2.1);clear HXX;clear hio hok)))
  have HF:Hid (WrP B b m (l ++ (q.data.toList ++ ([64] ++ s.data.toList))) w (.returned (.tuple #[])) u):=⟨rfl,HIO.out,HK0.out.trans HOK.out⟩
  go_wp2_with fail
  go_end0
  exact HF.out
end Go.Proofs.YtijkefflpojmhaaGreatDoor

namespace Go.Proofs.YtijkefflpojmhaaGreatDoor
open Go.RowKit
theorem commas_snoc (l:List (List UInt8)) (a:List UInt8):commas (l ++ [a])=if l=[] then a else commas l ++ ([44,32] ++ a):=by
 induction l with
 | nil => rfl
 | cons b l ih =>
  rw [if_neg (by simp)]
  cases l with
  | nil => simp [commas]
  | cons c l =>
   rw [if_neg (by simp)] at ih
   show b ++ [44,32] ++ commas (c :: l ++ [a])=b ++ [44,32] ++ commas (c :: l) ++ ([44,32] ++ a)
   rw [ih]
   simp [List.append_assoc]
theorem commas_le (l1 l2:List (List UInt8)):(commas l1).length≤(commas (l1 ++ l2)).length:=by
 induction l2 generalizing l1 with
 | nil => simp
 | cons a l2 ih =>
  have h:=ih (l1 ++ [a])
  rw [List.append_assoc] at h
  refine Nat.le_trans ?_ h
  rw [commas_snoc]
  split
  ·rename_i h;rw [h];simp [commas]
  ·simp only [List.length_append];omega
noncomputable def comT (n:Nat) (x:Ex) (k:Nat):List UInt8:=commas ((x.sub.take k).map fun y => pexT n y 0)
theorem comT_zero (n:Nat) (x:Ex):comT n x 0=[]:=by simp [comT,commas]
theorem comT_one (n:Nat) (x:Ex) (h:0 < x.sub.length):comT n x 1=pexT n x.sub[0] 0:=by
 unfold comT
 rw [List.take_succ_eq_append_getElem h];simp [commas]
theorem comT_succ (n:Nat) (x:Ex) (k:Nat) (h:k < x.sub.length) (h0:0 < k):comT n x (k+1)=comT n x k ++ ([44,32] ++ pexT n x.sub[k] 0):=by
 unfold comT
 rw [List.take_succ_eq_append_getElem h,List.map_append,List.map_singleton,commas_snoc,if_neg (by
  intro e
  have e2:=congrArg List.length e
  rw [List.length_map,List.length_take,List.length_nil] at e2
  omega)]
theorem comT_le (n:Nat) (x:Ex) (k:Nat):(comT n x k).length≤(commas (x.sub.map fun y => pexT n y 0)).length:=by
 have e:x.sub.map (fun y => pexT n y 0)=(x.sub.take k).map (fun y => pexT n y 0) ++ (x.sub.drop k).map (fun y => pexT n y 0):=by rw [← List.map_append,List.take_append_drop]
 rw [e]
 exact commas_le _ _
theorem comT_all (n:Nat) (x:Ex) (k:Nat) (h:x.sub.length≤k):comT n x k=commas (x.sub.map fun y => pexT n y 0):=by
 unfold comT;rw [List.take_of_length_le h]
theorem pexT_word (n:Nat) (x:Ex) (least:Int) (hk:HasWd x.kind) (hl:least≤2):pexT (n+1) x least=wdL x.kind ++ ([40] ++ (commas (x.sub.map fun y => pexT n y 0) ++ [41])):=by
 have:opO x.kind=2:=by unfold opO;unfold HasWd at hk;rw [if_neg (by omega),if_neg (by omega),if_neg (by omega)]
 rw [pexT,this,parT,if_neg (by simp;omega),if_neg (by unfold HasWd at hk;omega),if_neg (by unfold HasWd at hk;omega)]
 simp
def ComR (Wb:World) (B b:Nat) (m:Value) (n:Nat) (x:Ex) (l wd:List UInt8) (V:World) (len:Nat) (iv:Value) (wr:World):Prop :=
 ∃ k:Nat,k≤len∧iv = .int .i64 (k:Int)∧OutEnv Wb B b m (l ++ (wd ++ [40]) ++ comT n x k) wr∧OutK B b V wr
theorem wdL_short (k:Int):(wdL k).length≤5:=by
 unfold wdL
 (repeat' split) <;> simp
set_option maxHeartbeats 1600000 in
set_option maxRecDepth 100000 in
theorem expr_word {Wb:World} {B b:Nat} {m:Value} {n:Nat} (ih:ExprC Wb B b m n) (x:Ex) (cs:List Value) (least:Int) (l:List UInt8) (w:World) (hk:HasWd x.kind) (ho:∀ y ∈ x.sub,OkX n y)
  (h:ExAt (n+1) Wb cs x) (hl:least≤2) (hs:x.sub.length≤1000) (he:OutEnv Wb B b m l w) (hlen:l.length+(pexT (n+1) x least).length≤1000000000) :
  Calls Tryz.prog 28 #[.pointer (some ⟨b,0,none⟩),.agg cs.toArray,.int .i64 least] w (WrP B b m (l ++ pexT (n+1) x least) w):=by
 rw [pexT_word n x least hk hl] at hlen ⊢
 have hwz:=wdL_short x.kind
 obtain ⟨wd,hwd⟩:∃ wd,wd=wdL x.kind:=⟨_,rfl⟩
 have hlook:∀ W,WordsAt m W→(Instr.lookup 42 m (.int .u8 x.kind) false).run Tryz.prog W = .ok (.string ⟨wd.toArray⟩) W:=fun W h => by rw [hwd];exact h.look hk
 rw [← hwd] at hlen hwz ⊢
 have HCM:Hid (∀ k,(comT n x k).length≤(commas (x.sub.map fun y => pexT n y 0)).length):=comT_le n x
 have HALL:Hid (∀ k,x.sub.length≤k→comT n x k=commas (x.sub.map fun y => pexT n y 0)):=comT_all n x
 obtain ⟨Z,hZ⟩:∃ Z,Z=commas (x.sub.map fun y => pexT n y 0):=⟨_,rfl⟩
 rw [← hZ] at hlen HCM HALL ⊢
 simp only [List.length_append,List.length_cons,List.length_nil] at hlen
 obtain ⟨a,len,cap,rfl,hlen2,hsub⟩:=h
 have k4:x.kind ≠ 4:=by unfold HasWd at hk;omega
 have k5:x.kind ≠ 5:=by unfold HasWd at hk;omega
 have k6:x.kind ≠ 6:=by unfold HasWd at hk;omega
 have k1:((x.kind:Int) == 1)=false:=op_beq_no (by unfold HasWd at hk;omega)
 have k2:((x.kind:Int) == 2)=false:=op_beq_no (by unfold HasWd at hk;omega)
 have k3:((x.kind:Int) == 3)=false:=op_beq_no (by unfold HasWd at hk;omega)
 have HOP:Hid (∀ W,Calls Tryz.prog 56 #[.int .u8 x.kind] W (fun e w' => e = .returned (.tuple #[.string (ByteArray.mk #[]),.int .i64 2,.int .i64 2])∧W=w')):=fun W => oper_leaf k4 k5 k6 W
 obtain ⟨kd,hkd⟩:∃ kd,kd=x.kind:=⟨_,rfl⟩
 rw [← hkd] at HOP k1 k2 k3 hlook ⊢
 have HI:=Lib.hid ih
 have HS:=Lib.hid hsub
 have HL:=Lib.hid hlen2
 have HO:=Lib.hid ho
 have HLK:=Lib.hid hlook
 have HEN:=Lib.hid he
 have hbw:=he.lt
 have hlb:len≤1000:=by omega
 clear ih hsub hlen2 ho hlook hwd hZ hk k4 k5 k6 hkd
 show Calls Tryz.prog 28 #[.pointer (some ⟨b,0,none⟩),.agg #[.int .u8 kd,.string x.rat,.string x.name,.int .i64 x.date,.slice a len cap],.int .i64 least] w _
 go_enter Tryz.func28,Tryz.ntmps28
 go_wp2_with fail
 refine (HOP.out _).mono ?_
 rintro e w' ⟨rfl,rfl⟩
 obtain ⟨W0,hW0⟩:∃ W0,W0=w.alloc (.cells #[.int .u8 kd,.string x.rat,.string x.name,.int .i64 x.date,.slice a len cap] 25):=⟨_,rfl⟩
 have hbx:W0.heap[w.heap.size]? = some (.cells #[.int .u8 kd,.string x.rat,.string x.name,.int .i64 x.date,.slice a len cap] 25):=by rw [hW0];exact alloc_at _ _
 have hE0:OutEnv Wb B b m l W0:=by rw [hW0];exact HEN.out.below (own_below w _)
 have hK0:OutK B b w W0:=by rw [hW0];exact OutK.below (own_below w _) HEN.out.size
 rw [← hW0]
 have HE0:=Lib.hid hE0
 have HK0:=Lib.hid hK0
 have HBX:=Lib.hid hbx
 obtain ⟨b0,b1,b2,b3,b4⟩:=exCells hbx
 have hbm:W0.cell? ⟨b,2,none⟩=some m:=by
  obtain ⟨p,hp⟩:=hE0.out.at
  obtain ⟨_,v,hv,_⟩:=hp
  rw [Lib.cell_of_heap hv];rfl
 have hlk0:=HLK.out W0.drew hE0.words
 have SB:∀ W,Below W0.heap.size W0 W→W.cell? ⟨b,2,none⟩=some m∧W.cell? ⟨w.heap.size,0,none⟩=some (.int .u8 kd):=fun W hW =>
  ⟨((bcell hW).1 _ _ hE0.lt).trans hbm,((bcell hW).1 _ _ (Array.getElem?_eq_some_iff.1 hbx).1).trans b0⟩
 have HSB:=Lib.hid SB
 have HC0:Hid (Below W0.heap.size W0 W0):=Below.refl _ W0
 have HC:Hid (Below W0.heap.size W0 W0.drew):=(Below.refl _ W0).drew
 have dle:decide ((2:Int) < least)=false:=by simp;omega
 have hbz:=hE0.lt
 have hxz:w.heap.size < W0.heap.size:=(Array.getElem?_eq_some_iff.1 hbx).1
 have HED:Hid (OutEnv Wb B b m l W0.drew):=hE0.below (Below.refl _ W0).drew
 have HKD:Hid (OutK B b w W0.drew):=hK0.drew
 clear hW0 hbx hE0 hK0 SB
 go_wp2_with fail
 go_region_held3 (fun W => W.cell? ⟨b,2,none⟩=some m∧W.cell? ⟨w.heap.size,0,none⟩=some (.int .u8 kd))
  ((first | with_reducible exact HSB.out _ HC.out | with_reducible exact HSB.out _ HC0.out | with_reducible exact HSB.out _ (HC.out.alloc HC.out.size _) | with_reducible exact HSB.out _ ((HC0.out.alloc HC0.out.size _).drew) | with_reducible exact HSZ.out))
  ((go_at_call 25;refine (put2 B b m l ⟨wd.toArray⟩ (ByteArray.mk #[40]) _ HED.out.out (by show l.length+(wd.length+1)≤_;omega) HED.out.size).mono ?_;rintro e V ⟨rfl,hio,hok⟩;have HEV:=Lib.hid (HED.out.step hio hok);have HKV:=Lib.hid (HKD.out.trans hok);have HBXV:=Lib.hid (boxed_kept HBX.out (OutK.trans (OutK.drew (OutK.refl B b W0)) hok) (by omega));have HVW:=HEV.out.out.at;obtain ⟨pV,_,vV,hvV,_⟩:=HVW;have HSZ:=Lib.hid (And.intro (show V.cell? ⟨b,2,none⟩=some m by rw [Lib.cell_of_heap hvV];rfl) (exCells HBXV.out).1);clear hio hok hvV))
 obtain ⟨c0,c1,c2,c3,c4⟩:=exCells HBXV.out
 have hVz:=HEV.out.size
 clear b0 b1 b2 b3 b4 hbm hlk0
 go_wp2_with fail
 go_loopw [9,10,39] (fun _ _ iv wr => ComR Wb B b m n x l wd V len iv wr) (fun _ _ iv _ => len - (intOf iv).toNat)
 case atStart => exact ⟨0,Nat.zero_le _,rfl,by rw [comT_zero];simpa using HEV.out,OutK.refl _ _ _⟩
 case round =>
  obtain ⟨w1,rfl⟩:∃ w1:World,w1=wr:=⟨_,rfl⟩
  obtain ⟨k,hk,rfl,hen,hok⟩:=hrel
  have HE:=Lib.hid hen
  have HK:=Lib.hid hok
  have hbz1:=hen.lt
  clear hen hok
  by_cases hlt:k < len
  ·have hlt2:k < x.sub.length:=by rw [HL.out];exact hlt
   rcases HS.out with h0 | ⟨g,o,ha,hg,hel⟩
   ·omega
   ·subst ha
    obtain ⟨p1,l1,cc,⟨e0,e1,e2,e3,e4⟩,hx1⟩:=ExAt.part hg HE.out.old hlt2 hel
    have hoy:=HO.out _ (List.getElem_mem hlt2)
    have q1:=HCM.out (k+1)
    have zg:g < w1.heap.size:=Nat.lt_of_lt_of_le hg HE.out.old.size
    by_cases hk0:k=0
    ·subst hk0
     have hT:=comT_one n x hlt2
     obtain ⟨y,hy⟩:∃ y,y=x.sub[0]:=⟨_,rfl⟩
     rw [← hy] at e0 e1 e2 e3 hx1 hoy hT
     rw [hT] at q1
     have HT:=Lib.hid hT
     have hC:=HI.out y _ 0 (l ++ (wd ++ [40])) (w1.alloc (.cells #[.int .u8 y.kind,.string y.rat,.string y.name,.int .i64 y.date,.slice p1 l1 cc] 25)) hx1 hoy (by omega) (by omega) (by
      have:=HE.out.below (own_below w1 (.cells #[.int .u8 y.kind,.string y.rat,.string y.name,.int .i64 y.date,.slice p1 l1 cc] 25))
      rwa [comT_zero,List.append_nil] at this) (by simp only [List.length_append,List.length_cons,List.length_nil];omega)
     have HC:=Lib.hid hC
     have HOA:=Lib.hid (HK.out.alloc HE.out.size (.cells #[.int .u8 y.kind,.string y.rat,.string y.name,.int .i64 y.date,.slice p1 l1 cc] 25))
     have HEA:=Lib.hid (HE.out.below (own_below w1 (.cells #[.int .u8 y.kind,.string y.rat,.string y.name,.int .i64 y.date,.slice p1 l1 cc] 25)))
     simp only [Nat.zero_mul,Nat.add_zero] at e0 e1 e2 e3 e4
     clear hC hT hx1 hoy hy q1 hel
     go_wp2_with fail
     refine HC.out.mono ?_
     rintro e w2 ⟨rfl,hio,hok⟩
     have HR:Hid (OutEnv Wb B b m (l ++ (wd ++ [40]) ++ comT n x (0+1)) w2∧OutK B b V w2):=⟨by
      have q:=HEA.out.step hio hok
      rw [comT_zero,List.append_nil] at *
      rw [show comT n x (0+1)=comT n x 1 from rfl,HT.out]
      exact q,HOA.out.trans hok⟩
     clear hio hok e0 e1 e2 e3 e4
     go_wp2_with fail
     go_roundw
     case rel => exact ⟨0+1,by omega,by go_num,HR.out.1,HR.out.2⟩
     case measure => simp [intOf] <;> omega
    ·have hk1:0 < k:=by omega
     have hT:=comT_succ n x k hlt2 hk1
     obtain ⟨y,hy⟩:∃ y,y=x.sub[k]:=⟨_,rfl⟩
     rw [← hy] at e0 e1 e2 e3 hx1 hoy hT
     rw [hT] at q1
     have HT:=Lib.hid hT
     simp only [List.length_append,List.length_cons,List.length_nil] at q1
     obtain ⟨V1,hV1⟩:∃ V1,V1=w1.alloc (.cells #[.int .u8 y.kind,.string y.rat,.string y.name,.int .i64 y.date,.slice p1 l1 cc] 25):=⟨_,rfl⟩
     have hbv:V1.heap[w1.heap.size]? = some (.cells #[.int .u8 y.kind,.string y.rat,.string y.name,.int .i64 y.date,.slice p1 l1 cc] 25):=by rw [hV1];exact alloc_at _ _
     have hEA:OutEnv Wb B b m (l ++ (wd ++ [40]) ++ comT n x k) V1:=by rw [hV1];exact HE.out.below (own_below w1 _)
     have hOA:OutK B b V V1:=by rw [hV1];exact HK.out.alloc HE.out.size _
     have hP:=put1 B b m _ (ByteArray.mk #[44,32]) V1 hEA.out (by show _+2≤_;simp only [List.length_append,List.length_cons,List.length_nil];omega) hEA.size
     have hVz:V1.heap.size=w1.heap.size+1:=by rw [hV1];simp
     rw [hVz] at hP
     have HP:=Lib.hid hP
     clear hP hVz
     have HBV:=Lib.hid hbv
     have HEA:=Lib.hid hEA
     have HOA:=Lib.hid hOA
     have HV:=Lib.hid hV1
     have HX1:=Lib.hid hx1
     have HOY:=Lib.hid hoy
     clear hT hx1 hoy hy hel hbv hEA hOA hV1
     have hd:decide ((0:Int) < (k:Int))=true:=by simp;omega
     go_wp2_with fail
     rw [← HV.out]
     clear HV
     refine HP.out.mono ?_
     rintro e V2 ⟨rfl,hio,hok⟩
     have hEB:=HEA.out.step hio hok
     have hbx2:=boxed_kept HBV.out hok (by omega)
     obtain ⟨f0,f1,f2,f3,f4⟩:=exCells hbx2
     have HC:=Lib.hid (HI.out y _ 0 _ V2 HX1.out HOY.out (by omega) (by omega) hEB (by show (_ ++ [44,32]).length+_≤_;simp only [List.length_append,List.length_cons,List.length_nil];omega))
     have HEB:=Lib.hid hEB
     have HOB:=Lib.hid (HOA.out.trans hok)
     clear hio hok hEB hbx2 e0 e1 e2 e3 e4
     go_wp2_with fail
     refine HC.out.mono ?_
     rintro e w2 ⟨rfl,hio,hok⟩
     have HR:Hid (OutEnv Wb B b m (l ++ (wd ++ [40]) ++ comT n x (k+1)) w2∧OutK B b V w2):=⟨by
      have q:=HEB.out.step hio hok
      rw [HT.out]
      simpa only [List.append_assoc] using q,HOB.out.trans hok⟩
     clear hio hok f0 f1 f2 f3 f4
     go_wp2_with fail
     go_roundw
     case rel => exact ⟨k+1,by omega,by go_num,HR.out.1,HR.out.2⟩
     case measure => simp [intOf] <;> omega
  ·have HT:=Lib.hid (HALL.out k (by rw [HL.out];omega))
   have hP:=put1 B b m _ (ByteArray.mk #[41]) w1 HE.out.out (by
    show _+1≤_
    rw [HT.out]
    simp only [List.length_append,List.length_cons,List.length_nil];omega) HE.out.size
   have HP:=Lib.hid hP
   clear hP
   go_wp2_with fail
   refine HP.out.mono ?_
   rintro e w2 ⟨rfl,hio,hok⟩
   have HF:Hid (WrP B b m (l ++ (wd ++ ([40] ++ (Z ++ [41])))) w (.returned (.tuple #[])) w2):=⟨rfl,by rw [HT.out] at hio;simpa [List.append_assoc] using hio,HKV.out.trans (HK.out.trans hok)⟩
   clear hio hok
   go_wp2_with fail
   go_end0
   exact HF.out
end Go.Proofs.YtijkefflpojmhaaGreatDoor

namespace Go.Proofs.YtijkefflpojmhaaGreatDoor
open Go.RowKit
theorem ex_two {l:List Ex} (h:l.length=2):∃ x0 x1,l=[x0,x1]:=by
 match l,h with
 | [x0,x1],_ => exact ⟨x0,x1,rfl⟩
theorem expr_all (Wb:World) (B b:Nat) (m:Value):∀ n,ExprC Wb B b m n:=by
 intro n
 induction n with
 | zero => intro x cs least l w h;exact h.elim
 | succ n ih =>
  intro x cs least l w h ho h0 h2 he hlen
  obtain ⟨hk,hs⟩:=ho
  obtain ⟨k,r,nm,d,sub⟩:=x
  rcases hk with hk | ⟨hk,d0,d1⟩ | hk | ⟨hk,hsub⟩ | ⟨hk,hz⟩
  ·obtain rfl:k=1:=hk
   exact expr_rat r nm d sub cs least l w h h2 he hlen
  ·obtain rfl:k=2:=hk
   exact expr_fix r nm d sub cs least l w d0 d1 h h2 he hlen
  ·obtain rfl:k=3:=hk
   exact expr_now r nm d sub cs least l w h h2 he hlen
  ·obtain ⟨x0,x1,rfl⟩:∃ x0 x1,sub=[x0,x1]:=ex_two hsub
   have o0:OkX n x0:=hs x0 (by simp [Ex.sub])
   have o1:OkX n x1:=hs x1 (by simp [Ex.sub])
   have hl:least=0 ∨ least=1 ∨ least=2:=by omega
   rcases hk with hk | hk | hk
   ·obtain rfl:k=4:=hk
    rcases hl with hl | hl | hl
    ·exact expr_op4_0 ih r nm d x0 x1 cs least l w h o0 o1 hl he hlen
    ·exact expr_par4_1 ih r nm d x0 x1 cs least l w h o0 o1 hl he hlen
    ·exact expr_par4_2 ih r nm d x0 x1 cs least l w h o0 o1 hl he hlen
   ·obtain rfl:k=5:=hk
    rcases hl with hl | hl | hl
    ·exact expr_op5_0 ih r nm d x0 x1 cs least l w h o0 o1 hl he hlen
    ·exact expr_par5_1 ih r nm d x0 x1 cs least l w h o0 o1 hl he hlen
    ·exact expr_par5_2 ih r nm d x0 x1 cs least l w h o0 o1 hl he hlen
   ·obtain rfl:k=6:=hk
    rcases hl with hl | hl | hl
    ·exact expr_op6_0 ih r nm d x0 x1 cs least l w h o0 o1 hl he hlen
    ·exact expr_op6_1 ih r nm d x0 x1 cs least l w h o0 o1 hl he hlen
    ·exact expr_par6_2 ih r nm d x0 x1 cs least l w h o0 o1 hl he hlen
  ·exact expr_word ih _ cs least l w hk hs h h2 (by omega) he hlen
def RxP (w:World) (t:List UInt8) (e:Ending) (w':World):Prop:=e = .returned (.string ⟨t.toArray⟩)∧Below w.heap.size w w'
def RexC (n:Nat):Prop := ∀ (x:Ex) (cs:List Value) (w:World),ExAt n w cs x→OkX n x→(rexT n x).length≤2999000 →
  Calls Tryz.prog 36 #[.agg cs.toArray] w (RxP w (rexT n x))
noncomputable def romT (n:Nat) (l:List Ex) (k:Nat):List UInt8:=commas ((l.take k).map (rexT n))
theorem romT_one (n:Nat) (l:List Ex) (h:0 < l.length):romT n l 1=rexT n l[0]:=by
 unfold romT
 rw [List.take_succ_eq_append_getElem h];simp [commas]
theorem romT_succ (n:Nat) (l:List Ex) (k:Nat) (h:k < l.length) (h0:0 < k):romT n l (k+1)=romT n l k ++ ([44,32] ++ rexT n l[k]):=by
 unfold romT
 rw [List.take_succ_eq_append_getElem h,List.map_append,List.map_singleton,commas_snoc,if_neg (by
  intro e
  have e2:=congrArg List.length e
  rw [List.length_map,List.length_take,List.length_nil] at e2
  omega)]
theorem romT_le (n:Nat) (l:List Ex) (k:Nat):(romT n l k).length≤(commas (l.map (rexT n))).length:=by
 have e:l.map (rexT n)=(l.take k).map (rexT n) ++ (l.drop k).map (rexT n):=by rw [← List.map_append,List.take_append_drop]
 rw [e]
 exact commas_le _ _
theorem romT_all (n:Nat) (l:List Ex) (k:Nat) (h:l.length≤k):romT n l k=commas (l.map (rexT n)):=by
 unfold romT;rw [List.take_of_length_le h]
theorem ba_eq {s:ByteArray} {l:List UInt8} (h:s.data.toList=l):s=⟨l.toArray⟩:=by
 cases s with
 | mk d => simp at h;rw [← h]
theorem ba_size {s:ByteArray} {l:List UInt8} (h:s.data.toList=l):s.size=l.length:=by rw [← h];simp
def RlsR (n:Nat) (l:List Ex) (w:World) (sv iv:Value) (wr:World):Prop :=
 ∃ (k:Nat) (s:ByteArray),k≤l.length∧iv = .int .i64 (k:Int)∧sv = .string s∧s.size≤3000000∧Hid (s.data.toList=[40] ++ romT n l k)∧Below w.heap.size w wr
set_option maxHeartbeats 2000000 in
set_option maxRecDepth 100000 in
theorem rlist_of {n:Nat} (ih:RexC n) (l:List Ex) (a:Option Addr) (len cap:Nat) (w:World) (hl:l.length=len) (hn:len≤1000) (ho:∀ y ∈ l,OkX n y) (hz:(commas (l.map (rexT n))).length≤2999000)
  (hat:len=0 ∨ ∃ g o,a=some ⟨g,o,none⟩∧g < w.heap.size ∧ ∀ i (hi:i < l.length),∃ cs',(∀ j,j < 5→w.cell? ⟨g,o+i*5+j,none⟩=cs'[j]?)∧ExAt n w cs' l[i]) :
  Calls Tryz.prog 69 #[.slice a len cap] w (RxP w ([40] ++ (commas (l.map (rexT n)) ++ [41]))):=by
 have HI:=Lib.hid ih
 have HL:=Lib.hid hl
 have HO:=Lib.hid ho
 have HAT:=Lib.hid hat
 have HLE:Hid (∀ k,(romT n l k).length≤(commas (l.map (rexT n))).length):=romT_le n l
 have HALL:Hid (∀ k,l.length≤k→romT n l k=commas (l.map (rexT n))):=romT_all n l
 obtain ⟨Z,hZ⟩:∃ Z,Z=commas (l.map (rexT n)):=⟨_,rfl⟩
 rw [← hZ] at hz HLE HALL ⊢
 clear ih hl ho hat hZ
 go_enter Tryz.func69,Tryz.ntmps69
 go_wp2_with fail
 go_loopw [3,4] (fun sv iv wr => RlsR n l w sv iv wr) (fun _ iv _ => len - (intOf iv).toNat)
 case atStart => exact ⟨0,ByteArray.mk #[40],Nat.zero_le _,rfl,rfl,(show (1:Nat)≤3000000 by decide),Lib.hid (by simp [romT,commas]),Below.refl _ _⟩
 case round =>
  obtain ⟨w1,rfl⟩:∃ w1:World,w1=wr:=⟨_,rfl⟩
  obtain ⟨k,s,hk,rfl,rfl,hs1,HS,hb⟩:=hrel
  have HB:=Lib.hid hb
  have hkl:k≤len:=by rw [← HL.out];exact hk
  clear hb hk
  by_cases hlt:k < len
  ·have hlt2:k < l.length:=by rw [HL.out];exact hlt
   rcases HAT.out with h0 | ⟨g,o,ha,hg,hel⟩
   ·omega
   ·subst ha
    have q1:=HLE.out (k+1)
    obtain ⟨p1,l1,cc,⟨e0,e1,e2,e3,e4⟩,hx1⟩:=ExAt.elem (x:=Ex.mk 0 ByteArray.empty ByteArray.empty 0 l) hg HB.out hlt2 hel
    have hoy:=HO.out _ (List.getElem_mem hlt2)
    simp only [Ex.sub] at e0 e1 e2 e3 hx1
    by_cases hk0:k=0
    ·subst hk0
     have hT:=romT_one n l hlt2
     obtain ⟨y,hy⟩:∃ y,y=l[0]:=⟨_,rfl⟩
     rw [← hy] at e0 e1 e2 e3 hx1 hoy hT
     rw [hT] at q1
     obtain ⟨t,ht⟩:∃ t:ByteArray,t=⟨(rexT n y).toArray⟩:=⟨_,rfl⟩
     have htz:t.data.toList=rexT n y:=by rw [ht]
     have hts:=ba_size htz
     have hc:=HI.out y _ w1 hx1 hoy (by omega)
     unfold RxP at hc
     rw [← ht] at hc
     have HC:=Lib.hid hc
     have hsz:s.size+t.size≤3000000:=by
      have:=ba_size HS.out
      simp only [List.length_append,List.length_cons,List.length_nil] at this
      have h0:(romT n l 0).length=0:=by simp [romT,commas]
      omega
     have HS2:Hid ((s ++ t).data.toList=[40] ++ romT n l (0+1)):=by
      show (s ++ t).data.toList=_
      rw [show romT n l (0+1)=romT n l 1 from rfl,hT,← htz]
      have h0:romT n l 0=[]:=by simp [romT,commas]
      have:=HS.out
      rw [h0] at this
      simp [this]
     simp only [Nat.zero_mul,Nat.add_zero] at e0 e1 e2 e3 e4
     have hst:(s ++ t).size≤3000000:=by simpa using hsz
     have HST:=Lib.hid hst
     clear hy hx1 hoy hc hT ht htz q1 hel hts hst
     go_wp2_with fail
     refine HC.out.mono ?_
     rintro e w2 ⟨rfl,hb2⟩
     have HB2:=Lib.hid (HB.out.trans (hb2.mono HB.out.size))
     clear hb2
     go_wp2_with fail
     go_roundw
     case rel => exact ⟨0+1,s ++ t,by omega,by go_num,rfl,HST.out,HS2.out,HB2.out⟩
     case measure => simp [intOf] <;> omega
    ·have hk1:0 < k:=by omega
     have hT:=romT_succ n l k hlt2 hk1
     obtain ⟨y,hy⟩:∃ y,y=l[k]:=⟨_,rfl⟩
     rw [← hy] at e0 e1 e2 e3 hx1 hoy hT
     rw [hT] at q1
     simp only [List.length_append,List.length_cons,List.length_nil] at q1
     obtain ⟨t,ht⟩:∃ t:ByteArray,t=⟨(rexT n y).toArray⟩:=⟨_,rfl⟩
     have htz:t.data.toList=rexT n y:=by rw [ht]
     have hts:=ba_size htz
     have hc:=HI.out y _ w1 hx1 hoy (by omega)
     unfold RxP at hc
     rw [← ht] at hc
     have HC:=Lib.hid hc
     have hsz:s.size+2+t.size≤3000000:=by
      have:=ba_size HS.out
      simp only [List.length_append,List.length_cons,List.length_nil] at this
      omega
     obtain ⟨s2,hs2⟩:∃ s2:ByteArray,s2=s ++ ByteArray.mk #[44,32]:=⟨_,rfl⟩
     have hs2z:s2.size=s.size+2:=by rw [hs2];simp [ByteArray.size_append];rfl
     have HS2:Hid ((s2 ++ t).data.toList=[40] ++ romT n l (k+1)):=by
      show (s2 ++ t).data.toList=_
      rw [hT,← htz,hs2]
      have:=HS.out
      simp [this]
     have hst:(s2 ++ t).size≤3000000:=by rw [ByteArray.size_append,hs2z];exact hsz
     have hs2le:s2.size+t.size≤3000000:=by omega
     have HST:=Lib.hid hst
     have HSS:=Lib.hid hs2
     have hd:decide ((0:Int) < (k:Int))=true:=by simp;omega
     clear hy hx1 hoy hc hT ht htz q1 hel hts hst hs2z hs2
     go_wp2_with fail
     rw [← HSS.out]
     refine HC.out.mono ?_
     rintro e w2 ⟨rfl,hb2⟩
     have HB2:=Lib.hid (HB.out.trans (hb2.mono HB.out.size))
     clear hb2
     go_wp2_with fail
     go_roundw
     case rel => exact ⟨k+1,s2 ++ t,by omega,by go_num,rfl,HST.out,HS2.out,HB2.out⟩
     case measure => simp [intOf] <;> omega
  ·have hT:=HALL.out k (by rw [HL.out];omega)
   have HF:Hid (s ++ ByteArray.mk #[41]=⟨([40] ++ (Z ++ [41])).toArray⟩):=by
    refine ba_eq ?_
    have:=HS.out
    rw [hT] at this
    simp [this]
   clear hT
   go_wp2_with fail
   go_ret
   exact ⟨by rw [HF.out];rfl,HB.out⟩
end Go.Proofs.YtijkefflpojmhaaGreatDoor

namespace Go.Proofs.YtijkefflpojmhaaGreatDoor
open Go.RowKit
structure BelOf (w:World) where
 u:World
 h:Below w.heap.size w u
instance (w:World):Inhabited (BelOf w):=⟨⟨w,Below.refl _ _⟩⟩
theorem region_bel {P:Program} {id:Nat} {Q:Exit→Act→World→Prop} {a:Act} {w:World} {l:List Oper} (hm:P.follows .mixedOrders=true) (hB:Region.lexB .any l.toArray=true)
  (h:wpQuiet P l.toArray (fun w' => ∃ p:BelOf w,w' = p.u) (fun a' => ∀ w',(∃ p:BelOf w,w' = p.u)→Q .normal a' w') l a):(Code.region id l.toArray true).wp P Q a w :=
 wp_region_quiet (C:=fun w' => ∃ p:BelOf w,w' = p.u) hm hB ⟨⟨w.drew,(Below.refl _ _).drew⟩,rfl⟩ (by simpa using h)
theorem bel_of {P:Program} {f:FuncId} {args:Array Value} {w:World} {p:BelOf w} {v:Value}
  (h:Calls P f args p.u fun e w' => e = .returned v∧Below p.u.heap.size p.u w'):Calls P f args p.u fun e w'' => e = .returned v ∧ ∃ q:BelOf w,w'' = q.u :=
 h.mono fun _ w' ⟨he,hb⟩ => ⟨he,⟨⟨w',p.h.trans (hb.mono p.h.size)⟩,rfl⟩⟩
theorem cell_bel {w:World} {g o:Nat} {v:Value} (h:w.cell? ⟨g,o,none⟩=some v) (p:BelOf w):p.u.cell? ⟨g,o,none⟩=some v :=
 ((bcell p.h).1 g o (cell_lt (a:=⟨g,o,none⟩) h)).trans h
end Go.Proofs.YtijkefflpojmhaaGreatDoor

namespace Go.Proofs.YtijkefflpojmhaaGreatDoor
open Go.RowKit
set_option maxHeartbeats 2000000 in
set_option maxRecDepth 100000 in
theorem rexpr_1 {n:Nat} (r nm:ByteArray) (d:Int) (sub:List Ex) (cs:List Value) (w:World) (h:ExAt (n+1) w cs (Ex.mk 1 r nm d sub)) :
  Calls Tryz.prog 36 #[.agg cs.toArray] w (RxP w (rexT (n+1) (Ex.mk 1 r nm d sub))):=by
 have hpt:rexT (n+1) (Ex.mk 1 r nm d sub)=r.data.toList:=by rw [rexT];simp [Ex.kind,leafT,Ex.rat]
 rw [hpt]
 obtain ⟨a,len,cap,rfl,_,_⟩:=h
 show Calls Tryz.prog 36 #[.agg #[.int .u8 1,.string r,.string nm,.int .i64 d,.slice a len cap]] w _
 have HF:Hid (RxP w r.data.toList (.returned (.string r)) (w.alloc (.cells #[.int .u8 1,.string r,.string nm,.int .i64 d,.slice a len cap] 25))):=⟨rfl,own_below _ _⟩
 clear hpt
 go_enter Tryz.func36,Tryz.ntmps36
 go_wp2_with fail
 go_ret
 exact HF.out
set_option maxHeartbeats 2000000 in
set_option maxRecDepth 100000 in
theorem rexpr_3 {n:Nat} (r nm:ByteArray) (d:Int) (sub:List Ex) (cs:List Value) (w:World) (h:ExAt (n+1) w cs (Ex.mk 3 r nm d sub)) (hz:(rexT (n+1) (Ex.mk 3 r nm d sub)).length≤3000000) :
  Calls Tryz.prog 36 #[.agg cs.toArray] w (RxP w (rexT (n+1) (Ex.mk 3 r nm d sub))):=by
 have hpt:rexT (n+1) (Ex.mk 3 r nm d sub)=(qn nm).data.toList ++ [64,110,111,119]:=by rw [rexT];simp [Ex.kind,leafT,Ex.name]
 rw [hpt] at hz ⊢
 obtain ⟨a,len,cap,rfl,_,_⟩:=h
 show Calls Tryz.prog 36 #[.agg #[.int .u8 3,.string r,.string nm,.int .i64 d,.slice a len cap]] w _
 have HQ:=Lib.hid (rqname_any nm)
 obtain ⟨q,hq⟩:∃ q,q=qn nm:=⟨_,rfl⟩
 rw [← hq] at HQ hz ⊢
 have hqz:q.size≤3000000:=by
  have:q.data.toList.length=q.size:=by simp
  rw [List.length_append] at hz;omega
 have HT:Hid (q ++ ByteArray.mk #[64,110,111,119]=⟨(q.data.toList ++ [64,110,111,119]).toArray⟩):=ba_eq (by simp)
 clear hpt hz hq
 go_enter Tryz.func36,Tryz.ntmps36
 go_wp2_with fail
 refine (HQ.out _).mono ?_
 rintro e w1 ⟨rfl,hb⟩
 have HB:=Lib.hid ((own_below w (.cells #[.int .u8 3,.string r,.string nm,.int .i64 d,.slice a len cap] 25)).trans (hb.mono (own_below w _).size))
 clear hb
 go_wp2_with fail
 go_ret
 exact ⟨by rw [HT.out];rfl,HB.out⟩
set_option maxHeartbeats 2000000 in
set_option maxRecDepth 100000 in
theorem rexpr_2 {n:Nat} (r nm:ByteArray) (d:Int) (hd0:0≤d) (hd1:d≤99999) (sub:List Ex) (cs:List Value) (w:World) (h:ExAt (n+1) w cs (Ex.mk 2 r nm d sub)) (hz:(rexT (n+1) (Ex.mk 2 r nm d sub)).length≤3000000) :
  Calls Tryz.prog 36 #[.agg cs.toArray] w (RxP w (rexT (n+1) (Ex.mk 2 r nm d sub))):=by
 have hpt:rexT (n+1) (Ex.mk 2 r nm d sub)=(qn nm).data.toList ++ [64] ++ (dS d).data.toList:=by rw [rexT];simp [Ex.kind,leafT,Ex.name,Ex.date,dS]
 rw [hpt] at hz ⊢
 obtain ⟨a,len,cap,rfl,_,_⟩:=h
 show Calls Tryz.prog 36 #[.agg #[.int .u8 2,.string r,.string nm,.int .i64 d,.slice a len cap]] w _
 have HQ:=Lib.hid (rqname_any nm)
 have HD:Hid (∀ W,Calls Tryz.prog 39 #[.int .i64 d] W (fun e w' => e = .returned (.string (dS d))∧Below W.heap.size W w')):=fun W => rdayT_is hd0 hd1 W
 obtain ⟨q,hq⟩:∃ q,q=qn nm:=⟨_,rfl⟩
 obtain ⟨s,hs⟩:∃ s,s=dS d:=⟨_,rfl⟩
 rw [← hq,← hs] at hz ⊢
 rw [← hq] at HQ
 rw [← hs] at HD
 have hqz:q.size+1+s.size≤3000000:=by
  have h1:q.data.toList.length=q.size:=by simp
  have h2:s.data.toList.length=s.size:=by simp
  simp only [List.length_append,List.length_cons,List.length_nil] at hz;omega
 have n1:¬ 9223372036854775807 < q.size+1:=by omega
 have n2:¬ 9223372036854775807 < q.size+1+s.size:=by omega
 have HT:Hid (q ++ ByteArray.mk #[64] ++ s=⟨(q.data.toList ++ [64] ++ s.data.toList).toArray⟩):=ba_eq (by simp)
 have HC0:Hid (Below w.heap.size w (w.alloc (.cells #[.int .u8 2,.string r,.string nm,.int .i64 d,.slice a len cap] 25))):=own_below _ _
 obtain ⟨W0,hW0⟩:∃ W0,W0=w.alloc (.cells #[.int .u8 2,.string r,.string nm,.int .i64 d,.slice a len cap] 25):=⟨_,rfl⟩
 have hbx:W0.heap[w.heap.size]? = some (.cells #[.int .u8 2,.string r,.string nm,.int .i64 d,.slice a len cap] 25):=by rw [hW0];exact alloc_at _ _
 rw [← hW0] at HC0
 clear hpt hz hq hs hd0 hd1
 go_enter Tryz.func36,Tryz.ntmps36
 go_wp2_with fail
 rw [← hW0]
 obtain ⟨b0,b1,b2,b3,b4⟩:=exCells hbx
 have SB:∀ W,Below W0.heap.size W0 W→W.cell? ⟨w.heap.size,2,none⟩=some (.string nm)∧W.cell? ⟨w.heap.size,3,none⟩=some (.int .i64 d):=fun W hW =>
  have q:=exCells ((hW.block _ (Array.getElem?_eq_some_iff.1 hbx).1).trans hbx)
  ⟨q.2.2.1,q.2.2.2.1⟩
 have HSB:=Lib.hid SB
 have HCW:Hid (Below W0.heap.size W0 W0):=Below.refl _ W0
 have HC:Hid (Below W0.heap.size W0 W0.drew):=(Below.refl _ W0).drew
 clear hW0 hbx SB
 go_wp2_with fail
 go_region_held3 (fun W => W.cell? ⟨w.heap.size,2,none⟩=some (.string nm)∧W.cell? ⟨w.heap.size,3,none⟩=some (.int .i64 d))
  ((first | with_reducible exact HSB.out _ HC.out | with_reducible exact HSB.out _ HCW.out))
  ((first
   | (go_at_call 35;refine (HQ.out _).mono ?_;rintro e u ⟨rfl,hb⟩;have HC:=Lib.hid (HC.out.trans (hb.mono HC.out.size));clear hb)
   | (go_at_call 39;refine (HD.out _).mono ?_;rintro e u ⟨rfl,hb⟩;have HC:=Lib.hid (HC.out.trans (hb.mono HC.out.size));clear hb)))
 go_wp2_with fail
 go_ret
 exact ⟨by rw [HT.out];rfl,HC0.out.trans (HC.out.mono HC0.out.size)⟩
set_option maxHeartbeats 2000000 in
set_option maxRecDepth 100000 in
theorem rexpr_7 {n:Nat} (ih:RexC n) (r nm:ByteArray) (d:Int) (sub:List Ex) (hs:sub.length≤3) (ho:∀ y ∈ sub,OkX n y) (cs:List Value) (w:World) (h:ExAt (n+1) w cs (Ex.mk 7 r nm d sub)) (hz:(rexT (n+1) (Ex.mk 7 r nm d sub)).length≤2999000) :
  Calls Tryz.prog 36 #[.agg cs.toArray] w (RxP w (rexT (n+1) (Ex.mk 7 r nm d sub))):=by
 have hpt:rexT (n+1) (Ex.mk 7 r nm d sub)=[109,97,120] ++ ([40] ++ (commas (sub.map (rexT n)) ++ [41])):=by rw [rexT];simp [Ex.kind,Ex.sub,wdL]
 rw [hpt] at hz ⊢
 obtain ⟨a,len,cap,rfl,hlen,hsub⟩:=h
 have hlen2:sub.length=len:=hlen
 show Calls Tryz.prog 36 #[.agg #[.int .u8 7,.string r,.string nm,.int .i64 d,.slice a len cap]] w _
 have hB:=own_below w (.cells #[.int .u8 7,.string r,.string nm,.int .i64 d,.slice a len cap] 25)
 have hcz:(commas (sub.map (rexT n))).length≤2999000:=by simp only [List.length_append] at hz;omega
 have hc:=rlist_of ih sub a len cap (w.alloc (.cells #[.int .u8 7,.string r,.string nm,.int .i64 d,.slice a len cap] 25)) hlen2 (by omega) ho hcz (by
  rcases hsub with h0 | ⟨g,o,ha,hg,hel⟩
  ·exact .inl h0
  ·exact .inr ⟨g,o,ha,Nat.lt_of_lt_of_le hg hB.size,fun i hi => by
    obtain ⟨cs',h1,h2⟩:=hel i hi
    exact ⟨cs',fun j hj => ((bcell hB).1 _ _ hg).trans (h1 j hj),ExAt.below hB h2⟩⟩)
 unfold RxP at hc
 obtain ⟨t,ht⟩:∃ t:ByteArray,t=⟨([40] ++ (commas (sub.map (rexT n)) ++ [41])).toArray⟩:=⟨_,rfl⟩
 have htz:t.data.toList=[40] ++ (commas (sub.map (rexT n)) ++ [41]):=by rw [ht]
 have hts:t.size≤3000000:=by
  have:=ba_size htz
  simp only [List.length_append,List.length_cons,List.length_nil] at this;omega
 rw [← ht] at hc
 have HT:Hid (ByteArray.mk #[109,97,120] ++ t=⟨([109,97,120] ++ ([40] ++ (commas (sub.map (rexT n)) ++ [41]))).toArray⟩):=ba_eq (by simp [htz])
 have HC:=Lib.hid hc
 have HBB:=Lib.hid hB
 clear hpt hz hlen hsub hB hcz hc ht htz ho
 go_enter Tryz.func36,Tryz.ntmps36
 go_wp2_with fail
 refine HC.out.mono ?_
 rintro e w1 ⟨rfl,hb⟩
 have HB:=Lib.hid (HBB.out.trans (hb.mono HBB.out.size))
 clear hb
 go_wp2_with fail
 go_ret
 exact ⟨by rw [HT.out];rfl,HB.out⟩
set_option maxHeartbeats 2000000 in
set_option maxRecDepth 100000 in
theorem rexpr_8 {n:Nat} (ih:RexC n) (r nm:ByteArray) (d:Int) (sub:List Ex) (hs:sub.length≤3) (ho:∀ y ∈ sub,OkX n y) (cs:List Value) (w:World) (h:ExAt (n+1) w cs (Ex.mk 8 r nm d sub)) (hz:(rexT (n+1) (Ex.mk 8 r nm d sub)).length≤2999000) :
  Calls Tryz.prog 36 #[.agg cs.toArray] w (RxP w (rexT (n+1) (Ex.mk 8 r nm d sub))):=by
 have hpt:rexT (n+1) (Ex.mk 8 r nm d sub)=[109,105,110] ++ ([40] ++ (commas (sub.map (rexT n)) ++ [41])):=by rw [rexT];simp [Ex.kind,Ex.sub,wdL]
 rw [hpt] at hz ⊢
 obtain ⟨a,len,cap,rfl,hlen,hsub⟩:=h
 have hlen2:sub.length=len:=hlen
 show Calls Tryz.prog 36 #[.agg #[.int .u8 8,.string r,.string nm,.int .i64 d,.slice a len cap]] w _
 have hB:=own_below w (.cells #[.int .u8 8,.string r,.string nm,.int .i64 d,.slice a len cap] 25)
 have hcz:(commas (sub.map (rexT n))).length≤2999000:=by simp only [List.length_append] at hz;omega
 have hc:=rlist_of ih sub a len cap (w.alloc (.cells #[.int .u8 8,.string r,.string nm,.int .i64 d,.slice a len cap] 25)) hlen2 (by omega) ho hcz (by
  rcases hsub with h0 | ⟨g,o,ha,hg,hel⟩
  ·exact .inl h0
  ·exact .inr ⟨g,o,ha,Nat.lt_of_lt_of_le hg hB.size,fun i hi => by
    obtain ⟨cs',h1,h2⟩:=hel i hi
    exact ⟨cs',fun j hj => ((bcell hB).1 _ _ hg).trans (h1 j hj),ExAt.below hB h2⟩⟩)
 unfold RxP at hc
 obtain ⟨t,ht⟩:∃ t:ByteArray,t=⟨([40] ++ (commas (sub.map (rexT n)) ++ [41])).toArray⟩:=⟨_,rfl⟩
 have htz:t.data.toList=[40] ++ (commas (sub.map (rexT n)) ++ [41]):=by rw [ht]
 have hts:t.size≤3000000:=by
  have:=ba_size htz
  simp only [List.length_append,List.length_cons,List.length_nil] at this;omega
 rw [← ht] at hc
 have HT:Hid (ByteArray.mk #[109,105,110] ++ t=⟨([109,105,110] ++ ([40] ++ (commas (sub.map (rexT n)) ++ [41]))).toArray⟩):=ba_eq (by simp [htz])
 have HC:=Lib.hid hc
 have HBB:=Lib.hid hB
 clear hpt hz hlen hsub hB hcz hc ht htz ho
 go_enter Tryz.func36,Tryz.ntmps36
 go_wp2_with fail
 refine HC.out.mono ?_
 rintro e w1 ⟨rfl,hb⟩
 have HB:=Lib.hid (HBB.out.trans (hb.mono HBB.out.size))
 clear hb
 go_wp2_with fail
 go_ret
 exact ⟨by rw [HT.out];rfl,HB.out⟩
set_option maxHeartbeats 2000000 in
set_option maxRecDepth 100000 in
theorem rexpr_9 {n:Nat} (ih:RexC n) (r nm:ByteArray) (d:Int) (sub:List Ex) (hs:sub.length≤3) (ho:∀ y ∈ sub,OkX n y) (cs:List Value) (w:World) (h:ExAt (n+1) w cs (Ex.mk 9 r nm d sub)) (hz:(rexT (n+1) (Ex.mk 9 r nm d sub)).length≤2999000) :
  Calls Tryz.prog 36 #[.agg cs.toArray] w (RxP w (rexT (n+1) (Ex.mk 9 r nm d sub))):=by
 have hpt:rexT (n+1) (Ex.mk 9 r nm d sub)=[99,97,115,101] ++ ([40] ++ (commas (sub.map (rexT n)) ++ [41])):=by rw [rexT];simp [Ex.kind,Ex.sub,wdL]
 rw [hpt] at hz ⊢
 obtain ⟨a,len,cap,rfl,hlen,hsub⟩:=h
 have hlen2:sub.length=len:=hlen
 show Calls Tryz.prog 36 #[.agg #[.int .u8 9,.string r,.string nm,.int .i64 d,.slice a len cap]] w _
 have hB:=own_below w (.cells #[.int .u8 9,.string r,.string nm,.int .i64 d,.slice a len cap] 25)
 have hcz:(commas (sub.map (rexT n))).length≤2999000:=by simp only [List.length_append] at hz;omega
 have hc:=rlist_of ih sub a len cap (w.alloc (.cells #[.int .u8 9,.string r,.string nm,.int .i64 d,.slice a len cap] 25)) hlen2 (by omega) ho hcz (by
  rcases hsub with h0 | ⟨g,o,ha,hg,hel⟩
  ·exact .inl h0
  ·exact .inr ⟨g,o,ha,Nat.lt_of_lt_of_le hg hB.size,fun i hi => by
    obtain ⟨cs',h1,h2⟩:=hel i hi
    exact ⟨cs',fun j hj => ((bcell hB).1 _ _ hg).trans (h1 j hj),ExAt.below hB h2⟩⟩)
 unfold RxP at hc
 obtain ⟨t,ht⟩:∃ t:ByteArray,t=⟨([40] ++ (commas (sub.map (rexT n)) ++ [41])).toArray⟩:=⟨_,rfl⟩
 have htz:t.data.toList=[40] ++ (commas (sub.map (rexT n)) ++ [41]):=by rw [ht]
 have hts:t.size≤3000000:=by
  have:=ba_size htz
  simp only [List.length_append,List.length_cons,List.length_nil] at this;omega
 rw [← ht] at hc
 have HT:Hid (ByteArray.mk #[99,97,115,101] ++ t=⟨([99,97,115,101] ++ ([40] ++ (commas (sub.map (rexT n)) ++ [41]))).toArray⟩):=ba_eq (by simp [htz])
 have HC:=Lib.hid hc
 have HBB:=Lib.hid hB
 clear hpt hz hlen hsub hB hcz hc ht htz ho
 go_enter Tryz.func36,Tryz.ntmps36
 go_wp2_with fail
 refine HC.out.mono ?_
 rintro e w1 ⟨rfl,hb⟩
 have HB:=Lib.hid (HBB.out.trans (hb.mono HBB.out.size))
 clear hb
 go_wp2_with fail
 go_ret
 exact ⟨by rw [HT.out];rfl,HB.out⟩
set_option maxHeartbeats 2000000 in
set_option maxRecDepth 100000 in
theorem rexpr_11 {n:Nat} (ih:RexC n) (r nm:ByteArray) (d:Int) (sub:List Ex) (hs:sub.length≤3) (ho:∀ y ∈ sub,OkX n y) (cs:List Value) (w:World) (h:ExAt (n+1) w cs (Ex.mk 11 r nm d sub)) (hz:(rexT (n+1) (Ex.mk 11 r nm d sub)).length≤2999000) :
  Calls Tryz.prog 36 #[.agg cs.toArray] w (RxP w (rexT (n+1) (Ex.mk 11 r nm d sub))):=by
 have hpt:rexT (n+1) (Ex.mk 11 r nm d sub)=[108,101,115,115] ++ ([40] ++ (commas (sub.map (rexT n)) ++ [41])):=by rw [rexT];simp [Ex.kind,Ex.sub,wdL]
 rw [hpt] at hz ⊢
 obtain ⟨a,len,cap,rfl,hlen,hsub⟩:=h
 have hlen2:sub.length=len:=hlen
 show Calls Tryz.prog 36 #[.agg #[.int .u8 11,.string r,.string nm,.int .i64 d,.slice a len cap]] w _
 have hB:=own_below w (.cells #[.int .u8 11,.string r,.string nm,.int .i64 d,.slice a len cap] 25)
 have hcz:(commas (sub.map (rexT n))).length≤2999000:=by simp only [List.length_append] at hz;omega
 have hc:=rlist_of ih sub a len cap (w.alloc (.cells #[.int .u8 11,.string r,.string nm,.int .i64 d,.slice a len cap] 25)) hlen2 (by omega) ho hcz (by
  rcases hsub with h0 | ⟨g,o,ha,hg,hel⟩
  ·exact .inl h0
  ·exact .inr ⟨g,o,ha,Nat.lt_of_lt_of_le hg hB.size,fun i hi => by
    obtain ⟨cs',h1,h2⟩:=hel i hi
    exact ⟨cs',fun j hj => ((bcell hB).1 _ _ hg).trans (h1 j hj),ExAt.below hB h2⟩⟩)
 unfold RxP at hc
 obtain ⟨t,ht⟩:∃ t:ByteArray,t=⟨([40] ++ (commas (sub.map (rexT n)) ++ [41])).toArray⟩:=⟨_,rfl⟩
 have htz:t.data.toList=[40] ++ (commas (sub.map (rexT n)) ++ [41]):=by rw [ht]
 have hts:t.size≤3000000:=by
  have:=ba_size htz
  simp only [List.length_append,List.length_cons,List.length_nil] at this;omega
 rw [← ht] at hc
 have HT:Hid (ByteArray.mk #[108,101,115,115] ++ t=⟨([108,101,115,115] ++ ([40] ++ (commas (sub.map (rexT n)) ++ [41]))).toArray⟩):=ba_eq (by simp [htz])
 have HC:=Lib.hid hc
 have HBB:=Lib.hid hB
 clear hpt hz hlen hsub hB hcz hc ht htz ho
 go_enter Tryz.func36,Tryz.ntmps36
 go_wp2_with fail
 refine HC.out.mono ?_
 rintro e w1 ⟨rfl,hb⟩
 have HB:=Lib.hid (HBB.out.trans (hb.mono HBB.out.size))
 clear hb
 go_wp2_with fail
 go_ret
 exact ⟨by rw [HT.out];rfl,HB.out⟩
set_option maxHeartbeats 2000000 in
set_option maxRecDepth 100000 in
theorem rexpr_12 {n:Nat} (ih:RexC n) (r nm:ByteArray) (d:Int) (sub:List Ex) (hs:sub.length≤3) (ho:∀ y ∈ sub,OkX n y) (cs:List Value) (w:World) (h:ExAt (n+1) w cs (Ex.mk 12 r nm d sub)) (hz:(rexT (n+1) (Ex.mk 12 r nm d sub)).length≤2999000) :
  Calls Tryz.prog 36 #[.agg cs.toArray] w (RxP w (rexT (n+1) (Ex.mk 12 r nm d sub))):=by
 have hpt:rexT (n+1) (Ex.mk 12 r nm d sub)=[101,113,117,97,108] ++ ([40] ++ (commas (sub.map (rexT n)) ++ [41])):=by rw [rexT];simp [Ex.kind,Ex.sub,wdL]
 rw [hpt] at hz ⊢
 obtain ⟨a,len,cap,rfl,hlen,hsub⟩:=h
 have hlen2:sub.length=len:=hlen
 show Calls Tryz.prog 36 #[.agg #[.int .u8 12,.string r,.string nm,.int .i64 d,.slice a len cap]] w _
 have hB:=own_below w (.cells #[.int .u8 12,.string r,.string nm,.int .i64 d,.slice a len cap] 25)
 have hcz:(commas (sub.map (rexT n))).length≤2999000:=by simp only [List.length_append] at hz;omega
 have hc:=rlist_of ih sub a len cap (w.alloc (.cells #[.int .u8 12,.string r,.string nm,.int .i64 d,.slice a len cap] 25)) hlen2 (by omega) ho hcz (by
  rcases hsub with h0 | ⟨g,o,ha,hg,hel⟩
  ·exact .inl h0
  ·exact .inr ⟨g,o,ha,Nat.lt_of_lt_of_le hg hB.size,fun i hi => by
    obtain ⟨cs',h1,h2⟩:=hel i hi
    exact ⟨cs',fun j hj => ((bcell hB).1 _ _ hg).trans (h1 j hj),ExAt.below hB h2⟩⟩)
 unfold RxP at hc
 obtain ⟨t,ht⟩:∃ t:ByteArray,t=⟨([40] ++ (commas (sub.map (rexT n)) ++ [41])).toArray⟩:=⟨_,rfl⟩
 have htz:t.data.toList=[40] ++ (commas (sub.map (rexT n)) ++ [41]):=by rw [ht]
 have hts:t.size≤3000000:=by
  have:=ba_size htz
  simp only [List.length_append,List.length_cons,List.length_nil] at this;omega
 rw [← ht] at hc
 have HT:Hid (ByteArray.mk #[101,113,117,97,108] ++ t=⟨([101,113,117,97,108] ++ ([40] ++ (commas (sub.map (rexT n)) ++ [41]))).toArray⟩):=ba_eq (by simp [htz])
 have HC:=Lib.hid hc
 have HBB:=Lib.hid hB
 clear hpt hz hlen hsub hB hcz hc ht htz ho
 go_enter Tryz.func36,Tryz.ntmps36
 go_wp2_with fail
 refine HC.out.mono ?_
 rintro e w1 ⟨rfl,hb⟩
 have HB:=Lib.hid (HBB.out.trans (hb.mono HBB.out.size))
 clear hb
 go_wp2_with fail
 go_ret
 exact ⟨by rw [HT.out];rfl,HB.out⟩
set_option maxHeartbeats 2000000 in
set_option maxRecDepth 100000 in
theorem rexpr_13 {n:Nat} (ih:RexC n) (r nm:ByteArray) (d:Int) (sub:List Ex) (hs:sub.length≤3) (ho:∀ y ∈ sub,OkX n y) (cs:List Value) (w:World) (h:ExAt (n+1) w cs (Ex.mk 13 r nm d sub)) (hz:(rexT (n+1) (Ex.mk 13 r nm d sub)).length≤2999000) :
  Calls Tryz.prog 36 #[.agg cs.toArray] w (RxP w (rexT (n+1) (Ex.mk 13 r nm d sub))):=by
 have hpt:rexT (n+1) (Ex.mk 13 r nm d sub)=[97,110,100] ++ ([40] ++ (commas (sub.map (rexT n)) ++ [41])):=by rw [rexT];simp [Ex.kind,Ex.sub,wdL]
 rw [hpt] at hz ⊢
 obtain ⟨a,len,cap,rfl,hlen,hsub⟩:=h
 have hlen2:sub.length=len:=hlen
 show Calls Tryz.prog 36 #[.agg #[.int .u8 13,.string r,.string nm,.int .i64 d,.slice a len cap]] w _
 have hB:=own_below w (.cells #[.int .u8 13,.string r,.string nm,.int .i64 d,.slice a len cap] 25)
 have hcz:(commas (sub.map (rexT n))).length≤2999000:=by simp only [List.length_append] at hz;omega
 have hc:=rlist_of ih sub a len cap (w.alloc (.cells #[.int .u8 13,.string r,.string nm,.int .i64 d,.slice a len cap] 25)) hlen2 (by omega) ho hcz (by
  rcases hsub with h0 | ⟨g,o,ha,hg,hel⟩
  ·exact .inl h0
  ·exact .inr ⟨g,o,ha,Nat.lt_of_lt_of_le hg hB.size,fun i hi => by
    obtain ⟨cs',h1,h2⟩:=hel i hi
    exact ⟨cs',fun j hj => ((bcell hB).1 _ _ hg).trans (h1 j hj),ExAt.below hB h2⟩⟩)
 unfold RxP at hc
 obtain ⟨t,ht⟩:∃ t:ByteArray,t=⟨([40] ++ (commas (sub.map (rexT n)) ++ [41])).toArray⟩:=⟨_,rfl⟩
 have htz:t.data.toList=[40] ++ (commas (sub.map (rexT n)) ++ [41]):=by rw [ht]
 have hts:t.size≤3000000:=by
  have:=ba_size htz
  simp only [List.length_append,List.length_cons,List.length_nil] at this;omega
 rw [← ht] at hc
 have HT:Hid (ByteArray.mk #[97,110,100] ++ t=⟨([97,110,100] ++ ([40] ++ (commas (sub.map (rexT n)) ++ [41]))).toArray⟩):=ba_eq (by simp [htz])
 have HC:=Lib.hid hc
 have HBB:=Lib.hid hB
 clear hpt hz hlen hsub hB hcz hc ht htz ho
 go_enter Tryz.func36,Tryz.ntmps36
 go_wp2_with fail
 refine HC.out.mono ?_
 rintro e w1 ⟨rfl,hb⟩
 have HB:=Lib.hid (HBB.out.trans (hb.mono HBB.out.size))
 clear hb
 go_wp2_with fail
 go_ret
 exact ⟨by rw [HT.out];rfl,HB.out⟩
set_option maxHeartbeats 2000000 in
set_option maxRecDepth 100000 in
theorem rexpr_14 {n:Nat} (ih:RexC n) (r nm:ByteArray) (d:Int) (sub:List Ex) (hs:sub.length≤3) (ho:∀ y ∈ sub,OkX n y) (cs:List Value) (w:World) (h:ExAt (n+1) w cs (Ex.mk 14 r nm d sub)) (hz:(rexT (n+1) (Ex.mk 14 r nm d sub)).length≤2999000) :
  Calls Tryz.prog 36 #[.agg cs.toArray] w (RxP w (rexT (n+1) (Ex.mk 14 r nm d sub))):=by
 have hpt:rexT (n+1) (Ex.mk 14 r nm d sub)=[111,114] ++ ([40] ++ (commas (sub.map (rexT n)) ++ [41])):=by rw [rexT];simp [Ex.kind,Ex.sub,wdL]
 rw [hpt] at hz ⊢
 obtain ⟨a,len,cap,rfl,hlen,hsub⟩:=h
 have hlen2:sub.length=len:=hlen
 show Calls Tryz.prog 36 #[.agg #[.int .u8 14,.string r,.string nm,.int .i64 d,.slice a len cap]] w _
 have hB:=own_below w (.cells #[.int .u8 14,.string r,.string nm,.int .i64 d,.slice a len cap] 25)
 have hcz:(commas (sub.map (rexT n))).length≤2999000:=by simp only [List.length_append] at hz;omega
 have hc:=rlist_of ih sub a len cap (w.alloc (.cells #[.int .u8 14,.string r,.string nm,.int .i64 d,.slice a len cap] 25)) hlen2 (by omega) ho hcz (by
  rcases hsub with h0 | ⟨g,o,ha,hg,hel⟩
  ·exact .inl h0
  ·exact .inr ⟨g,o,ha,Nat.lt_of_lt_of_le hg hB.size,fun i hi => by
    obtain ⟨cs',h1,h2⟩:=hel i hi
    exact ⟨cs',fun j hj => ((bcell hB).1 _ _ hg).trans (h1 j hj),ExAt.below hB h2⟩⟩)
 unfold RxP at hc
 obtain ⟨t,ht⟩:∃ t:ByteArray,t=⟨([40] ++ (commas (sub.map (rexT n)) ++ [41])).toArray⟩:=⟨_,rfl⟩
 have htz:t.data.toList=[40] ++ (commas (sub.map (rexT n)) ++ [41]):=by rw [ht]
 have hts:t.size≤3000000:=by
  have:=ba_size htz
  simp only [List.length_append,List.length_cons,List.length_nil] at this;omega
 rw [← ht] at hc
 have HT:Hid (ByteArray.mk #[111,114] ++ t=⟨([111,114] ++ ([40] ++ (commas (sub.map (rexT n)) ++ [41]))).toArray⟩):=ba_eq (by simp [htz])
 have HC:=Lib.hid hc
 have HBB:=Lib.hid hB
 clear hpt hz hlen hsub hB hcz hc ht htz ho
 go_enter Tryz.func36,Tryz.ntmps36
 go_wp2_with fail
 refine HC.out.mono ?_
 rintro e w1 ⟨rfl,hb⟩
 have HB:=Lib.hid (HBB.out.trans (hb.mono HBB.out.size))
 clear hb
 go_wp2_with fail
 go_ret
 exact ⟨by rw [HT.out];rfl,HB.out⟩
set_option maxHeartbeats 2000000 in
set_option maxRecDepth 100000 in
theorem rexpr_15 {n:Nat} (ih:RexC n) (r nm:ByteArray) (d:Int) (sub:List Ex) (hs:sub.length≤3) (ho:∀ y ∈ sub,OkX n y) (cs:List Value) (w:World) (h:ExAt (n+1) w cs (Ex.mk 15 r nm d sub)) (hz:(rexT (n+1) (Ex.mk 15 r nm d sub)).length≤2999000) :
  Calls Tryz.prog 36 #[.agg cs.toArray] w (RxP w (rexT (n+1) (Ex.mk 15 r nm d sub))):=by
 have hpt:rexT (n+1) (Ex.mk 15 r nm d sub)=[110,111,116] ++ ([40] ++ (commas (sub.map (rexT n)) ++ [41])):=by rw [rexT];simp [Ex.kind,Ex.sub,wdL]
 rw [hpt] at hz ⊢
 obtain ⟨a,len,cap,rfl,hlen,hsub⟩:=h
 have hlen2:sub.length=len:=hlen
 show Calls Tryz.prog 36 #[.agg #[.int .u8 15,.string r,.string nm,.int .i64 d,.slice a len cap]] w _
 have hB:=own_below w (.cells #[.int .u8 15,.string r,.string nm,.int .i64 d,.slice a len cap] 25)
 have hcz:(commas (sub.map (rexT n))).length≤2999000:=by simp only [List.length_append] at hz;omega
 have hc:=rlist_of ih sub a len cap (w.alloc (.cells #[.int .u8 15,.string r,.string nm,.int .i64 d,.slice a len cap] 25)) hlen2 (by omega) ho hcz (by
  rcases hsub with h0 | ⟨g,o,ha,hg,hel⟩
  ·exact .inl h0
  ·exact .inr ⟨g,o,ha,Nat.lt_of_lt_of_le hg hB.size,fun i hi => by
    obtain ⟨cs',h1,h2⟩:=hel i hi
    exact ⟨cs',fun j hj => ((bcell hB).1 _ _ hg).trans (h1 j hj),ExAt.below hB h2⟩⟩)
 unfold RxP at hc
 obtain ⟨t,ht⟩:∃ t:ByteArray,t=⟨([40] ++ (commas (sub.map (rexT n)) ++ [41])).toArray⟩:=⟨_,rfl⟩
 have htz:t.data.toList=[40] ++ (commas (sub.map (rexT n)) ++ [41]):=by rw [ht]
 have hts:t.size≤3000000:=by
  have:=ba_size htz
  simp only [List.length_append,List.length_cons,List.length_nil] at this;omega
 rw [← ht] at hc
 have HT:Hid (ByteArray.mk #[110,111,116] ++ t=⟨([110,111,116] ++ ([40] ++ (commas (sub.map (rexT n)) ++ [41]))).toArray⟩):=ba_eq (by simp [htz])
 have HC:=Lib.hid hc
 have HBB:=Lib.hid hB
 clear hpt hz hlen hsub hB hcz hc ht htz ho
 go_enter Tryz.func36,Tryz.ntmps36
 go_wp2_with fail
 refine HC.out.mono ?_
 rintro e w1 ⟨rfl,hb⟩
 have HB:=Lib.hid (HBB.out.trans (hb.mono HBB.out.size))
 clear hb
 go_wp2_with fail
 go_ret
 exact ⟨by rw [HT.out];rfl,HB.out⟩
set_option maxHeartbeats 2000000 in
set_option maxRecDepth 100000 in
theorem rexpr_4 {n:Nat} (ih:RexC n) (r nm:ByteArray) (d:Int) (x0 x1:Ex) (ho0:OkX n x0) (ho1:OkX n x1) (cs:List Value) (w:World) (h:ExAt (n+1) w cs (Ex.mk 4 r nm d [x0,x1])) (hz:(rexT (n+1) (Ex.mk 4 r nm d [x0,x1])).length≤2999000) :
  Calls Tryz.prog 36 #[.agg cs.toArray] w (RxP w (rexT (n+1) (Ex.mk 4 r nm d [x0,x1]))):=by
 have hpt:rexT (n+1) (Ex.mk 4 r nm d [x0,x1])=rexT n x0 ++ [32,43,32] ++ (parS (sumB x1) ⟨(rexT n x1).toArray⟩).data.toList:=by
  rw [rexT];cases hb:sumB x1 <;> simp [Ex.kind,opS,prt,Ex.sub,parS,parT,hb]
 rw [hpt] at hz ⊢
 obtain ⟨a,len,cap,rfl,hlen2,hsub⟩:=h
 obtain rfl:len=2:=hlen2.symm
 rcases hsub with h0 | ⟨g,o,rfl,hg,hel⟩
 ·omega
 show Calls Tryz.prog 36 #[.agg #[.int .u8 4,.string r,.string nm,.int .i64 d,.slice (some ⟨g,o,none⟩) 2 cap]] w _
 obtain ⟨p0,l0,c0,⟨e00,e01,e02,e03,e04⟩,hx0⟩:=ExAt.elem (k:=0) (x:=Ex.mk 4 r nm d [x0,x1]) hg (Below.refl _ w) (show 0 < 2 by decide) hel
 simp only [Nat.zero_mul,Nat.add_zero,Ex.sub,List.getElem_cons_zero] at e00 e01 e02 e03 e04 hx0
 obtain ⟨p1,l1,c1,⟨f0,f1,f2,f3,f4⟩,hx1⟩:=ExAt.elem (k:=1) (x:=Ex.mk 4 r nm d [x0,x1]) hg (Below.refl _ w) (show 1 < 2 by decide) hel
 simp only [Nat.one_mul,Ex.sub,List.getElem_cons_succ,List.getElem_cons_zero] at f0 f1 f2 f3 f4 hx1
 obtain ⟨t0,ht0⟩:∃ t:ByteArray,t=⟨(rexT n x0).toArray⟩:=⟨_,rfl⟩
 obtain ⟨t1,ht1⟩:∃ t:ByteArray,t=⟨(rexT n x1).toArray⟩:=⟨_,rfl⟩
 have hz0:t0.data.toList=rexT n x0:=by rw [ht0]
 have hz1:t1.data.toList=rexT n x1:=by rw [ht1]
 have hs0:=ba_size hz0
 have hs1:=ba_size hz1
 obtain ⟨W0,hW0⟩:∃ W0,W0=w.alloc (.cells #[.int .u8 4,.string r,.string nm,.int .i64 d,.slice (some ⟨g,o,none⟩) 2 cap] 25):=⟨_,rfl⟩
 have hB0:Below w.heap.size w W0:=by rw [hW0];exact own_below w _
 have hbx:W0.heap[w.heap.size]? = some (.cells #[.int .u8 4,.string r,.string nm,.int .i64 d,.slice (some ⟨g,o,none⟩) 2 cap] 25):=by rw [hW0];exact alloc_at _ _
 rw [← ht1,← hz0] at hz ⊢
 obtain ⟨q1,hq1⟩:∃ q,q=parS (sumB x1) t1:=⟨_,rfl⟩
 have pz:∀ (b:Bool) (t:ByteArray),t.size≤(parS b t).size:=fun b t => by
  unfold parS;split
  ·simp only [ByteArray.size_append];omega
  ·exact Nat.le_refl _
 have pz1:=pz (sumB x1) t1
 rw [← hq1] at hz pz1 ⊢
 have sz0:t0.data.toList.length=t0.size:=by simp
 have sz1:q1.data.toList.length=q1.size:=by simp
 simp only [List.length_append,List.length_cons,List.length_nil] at hz
 have hsz:t0.size+3+q1.size≤2999000:=by omega
 have n1:¬ 9223372036854775807 < t0.size+3:=by omega
 have n2:¬ 9223372036854775807 < t0.size+3+q1.size:=by omega
 have HX1:Hid (∀ W,Below W0.heap.size W0 W→Calls Tryz.prog 36 #[.agg #[.int .u8 x1.kind,.string x1.rat,.string x1.name,.int .i64 x1.date,.slice p1 l1 c1]] W (fun e w' => e = .returned (.string t1)∧Below W.heap.size W w')):=fun W hW => by
  have:=ih x1 _ W (ExAt.below (hB0.trans (hW.mono hB0.size)) hx1) ho1 (by omega)
  unfold RxP at this;rwa [← ht1] at this
 have HX0:Hid (∀ W,Below W0.heap.size W0 W→Calls Tryz.prog 36 #[.agg #[.int .u8 x0.kind,.string x0.rat,.string x0.name,.int .i64 x0.date,.slice p0 l0 c0]] W (fun e w' => e = .returned (.string t0)∧Below W.heap.size W w')):=fun W hW => by
  have:=ih x0 _ W (ExAt.below (hB0.trans (hW.mono hB0.size)) hx0) ho0 (by omega)
  unfold RxP at this;rwa [← ht0] at this
 have HM1:Hid (∀ W,Calls Tryz.prog 68 #[.agg #[.int .u8 x1.kind,.string x1.rat,.string x1.name,.int .i64 x1.date,.slice p1 l1 c1]] W (BelB W (sumB x1))):=fun W => rsum_any _ _ _ _ _ _ _ W
 have HM0:Hid (∀ W,Calls Tryz.prog 68 #[.agg #[.int .u8 x0.kind,.string x0.rat,.string x0.name,.int .i64 x0.date,.slice p0 l0 c0]] W (BelB W (sumB x0))):=fun W => rsum_any _ _ _ _ _ _ _ W
 have HP1:Hid (∀ W,Below W0.heap.size W0 W→Calls Tryz.prog 67 #[.agg #[.int .u8 x1.kind,.string x1.rat,.string x1.name,.int .i64 x1.date,.slice p1 l1 c1],.bool (sumB x1)] W (fun e w' => e = .returned (.string q1)∧Below W.heap.size W w')):=fun W hW => by
  rw [hq1]
  exact rpart_of _ _ _ _ _ _ _ t1 _ W (by omega) (Lib.hid fun W' hW' => HX1.out W' (hW.trans (hW'.mono hW.size)))
 have SB:∀ W,Below W0.heap.size W0 W→W.cell? ⟨w.heap.size,4,none⟩=some (.slice (some ⟨g,o,none⟩) 2 cap)∧W.cell? ⟨g,o,none⟩=some (.int .u8 x0.kind)∧W.cell? ⟨g,o+1,none⟩=some (.string x0.rat)∧W.cell? ⟨g,o+2,none⟩=some (.string x0.name)∧W.cell? ⟨g,o+3,none⟩=some (.int .i64 x0.date)∧W.cell? ⟨g,o+4,none⟩=some (.slice p0 l0 c0) ∧
   W.cell? ⟨g,o+5,none⟩=some (.int .u8 x1.kind)∧W.cell? ⟨g,o+5+1,none⟩=some (.string x1.rat)∧W.cell? ⟨g,o+5+2,none⟩=some (.string x1.name)∧W.cell? ⟨g,o+5+3,none⟩=some (.int .i64 x1.date)∧W.cell? ⟨g,o+5+4,none⟩=some (.slice p1 l1 c1):=fun W hW =>
  have hb:Below w.heap.size w W:=hB0.trans (hW.mono hB0.size)
  have e:∀ o',W.cell? ⟨g,o',none⟩=w.cell? ⟨g,o',none⟩:=fun o' => (bcell hb).1 _ _ hg
  ⟨(exCells ((hW.block _ (Array.getElem?_eq_some_iff.1 hbx).1).trans hbx)).2.2.2.2,(e _).trans e00,(e _).trans e01,(e _).trans e02,(e _).trans e03,(e _).trans e04,(e _).trans f0,(e _).trans f1,(e _).trans f2,(e _).trans f3,(e _).trans f4⟩
 have HT:Hid (t0 ++ ByteArray.mk #[32,43,32] ++ q1=⟨(t0.data.toList ++ [32,43,32] ++ q1.data.toList).toArray⟩):=ba_eq (by simp)
 obtain ⟨b1,hb1⟩:∃ b,b=sumB x1:=⟨_,rfl⟩
 rw [← hb1] at HM1 HP1
 obtain ⟨z0,z1,z2,z3,z4,z5,z6,z7,z8,z9,za⟩:=SB W0 (Below.refl _ _)
 have HSB:=Lib.hid SB
 have HB0:=Lib.hid hB0
 have HCW:Hid (Below W0.heap.size W0 W0):=Below.refl _ W0
 have HC:Hid (Below W0.heap.size W0 W0.drew):=(Below.refl _ W0).drew
 have HW:=Lib.hid hW0
 have hm1s:0≤q1.size:=Nat.zero_le _
 clear SB hB0 hbx hel hx0 hx1 ho0 ho1 hz0 hz1 ht0 ht1 hs0 hs1 e00 e01 e02 e03 e04 f0 f1 f2 f3 f4 hpt hz hW0 hlen2 ih pz sz0 sz1 hq1 hm1s hb1
 go_enter Tryz.func36,Tryz.ntmps36
 go_wp2_with fail
 rw [← HW.out]
 clear HW
 go_wp2_with fail
 go_region_held3 (fun W => W.cell? ⟨w.heap.size,4,none⟩=some (.slice (some ⟨g,o,none⟩) 2 cap)∧W.cell? ⟨g,o,none⟩=some (.int .u8 x0.kind)∧W.cell? ⟨g,o+1,none⟩=some (.string x0.rat)∧W.cell? ⟨g,o+2,none⟩=some (.string x0.name)∧W.cell? ⟨g,o+3,none⟩=some (.int .i64 x0.date)∧W.cell? ⟨g,o+4,none⟩=some (.slice p0 l0 c0) ∧
   W.cell? ⟨g,o+5,none⟩=some (.int .u8 x1.kind)∧W.cell? ⟨g,o+5+1,none⟩=some (.string x1.rat)∧W.cell? ⟨g,o+5+2,none⟩=some (.string x1.name)∧W.cell? ⟨g,o+5+3,none⟩=some (.int .i64 x1.date)∧W.cell? ⟨g,o+5+4,none⟩=some (.slice p1 l1 c1))
  ((first | with_reducible exact HSB.out _ HC.out | with_reducible exact HSB.out _ HCW.out))
  ((first
   | (go_at_call 36;refine (HX0.out _ HC.out).mono ?_;rintro e u ⟨rfl,hb⟩;have HC:=Lib.hid (HC.out.trans (hb.mono HC.out.size));clear hb)
   | (go_at_call 68;(first | (with_reducible refine (HM0.out _).mono ?_) | (with_reducible refine (HM1.out _).mono ?_));rintro e u ⟨rfl,hb⟩;have HC:=Lib.hid (HC.out.trans (hb.mono HC.out.size));clear hb)
   | (go_at_call 67;(first | (with_reducible refine (HP1.out _ HC.out).mono ?_) | (with_reducible refine (HP0.out _ HC.out).mono ?_));rintro e u ⟨rfl,hb⟩;have HC:=Lib.hid (HC.out.trans (hb.mono HC.out.size));clear hb)))
 go_wp2_with fail
 go_ret
 exact ⟨by rw [HT.out];rfl,HB0.out.trans (HC.out.mono HB0.out.size)⟩
set_option maxHeartbeats 2000000 in
set_option maxRecDepth 100000 in
theorem rexpr_5 {n:Nat} (ih:RexC n) (r nm:ByteArray) (d:Int) (x0 x1:Ex) (ho0:OkX n x0) (ho1:OkX n x1) (cs:List Value) (w:World) (h:ExAt (n+1) w cs (Ex.mk 5 r nm d [x0,x1])) (hz:(rexT (n+1) (Ex.mk 5 r nm d [x0,x1])).length≤2999000) :
  Calls Tryz.prog 36 #[.agg cs.toArray] w (RxP w (rexT (n+1) (Ex.mk 5 r nm d [x0,x1]))):=by
 have hpt:rexT (n+1) (Ex.mk 5 r nm d [x0,x1])=rexT n x0 ++ [32,45,32] ++ (parS (sumB x1) ⟨(rexT n x1).toArray⟩).data.toList:=by
  rw [rexT];cases hb:sumB x1 <;> simp [Ex.kind,opS,prt,Ex.sub,parS,parT,hb]
 rw [hpt] at hz ⊢
 obtain ⟨a,len,cap,rfl,hlen2,hsub⟩:=h
 obtain rfl:len=2:=hlen2.symm
 rcases hsub with h0 | ⟨g,o,rfl,hg,hel⟩
 ·omega
 show Calls Tryz.prog 36 #[.agg #[.int .u8 5,.string r,.string nm,.int .i64 d,.slice (some ⟨g,o,none⟩) 2 cap]] w _
 obtain ⟨p0,l0,c0,⟨e00,e01,e02,e03,e04⟩,hx0⟩:=ExAt.elem (k:=0) (x:=Ex.mk 5 r nm d [x0,x1]) hg (Below.refl _ w) (show 0 < 2 by decide) hel
 simp only [Nat.zero_mul,Nat.add_zero,Ex.sub,List.getElem_cons_zero] at e00 e01 e02 e03 e04 hx0
 obtain ⟨p1,l1,c1,⟨f0,f1,f2,f3,f4⟩,hx1⟩:=ExAt.elem (k:=1) (x:=Ex.mk 5 r nm d [x0,x1]) hg (Below.refl _ w) (show 1 < 2 by decide) hel
 simp only [Nat.one_mul,Ex.sub,List.getElem_cons_succ,List.getElem_cons_zero] at f0 f1 f2 f3 f4 hx1
 obtain ⟨t0,ht0⟩:∃ t:ByteArray,t=⟨(rexT n x0).toArray⟩:=⟨_,rfl⟩
 obtain ⟨t1,ht1⟩:∃ t:ByteArray,t=⟨(rexT n x1).toArray⟩:=⟨_,rfl⟩
 have hz0:t0.data.toList=rexT n x0:=by rw [ht0]
 have hz1:t1.data.toList=rexT n x1:=by rw [ht1]
 have hs0:=ba_size hz0
 have hs1:=ba_size hz1
 obtain ⟨W0,hW0⟩:∃ W0,W0=w.alloc (.cells #[.int .u8 5,.string r,.string nm,.int .i64 d,.slice (some ⟨g,o,none⟩) 2 cap] 25):=⟨_,rfl⟩
 have hB0:Below w.heap.size w W0:=by rw [hW0];exact own_below w _
 have hbx:W0.heap[w.heap.size]? = some (.cells #[.int .u8 5,.string r,.string nm,.int .i64 d,.slice (some ⟨g,o,none⟩) 2 cap] 25):=by rw [hW0];exact alloc_at _ _
 rw [← ht1,← hz0] at hz ⊢
 obtain ⟨q1,hq1⟩:∃ q,q=parS (sumB x1) t1:=⟨_,rfl⟩
 have pz:∀ (b:Bool) (t:ByteArray),t.size≤(parS b t).size:=fun b t => by
  unfold parS;split
  ·simp only [ByteArray.size_append];omega
  ·exact Nat.le_refl _
 have pz1:=pz (sumB x1) t1
 rw [← hq1] at hz pz1 ⊢
 have sz0:t0.data.toList.length=t0.size:=by simp
 have sz1:q1.data.toList.length=q1.size:=by simp
 simp only [List.length_append,List.length_cons,List.length_nil] at hz
 have hsz:t0.size+3+q1.size≤2999000:=by omega
 have n1:¬ 9223372036854775807 < t0.size+3:=by omega
 have n2:¬ 9223372036854775807 < t0.size+3+q1.size:=by omega
 have HX1:Hid (∀ W,Below W0.heap.size W0 W→Calls Tryz.prog 36 #[.agg #[.int .u8 x1.kind,.string x1.rat,.string x1.name,.int .i64 x1.date,.slice p1 l1 c1]] W (fun e w' => e = .returned (.string t1)∧Below W.heap.size W w')):=fun W hW => by
  have:=ih x1 _ W (ExAt.below (hB0.trans (hW.mono hB0.size)) hx1) ho1 (by omega)
  unfold RxP at this;rwa [← ht1] at this
 have HX0:Hid (∀ W,Below W0.heap.size W0 W→Calls Tryz.prog 36 #[.agg #[.int .u8 x0.kind,.string x0.rat,.string x0.name,.int .i64 x0.date,.slice p0 l0 c0]] W (fun e w' => e = .returned (.string t0)∧Below W.heap.size W w')):=fun W hW => by
  have:=ih x0 _ W (ExAt.below (hB0.trans (hW.mono hB0.size)) hx0) ho0 (by omega)
  unfold RxP at this;rwa [← ht0] at this
 have HM1:Hid (∀ W,Calls Tryz.prog 68 #[.agg #[.int .u8 x1.kind,.string x1.rat,.string x1.name,.int .i64 x1.date,.slice p1 l1 c1]] W (BelB W (sumB x1))):=fun W => rsum_any _ _ _ _ _ _ _ W
 have HM0:Hid (∀ W,Calls Tryz.prog 68 #[.agg #[.int .u8 x0.kind,.string x0.rat,.string x0.name,.int .i64 x0.date,.slice p0 l0 c0]] W (BelB W (sumB x0))):=fun W => rsum_any _ _ _ _ _ _ _ W
 have HP1:Hid (∀ W,Below W0.heap.size W0 W→Calls Tryz.prog 67 #[.agg #[.int .u8 x1.kind,.string x1.rat,.string x1.name,.int .i64 x1.date,.slice p1 l1 c1],.bool (sumB x1)] W (fun e w' => e = .returned (.string q1)∧Below W.heap.size W w')):=fun W hW => by
  rw [hq1]
  exact rpart_of _ _ _ _ _ _ _ t1 _ W (by omega) (Lib.hid fun W' hW' => HX1.out W' (hW.trans (hW'.mono hW.size)))
 have SB:∀ W,Below W0.heap.size W0 W→W.cell? ⟨w.heap.size,4,none⟩=some (.slice (some ⟨g,o,none⟩) 2 cap)∧W.cell? ⟨g,o,none⟩=some (.int .u8 x0.kind)∧W.cell? ⟨g,o+1,none⟩=some (.string x0.rat)∧W.cell? ⟨g,o+2,none⟩=some (.string x0.name)∧W.cell? ⟨g,o+3,none⟩=some (.int .i64 x0.date)∧W.cell? ⟨g,o+4,none⟩=some (.slice p0 l0 c0) ∧
   W.cell? ⟨g,o+5,none⟩=some (.int .u8 x1.kind)∧W.cell? ⟨g,o+5+1,none⟩=some (.string x1.rat)∧W.cell? ⟨g,o+5+2,none⟩=some (.string x1.name)∧W.cell? ⟨g,o+5+3,none⟩=some (.int .i64 x1.date)∧W.cell? ⟨g,o+5+4,none⟩=some (.slice p1 l1 c1):=fun W hW =>
  have hb:Below w.heap.size w W:=hB0.trans (hW.mono hB0.size)
  have e:∀ o',W.cell? ⟨g,o',none⟩=w.cell? ⟨g,o',none⟩:=fun o' => (bcell hb).1 _ _ hg
  ⟨(exCells ((hW.block _ (Array.getElem?_eq_some_iff.1 hbx).1).trans hbx)).2.2.2.2,(e _).trans e00,(e _).trans e01,(e _).trans e02,(e _).trans e03,(e _).trans e04,(e _).trans f0,(e _).trans f1,(e _).trans f2,(e _).trans f3,(e _).trans f4⟩
 have HT:Hid (t0 ++ ByteArray.mk #[32,45,32] ++ q1=⟨(t0.data.toList ++ [32,45,32] ++ q1.data.toList).toArray⟩):=ba_eq (by simp)
 obtain ⟨b1,hb1⟩:∃ b,b=sumB x1:=⟨_,rfl⟩
 rw [← hb1] at HM1 HP1
 obtain ⟨z0,z1,z2,z3,z4,z5,z6,z7,z8,z9,za⟩:=SB W0 (Below.refl _ _)
 have HSB:=Lib.hid SB
 have HB0:=Lib.hid hB0
 have HCW:Hid (Below W0.heap.size W0 W0):=Below.refl _ W0
 have HC:Hid (Below W0.heap.size W0 W0.drew):=(Below.refl _ W0).drew
 have HW:=Lib.hid hW0
 have hm1s:0≤q1.size:=Nat.zero_le _
 clear SB hB0 hbx hel hx0 hx1 ho0 ho1 hz0 hz1 ht0 ht1 hs0 hs1 e00 e01 e02 e03 e04 f0 f1 f2 f3 f4 hpt hz hW0 hlen2 ih pz sz0 sz1 hq1 hm1s hb1
 go_enter Tryz.func36,Tryz.ntmps36
 go_wp2_with fail
 rw [← HW.out]
 clear HW
 go_wp2_with fail
 go_region_held3 (fun W => W.cell? ⟨w.heap.size,4,none⟩=some (.slice (some ⟨g,o,none⟩) 2 cap)∧W.cell? ⟨g,o,none⟩=some (.int .u8 x0.kind)∧W.cell? ⟨g,o+1,none⟩=some (.string x0.rat)∧W.cell? ⟨g,o+2,none⟩=some (.string x0.name)∧W.cell? ⟨g,o+3,none⟩=some (.int .i64 x0.date)∧W.cell? ⟨g,o+4,none⟩=some (.slice p0 l0 c0) ∧
   W.cell? ⟨g,o+5,none⟩=some (.int .u8 x1.kind)∧W.cell? ⟨g,o+5+1,none⟩=some (.string x1.rat)∧W.cell? ⟨g,o+5+2,none⟩=some (.string x1.name)∧W.cell? ⟨g,o+5+3,none⟩=some (.int .i64 x1.date)∧W.cell? ⟨g,o+5+4,none⟩=some (.slice p1 l1 c1))
  ((first | with_reducible exact HSB.out _ HC.out | with_reducible exact HSB.out _ HCW.out))
  ((first
   | (go_at_call 36;refine (HX0.out _ HC.out).mono ?_;rintro e u ⟨rfl,hb⟩;have HC:=Lib.hid (HC.out.trans (hb.mono HC.out.size));clear hb)
   | (go_at_call 68;(first | (with_reducible refine (HM0.out _).mono ?_) | (with_reducible refine (HM1.out _).mono ?_));rintro e u ⟨rfl,hb⟩;have HC:=Lib.hid (HC.out.trans (hb.mono HC.out.size));clear hb)
   | (go_at_call 67;(first | (with_reducible refine (HP1.out _ HC.out).mono ?_) | (with_reducible refine (HP0.out _ HC.out).mono ?_));rintro e u ⟨rfl,hb⟩;have HC:=Lib.hid (HC.out.trans (hb.mono HC.out.size));clear hb)))
 go_wp2_with fail
 go_ret
 exact ⟨by rw [HT.out];rfl,HB0.out.trans (HC.out.mono HB0.out.size)⟩
set_option maxHeartbeats 2000000 in
set_option maxRecDepth 100000 in
theorem rexpr_6_0 {n:Nat} (ih:RexC n) (r nm:ByteArray) (d:Int) (x0 x1:Ex) (ho0:OkX n x0) (ho1:OkX n x1) (hsm:sumB x1=false) (h6:(x1.kind == 6)=false) (cs:List Value) (w:World) (h:ExAt (n+1) w cs (Ex.mk 6 r nm d [x0,x1])) (hz:(rexT (n+1) (Ex.mk 6 r nm d [x0,x1])).length≤2999000) :
  Calls Tryz.prog 36 #[.agg cs.toArray] w (RxP w (rexT (n+1) (Ex.mk 6 r nm d [x0,x1]))):=by
 have hpt:rexT (n+1) (Ex.mk 6 r nm d [x0,x1])=(parS (sumB x0) ⟨(rexT n x0).toArray⟩).data.toList ++ [32,42,32] ++ (parS false ⟨(rexT n x1).toArray⟩).data.toList:=by
  rw [rexT,if_neg (show ¬ ((Ex.mk 6 r nm d [x0,x1]).kind=1 ∨ (Ex.mk 6 r nm d [x0,x1]).kind=2 ∨ (Ex.mk 6 r nm d [x0,x1]).kind=3) by simp [Ex.kind]),if_neg (show ¬ ((Ex.mk 6 r nm d [x0,x1]).kind=4 ∨ (Ex.mk 6 r nm d [x0,x1]).kind=5) by simp [Ex.kind]),if_pos (show (Ex.mk 6 r nm d [x0,x1]).kind=6 from rfl)]
  have e:parT (sumB (prt (Ex.mk 6 r nm d [x0,x1]) 1) || (prt (Ex.mk 6 r nm d [x0,x1]) 1).kind == 6) (rexT n (prt (Ex.mk 6 r nm d [x0,x1]) 1))=(parS false ⟨(rexT n x1).toArray⟩).data.toList:=by
   show parT (sumB x1 || x1.kind == 6) (rexT n x1)=_
   rw [hsm,h6];simp [parT,parS]
  rw [e]
  show parT (sumB x0) (rexT n x0) ++ _ ++ _=_
  cases hb:sumB x0 <;> simp [Ex.kind,opS,parS,parT]
 rw [hpt] at hz ⊢
 obtain ⟨a,len,cap,rfl,hlen2,hsub⟩:=h
 obtain rfl:len=2:=hlen2.symm
 rcases hsub with h0 | ⟨g,o,rfl,hg,hel⟩
 ·omega
 show Calls Tryz.prog 36 #[.agg #[.int .u8 6,.string r,.string nm,.int .i64 d,.slice (some ⟨g,o,none⟩) 2 cap]] w _
 obtain ⟨p0,l0,c0,⟨e00,e01,e02,e03,e04⟩,hx0⟩:=ExAt.elem (k:=0) (x:=Ex.mk 6 r nm d [x0,x1]) hg (Below.refl _ w) (show 0 < 2 by decide) hel
 simp only [Nat.zero_mul,Nat.add_zero,Ex.sub,List.getElem_cons_zero] at e00 e01 e02 e03 e04 hx0
 obtain ⟨p1,l1,c1,⟨f0,f1,f2,f3,f4⟩,hx1⟩:=ExAt.elem (k:=1) (x:=Ex.mk 6 r nm d [x0,x1]) hg (Below.refl _ w) (show 1 < 2 by decide) hel
 simp only [Nat.one_mul,Ex.sub,List.getElem_cons_succ,List.getElem_cons_zero] at f0 f1 f2 f3 f4 hx1
 obtain ⟨t0,ht0⟩:∃ t:ByteArray,t=⟨(rexT n x0).toArray⟩:=⟨_,rfl⟩
 obtain ⟨t1,ht1⟩:∃ t:ByteArray,t=⟨(rexT n x1).toArray⟩:=⟨_,rfl⟩
 have hz0:t0.data.toList=rexT n x0:=by rw [ht0]
 have hz1:t1.data.toList=rexT n x1:=by rw [ht1]
 have hs0:=ba_size hz0
 have hs1:=ba_size hz1
 obtain ⟨W0,hW0⟩:∃ W0,W0=w.alloc (.cells #[.int .u8 6,.string r,.string nm,.int .i64 d,.slice (some ⟨g,o,none⟩) 2 cap] 25):=⟨_,rfl⟩
 have hB0:Below w.heap.size w W0:=by rw [hW0];exact own_below w _
 have hbx:W0.heap[w.heap.size]? = some (.cells #[.int .u8 6,.string r,.string nm,.int .i64 d,.slice (some ⟨g,o,none⟩) 2 cap] 25):=by rw [hW0];exact alloc_at _ _
 rw [← ht0,← ht1] at hz ⊢
 obtain ⟨q1,hq1⟩:∃ q,q=parS false t1:=⟨_,rfl⟩
 obtain ⟨q0,hq0⟩:∃ q,q=parS (sumB x0) t0:=⟨_,rfl⟩
 have pz:∀ (b:Bool) (t:ByteArray),t.size≤(parS b t).size:=fun b t => by
  unfold parS;split
  ·simp only [ByteArray.size_append];omega
  ·exact Nat.le_refl _
 have pz1:=pz false t1
 rw [← hq1] at hz pz1 ⊢
 have pz0:=pz (sumB x0) t0
 rw [← hq0] at hz pz0 ⊢
 have sz0:q0.data.toList.length=q0.size:=by simp
 have sz1:q1.data.toList.length=q1.size:=by simp
 simp only [List.length_append,List.length_cons,List.length_nil] at hz
 have hsz:q0.size+3+q1.size≤2999000:=by omega
 have n1:¬ 9223372036854775807 < q0.size+3:=by omega
 have n2:¬ 9223372036854775807 < q0.size+3+q1.size:=by omega
 have HX1:Hid (∀ W,Below W0.heap.size W0 W→Calls Tryz.prog 36 #[.agg #[.int .u8 x1.kind,.string x1.rat,.string x1.name,.int .i64 x1.date,.slice p1 l1 c1]] W (fun e w' => e = .returned (.string t1)∧Below W.heap.size W w')):=fun W hW => by
  have:=ih x1 _ W (ExAt.below (hB0.trans (hW.mono hB0.size)) hx1) ho1 (by omega)
  unfold RxP at this;rwa [← ht1] at this
 have HX0:Hid (∀ W,Below W0.heap.size W0 W→Calls Tryz.prog 36 #[.agg #[.int .u8 x0.kind,.string x0.rat,.string x0.name,.int .i64 x0.date,.slice p0 l0 c0]] W (fun e w' => e = .returned (.string t0)∧Below W.heap.size W w')):=fun W hW => by
  have:=ih x0 _ W (ExAt.below (hB0.trans (hW.mono hB0.size)) hx0) ho0 (by omega)
  unfold RxP at this;rwa [← ht0] at this
 have HM1:Hid (∀ W,Calls Tryz.prog 68 #[.agg #[.int .u8 x1.kind,.string x1.rat,.string x1.name,.int .i64 x1.date,.slice p1 l1 c1]] W (BelB W (sumB x1))):=fun W => rsum_any _ _ _ _ _ _ _ W
 have HM0:Hid (∀ W,Calls Tryz.prog 68 #[.agg #[.int .u8 x0.kind,.string x0.rat,.string x0.name,.int .i64 x0.date,.slice p0 l0 c0]] W (BelB W (sumB x0))):=fun W => rsum_any _ _ _ _ _ _ _ W
 have HP1:Hid (∀ W,Below W0.heap.size W0 W→Calls Tryz.prog 67 #[.agg #[.int .u8 x1.kind,.string x1.rat,.string x1.name,.int .i64 x1.date,.slice p1 l1 c1],.bool false] W (fun e w' => e = .returned (.string q1)∧Below W.heap.size W w')):=fun W hW => by
  rw [hq1]
  exact rpart_of _ _ _ _ _ _ _ t1 _ W (by omega) (Lib.hid fun W' hW' => HX1.out W' (hW.trans (hW'.mono hW.size)))
 have HP0:Hid (∀ W,Below W0.heap.size W0 W→Calls Tryz.prog 67 #[.agg #[.int .u8 x0.kind,.string x0.rat,.string x0.name,.int .i64 x0.date,.slice p0 l0 c0],.bool (sumB x0)] W (fun e w' => e = .returned (.string q0)∧Below W.heap.size W w')):=fun W hW => by
  rw [hq0]
  exact rpart_of _ _ _ _ _ _ _ t0 _ W (by omega) (Lib.hid fun W' hW' => HX0.out W' (hW.trans (hW'.mono hW.size)))
 have SB:∀ W,Below W0.heap.size W0 W→W.cell? ⟨w.heap.size,4,none⟩=some (.slice (some ⟨g,o,none⟩) 2 cap)∧W.cell? ⟨g,o,none⟩=some (.int .u8 x0.kind)∧W.cell? ⟨g,o+1,none⟩=some (.string x0.rat)∧W.cell? ⟨g,o+2,none⟩=some (.string x0.name)∧W.cell? ⟨g,o+3,none⟩=some (.int .i64 x0.date)∧W.cell? ⟨g,o+4,none⟩=some (.slice p0 l0 c0) ∧
   W.cell? ⟨g,o+5,none⟩=some (.int .u8 x1.kind)∧W.cell? ⟨g,o+5+1,none⟩=some (.string x1.rat)∧W.cell? ⟨g,o+5+2,none⟩=some (.string x1.name)∧W.cell? ⟨g,o+5+3,none⟩=some (.int .i64 x1.date)∧W.cell? ⟨g,o+5+4,none⟩=some (.slice p1 l1 c1):=fun W hW =>
  have hb:Below w.heap.size w W:=hB0.trans (hW.mono hB0.size)
  have e:∀ o',W.cell? ⟨g,o',none⟩=w.cell? ⟨g,o',none⟩:=fun o' => (bcell hb).1 _ _ hg
  ⟨(exCells ((hW.block _ (Array.getElem?_eq_some_iff.1 hbx).1).trans hbx)).2.2.2.2,(e _).trans e00,(e _).trans e01,(e _).trans e02,(e _).trans e03,(e _).trans e04,(e _).trans f0,(e _).trans f1,(e _).trans f2,(e _).trans f3,(e _).trans f4⟩
 have HT:Hid (q0 ++ ByteArray.mk #[32,42,32] ++ q1=⟨(q0.data.toList ++ [32,42,32] ++ q1.data.toList).toArray⟩):=ba_eq (by simp)
 obtain ⟨b0,hb0⟩:∃ b,b=sumB x0:=⟨_,rfl⟩
 rw [← hb0] at HM0 HP0
 rw [hsm] at HM1
 obtain ⟨z0,z1,z2,z3,z4,z5,z6,z7,z8,z9,za⟩:=SB W0 (Below.refl _ _)
 have HSB:=Lib.hid SB
 have HB0:=Lib.hid hB0
 have HCW:Hid (Below W0.heap.size W0 W0):=Below.refl _ W0
 have HC:Hid (Below W0.heap.size W0 W0.drew):=(Below.refl _ W0).drew
 have HW:=Lib.hid hW0
 have hm1s:0≤q1.size:=Nat.zero_le _
 clear SB hB0 hbx hel hx0 hx1 ho0 ho1 hz0 hz1 ht0 ht1 hs0 hs1 e00 e01 e02 e03 e04 f0 f1 f2 f3 f4 hpt hz hW0 hlen2 ih pz sz0 sz1 hq1 hm1s hb0 hq0 hsm
 go_enter Tryz.func36,Tryz.ntmps36
 go_wp2_with fail
 rw [← HW.out]
 clear HW
 go_upto_region 13 with (fail)
 have z0':=fun p:BelOf W0 => cell_bel z0 p
 have z1':=fun p:BelOf W0 => cell_bel z1 p
 have z2':=fun p:BelOf W0 => cell_bel z2 p
 have z3':=fun p:BelOf W0 => cell_bel z3 p
 have z4':=fun p:BelOf W0 => cell_bel z4 p
 have z5':=fun p:BelOf W0 => cell_bel z5 p
 have z6':=fun p:BelOf W0 => cell_bel z6 p
 have z7':=fun p:BelOf W0 => cell_bel z7 p
 have z8':=fun p:BelOf W0 => cell_bel z8 p
 have z9':=fun p:BelOf W0 => cell_bel z9 p
 have za':=fun p:BelOf W0 => cell_bel za p
 clear z0 z1 z2 z3 z4 z5 z6 z7 z8 z9 za
 refine region_bel (by kernel_rfl) (by kernel_rfl) ?_
 repeat (quiet_step (first
  | (go_at_call 68;first | with_reducible exact bel_of (HM0.out _) | with_reducible exact bel_of (HM1.out _))
  | (go_at_call 67;first | with_reducible exact bel_of (HP1.out _ (BelOf.h _)) | with_reducible exact bel_of (HP0.out _ (BelOf.h _)))))
 refine wpQuiet_nil ?_
 intro w3 hw
 obtain ⟨⟨w4,hb⟩,hw⟩:=hw
 subst hw
 have HC:=Lib.hid hb
 clear hb
 go_wp2_with fail
 go_ret
 exact ⟨by rw [HT.out];rfl,HB0.out.trans (HC.out.mono HB0.out.size)⟩
set_option maxHeartbeats 2000000 in
set_option maxRecDepth 100000 in
theorem rexpr_6_1 {n:Nat} (ih:RexC n) (r nm:ByteArray) (d:Int) (x0 x1:Ex) (ho0:OkX n x0) (ho1:OkX n x1) (hsm:sumB x1=true) (cs:List Value) (w:World) (h:ExAt (n+1) w cs (Ex.mk 6 r nm d [x0,x1])) (hz:(rexT (n+1) (Ex.mk 6 r nm d [x0,x1])).length≤2999000) :
  Calls Tryz.prog 36 #[.agg cs.toArray] w (RxP w (rexT (n+1) (Ex.mk 6 r nm d [x0,x1]))):=by
 have hpt:rexT (n+1) (Ex.mk 6 r nm d [x0,x1])=(parS (sumB x0) ⟨(rexT n x0).toArray⟩).data.toList ++ [32,42,32] ++ (parS true ⟨(rexT n x1).toArray⟩).data.toList:=by
  rw [rexT,if_neg (show ¬ ((Ex.mk 6 r nm d [x0,x1]).kind=1 ∨ (Ex.mk 6 r nm d [x0,x1]).kind=2 ∨ (Ex.mk 6 r nm d [x0,x1]).kind=3) by simp [Ex.kind]),if_neg (show ¬ ((Ex.mk 6 r nm d [x0,x1]).kind=4 ∨ (Ex.mk 6 r nm d [x0,x1]).kind=5) by simp [Ex.kind]),if_pos (show (Ex.mk 6 r nm d [x0,x1]).kind=6 from rfl)]
  have e:parT (sumB (prt (Ex.mk 6 r nm d [x0,x1]) 1) || (prt (Ex.mk 6 r nm d [x0,x1]) 1).kind == 6) (rexT n (prt (Ex.mk 6 r nm d [x0,x1]) 1))=(parS true ⟨(rexT n x1).toArray⟩).data.toList:=by
   show parT (sumB x1 || x1.kind == 6) (rexT n x1)=_
   rw [hsm];simp [parT,parS]
  rw [e]
  show parT (sumB x0) (rexT n x0) ++ _ ++ _=_
  cases hb:sumB x0 <;> simp [Ex.kind,opS,parS,parT]
 rw [hpt] at hz ⊢
 obtain ⟨a,len,cap,rfl,hlen2,hsub⟩:=h
 obtain rfl:len=2:=hlen2.symm
 rcases hsub with h0 | ⟨g,o,rfl,hg,hel⟩
 ·omega
 show Calls Tryz.prog 36 #[.agg #[.int .u8 6,.string r,.string nm,.int .i64 d,.slice (some ⟨g,o,none⟩) 2 cap]] w _
 obtain ⟨p0,l0,c0,⟨e00,e01,e02,e03,e04⟩,hx0⟩:=ExAt.elem (k:=0) (x:=Ex.mk 6 r nm d [x0,x1]) hg (Below.refl _ w) (show 0 < 2 by decide) hel
 simp only [Nat.zero_mul,Nat.add_zero,Ex.sub,List.getElem_cons_zero] at e00 e01 e02 e03 e04 hx0
 obtain ⟨p1,l1,c1,⟨f0,f1,f2,f3,f4⟩,hx1⟩:=ExAt.elem (k:=1) (x:=Ex.mk 6 r nm d [x0,x1]) hg (Below.refl _ w) (show 1 < 2 by decide) hel
 simp only [Nat.one_mul,Ex.sub,List.getElem_cons_succ,List.getElem_cons_zero] at f0 f1 f2 f3 f4 hx1
 obtain ⟨t0,ht0⟩:∃ t:ByteArray,t=⟨(rexT n x0).toArray⟩:=⟨_,rfl⟩
 obtain ⟨t1,ht1⟩:∃ t:ByteArray,t=⟨(rexT n x1).toArray⟩:=⟨_,rfl⟩
 have hz0:t0.data.toList=rexT n x0:=by rw [ht0]
 have hz1:t1.data.toList=rexT n x1:=by rw [ht1]
 have hs0:=ba_size hz0
 have hs1:=ba_size hz1
 obtain ⟨W0,hW0⟩:∃ W0,W0=w.alloc (.cells #[.int .u8 6,.string r,.string nm,.int .i64 d,.slice (some ⟨g,o,none⟩) 2 cap] 25):=⟨_,rfl⟩
 have hB0:Below w.heap.size w W0:=by rw [hW0];exact own_below w _
 have hbx:W0.heap[w.heap.size]? = some (.cells #[.int .u8 6,.string r,.string nm,.int .i64 d,.slice (some ⟨g,o,none⟩) 2 cap] 25):=by rw [hW0];exact alloc_at _ _
 rw [← ht0,← ht1] at hz ⊢
 obtain ⟨q1,hq1⟩:∃ q,q=parS true t1:=⟨_,rfl⟩
 obtain ⟨q0,hq0⟩:∃ q,q=parS (sumB x0) t0:=⟨_,rfl⟩
 have pz:∀ (b:Bool) (t:ByteArray),t.size≤(parS b t).size:=fun b t => by
  unfold parS;split
  ·simp only [ByteArray.size_append];omega
  ·exact Nat.le_refl _
 have pz1:=pz true t1
 rw [← hq1] at hz pz1 ⊢
 have pz0:=pz (sumB x0) t0
 rw [← hq0] at hz pz0 ⊢
 have sz0:q0.data.toList.length=q0.size:=by simp
 have sz1:q1.data.toList.length=q1.size:=by simp
 simp only [List.length_append,List.length_cons,List.length_nil] at hz
 have hsz:q0.size+3+q1.size≤2999000:=by omega
 have n1:¬ 9223372036854775807 < q0.size+3:=by omega
 have n2:¬ 9223372036854775807 < q0.size+3+q1.size:=by omega
 have HX1:Hid (∀ W,Below W0.heap.size W0 W→Calls Tryz.prog 36 #[.agg #[.int .u8 x1.kind,.string x1.rat,.string x1.name,.int .i64 x1.date,.slice p1 l1 c1]] W (fun e w' => e = .returned (.string t1)∧Below W.heap.size W w')):=fun W hW => by
  have:=ih x1 _ W (ExAt.below (hB0.trans (hW.mono hB0.size)) hx1) ho1 (by omega)
  unfold RxP at this;rwa [← ht1] at this
 have HX0:Hid (∀ W,Below W0.heap.size W0 W→Calls Tryz.prog 36 #[.agg #[.int .u8 x0.kind,.string x0.rat,.string x0.name,.int .i64 x0.date,.slice p0 l0 c0]] W (fun e w' => e = .returned (.string t0)∧Below W.heap.size W w')):=fun W hW => by
  have:=ih x0 _ W (ExAt.below (hB0.trans (hW.mono hB0.size)) hx0) ho0 (by omega)
  unfold RxP at this;rwa [← ht0] at this
 have HM1:Hid (∀ W,Calls Tryz.prog 68 #[.agg #[.int .u8 x1.kind,.string x1.rat,.string x1.name,.int .i64 x1.date,.slice p1 l1 c1]] W (BelB W (sumB x1))):=fun W => rsum_any _ _ _ _ _ _ _ W
 have HM0:Hid (∀ W,Calls Tryz.prog 68 #[.agg #[.int .u8 x0.kind,.string x0.rat,.string x0.name,.int .i64 x0.date,.slice p0 l0 c0]] W (BelB W (sumB x0))):=fun W => rsum_any _ _ _ _ _ _ _ W
 have HP1:Hid (∀ W,Below W0.heap.size W0 W→Calls Tryz.prog 67 #[.agg #[.int .u8 x1.kind,.string x1.rat,.string x1.name,.int .i64 x1.date,.slice p1 l1 c1],.bool true] W (fun e w' => e = .returned (.string q1)∧Below W.heap.size W w')):=fun W hW => by
  rw [hq1]
  exact rpart_of _ _ _ _ _ _ _ t1 _ W (by omega) (Lib.hid fun W' hW' => HX1.out W' (hW.trans (hW'.mono hW.size)))
 have HP0:Hid (∀ W,Below W0.heap.size W0 W→Calls Tryz.prog 67 #[.agg #[.int .u8 x0.kind,.string x0.rat,.string x0.name,.int .i64 x0.date,.slice p0 l0 c0],.bool (sumB x0)] W (fun e w' => e = .returned (.string q0)∧Below W.heap.size W w')):=fun W hW => by
  rw [hq0]
  exact rpart_of _ _ _ _ _ _ _ t0 _ W (by omega) (Lib.hid fun W' hW' => HX0.out W' (hW.trans (hW'.mono hW.size)))
 have SB:∀ W,Below W0.heap.size W0 W→W.cell? ⟨w.heap.size,4,none⟩=some (.slice (some ⟨g,o,none⟩) 2 cap)∧W.cell? ⟨g,o,none⟩=some (.int .u8 x0.kind)∧W.cell? ⟨g,o+1,none⟩=some (.string x0.rat)∧W.cell? ⟨g,o+2,none⟩=some (.string x0.name)∧W.cell? ⟨g,o+3,none⟩=some (.int .i64 x0.date)∧W.cell? ⟨g,o+4,none⟩=some (.slice p0 l0 c0) ∧
   W.cell? ⟨g,o+5,none⟩=some (.int .u8 x1.kind)∧W.cell? ⟨g,o+5+1,none⟩=some (.string x1.rat)∧W.cell? ⟨g,o+5+2,none⟩=some (.string x1.name)∧W.cell? ⟨g,o+5+3,none⟩=some (.int .i64 x1.date)∧W.cell? ⟨g,o+5+4,none⟩=some (.slice p1 l1 c1):=fun W hW =>
  have hb:Below w.heap.size w W:=hB0.trans (hW.mono hB0.size)
  have e:∀ o',W.cell? ⟨g,o',none⟩=w.cell? ⟨g,o',none⟩:=fun o' => (bcell hb).1 _ _ hg
  ⟨(exCells ((hW.block _ (Array.getElem?_eq_some_iff.1 hbx).1).trans hbx)).2.2.2.2,(e _).trans e00,(e _).trans e01,(e _).trans e02,(e _).trans e03,(e _).trans e04,(e _).trans f0,(e _).trans f1,(e _).trans f2,(e _).trans f3,(e _).trans f4⟩
 have HT:Hid (q0 ++ ByteArray.mk #[32,42,32] ++ q1=⟨(q0.data.toList ++ [32,42,32] ++ q1.data.toList).toArray⟩):=ba_eq (by simp)
 obtain ⟨b0,hb0⟩:∃ b,b=sumB x0:=⟨_,rfl⟩
 rw [← hb0] at HM0 HP0
 rw [hsm] at HM1
 obtain ⟨z0,z1,z2,z3,z4,z5,z6,z7,z8,z9,za⟩:=SB W0 (Below.refl _ _)
 have HSB:=Lib.hid SB
 have HB0:=Lib.hid hB0
 have HCW:Hid (Below W0.heap.size W0 W0):=Below.refl _ W0
 have HC:Hid (Below W0.heap.size W0 W0.drew):=(Below.refl _ W0).drew
 have HW:=Lib.hid hW0
 have hm1s:0≤q1.size:=Nat.zero_le _
 clear SB hB0 hbx hel hx0 hx1 ho0 ho1 hz0 hz1 ht0 ht1 hs0 hs1 e00 e01 e02 e03 e04 f0 f1 f2 f3 f4 hpt hz hW0 hlen2 ih pz sz0 sz1 hq1 hm1s hb0 hq0 hsm
 go_enter Tryz.func36,Tryz.ntmps36
 go_wp2_with fail
 rw [← HW.out]
 clear HW
 go_upto_region 13 with (fail)
 have z0':=fun p:BelOf W0 => cell_bel z0 p
 have z1':=fun p:BelOf W0 => cell_bel z1 p
 have z2':=fun p:BelOf W0 => cell_bel z2 p
 have z3':=fun p:BelOf W0 => cell_bel z3 p
 have z4':=fun p:BelOf W0 => cell_bel z4 p
 have z5':=fun p:BelOf W0 => cell_bel z5 p
 have z6':=fun p:BelOf W0 => cell_bel z6 p
 have z7':=fun p:BelOf W0 => cell_bel z7 p
 have z8':=fun p:BelOf W0 => cell_bel z8 p
 have z9':=fun p:BelOf W0 => cell_bel z9 p
 have za':=fun p:BelOf W0 => cell_bel za p
 clear z0 z1 z2 z3 z4 z5 z6 z7 z8 z9 za
 refine region_bel (by kernel_rfl) (by kernel_rfl) ?_
 repeat (quiet_step (first
  | (go_at_call 68;first | with_reducible exact bel_of (HM0.out _) | with_reducible exact bel_of (HM1.out _))
  | (go_at_call 67;first | with_reducible exact bel_of (HP1.out _ (BelOf.h _)) | with_reducible exact bel_of (HP0.out _ (BelOf.h _)))))
 refine wpQuiet_nil ?_
 intro w3 hw
 obtain ⟨⟨w4,hb⟩,hw⟩:=hw
 subst hw
 have HC:=Lib.hid hb
 clear hb
 go_wp2_with fail
 go_ret
 exact ⟨by rw [HT.out];rfl,HB0.out.trans (HC.out.mono HB0.out.size)⟩
set_option maxHeartbeats 2000000 in
set_option maxRecDepth 100000 in
theorem rexpr_6_2 {n:Nat} (ih:RexC n) (r nm:ByteArray) (d:Int) (x0 x1:Ex) (ho0:OkX n x0) (ho1:OkX n x1) (hsm:sumB x1=false) (h6:(x1.kind == 6)=true) (cs:List Value) (w:World) (h:ExAt (n+1) w cs (Ex.mk 6 r nm d [x0,x1])) (hz:(rexT (n+1) (Ex.mk 6 r nm d [x0,x1])).length≤2999000) :
  Calls Tryz.prog 36 #[.agg cs.toArray] w (RxP w (rexT (n+1) (Ex.mk 6 r nm d [x0,x1]))):=by
 have hpt:rexT (n+1) (Ex.mk 6 r nm d [x0,x1])=(parS (sumB x0) ⟨(rexT n x0).toArray⟩).data.toList ++ [32,42,32] ++ (parS true ⟨(rexT n x1).toArray⟩).data.toList:=by
  rw [rexT,if_neg (show ¬ ((Ex.mk 6 r nm d [x0,x1]).kind=1 ∨ (Ex.mk 6 r nm d [x0,x1]).kind=2 ∨ (Ex.mk 6 r nm d [x0,x1]).kind=3) by simp [Ex.kind]),if_neg (show ¬ ((Ex.mk 6 r nm d [x0,x1]).kind=4 ∨ (Ex.mk 6 r nm d [x0,x1]).kind=5) by simp [Ex.kind]),if_pos (show (Ex.mk 6 r nm d [x0,x1]).kind=6 from rfl)]
  have e:parT (sumB (prt (Ex.mk 6 r nm d [x0,x1]) 1) || (prt (Ex.mk 6 r nm d [x0,x1]) 1).kind == 6) (rexT n (prt (Ex.mk 6 r nm d [x0,x1]) 1))=(parS true ⟨(rexT n x1).toArray⟩).data.toList:=by
   show parT (sumB x1 || x1.kind == 6) (rexT n x1)=_
   rw [hsm,h6];simp [parT,parS]
  rw [e]
  show parT (sumB x0) (rexT n x0) ++ _ ++ _=_
  cases hb:sumB x0 <;> simp [Ex.kind,opS,parS,parT]
 rw [hpt] at hz ⊢
 obtain ⟨a,len,cap,rfl,hlen2,hsub⟩:=h
 obtain rfl:len=2:=hlen2.symm
 rcases hsub with h0 | ⟨g,o,rfl,hg,hel⟩
 ·omega
 show Calls Tryz.prog 36 #[.agg #[.int .u8 6,.string r,.string nm,.int .i64 d,.slice (some ⟨g,o,none⟩) 2 cap]] w _
 obtain ⟨p0,l0,c0,⟨e00,e01,e02,e03,e04⟩,hx0⟩:=ExAt.elem (k:=0) (x:=Ex.mk 6 r nm d [x0,x1]) hg (Below.refl _ w) (show 0 < 2 by decide) hel
 simp only [Nat.zero_mul,Nat.add_zero,Ex.sub,List.getElem_cons_zero] at e00 e01 e02 e03 e04 hx0
 obtain ⟨p1,l1,c1,⟨f0,f1,f2,f3,f4⟩,hx1⟩:=ExAt.elem (k:=1) (x:=Ex.mk 6 r nm d [x0,x1]) hg (Below.refl _ w) (show 1 < 2 by decide) hel
 simp only [Nat.one_mul,Ex.sub,List.getElem_cons_succ,List.getElem_cons_zero] at f0 f1 f2 f3 f4 hx1
 obtain ⟨t0,ht0⟩:∃ t:ByteArray,t=⟨(rexT n x0).toArray⟩:=⟨_,rfl⟩
 obtain ⟨t1,ht1⟩:∃ t:ByteArray,t=⟨(rexT n x1).toArray⟩:=⟨_,rfl⟩
 have hz0:t0.data.toList=rexT n x0:=by rw [ht0]
 have hz1:t1.data.toList=rexT n x1:=by rw [ht1]
 have hs0:=ba_size hz0
 have hs1:=ba_size hz1
 obtain ⟨W0,hW0⟩:∃ W0,W0=w.alloc (.cells #[.int .u8 6,.string r,.string nm,.int .i64 d,.slice (some ⟨g,o,none⟩) 2 cap] 25):=⟨_,rfl⟩
 have hB0:Below w.heap.size w W0:=by rw [hW0];exact own_below w _
 have hbx:W0.heap[w.heap.size]? = some (.cells #[.int .u8 6,.string r,.string nm,.int .i64 d,.slice (some ⟨g,o,none⟩) 2 cap] 25):=by rw [hW0];exact alloc_at _ _
 rw [← ht0,← ht1] at hz ⊢
 obtain ⟨q1,hq1⟩:∃ q,q=parS true t1:=⟨_,rfl⟩
 obtain ⟨q0,hq0⟩:∃ q,q=parS (sumB x0) t0:=⟨_,rfl⟩
 have pz:∀ (b:Bool) (t:ByteArray),t.size≤(parS b t).size:=fun b t => by
  unfold parS;split
  ·simp only [ByteArray.size_append];omega
  ·exact Nat.le_refl _
 have pz1:=pz true t1
 rw [← hq1] at hz pz1 ⊢
 have pz0:=pz (sumB x0) t0
 rw [← hq0] at hz pz0 ⊢
 have sz0:q0.data.toList.length=q0.size:=by simp
 have sz1:q1.data.toList.length=q1.size:=by simp
 simp only [List.length_append,List.length_cons,List.length_nil] at hz
 have hsz:q0.size+3+q1.size≤2999000:=by omega
 have n1:¬ 9223372036854775807 < q0.size+3:=by omega
 have n2:¬ 9223372036854775807 < q0.size+3+q1.size:=by omega
 have HX1:Hid (∀ W,Below W0.heap.size W0 W→Calls Tryz.prog 36 #[.agg #[.int .u8 x1.kind,.string x1.rat,.string x1.name,.int .i64 x1.date,.slice p1 l1 c1]] W (fun e w' => e = .returned (.string t1)∧Below W.heap.size W w')):=fun W hW => by
  have:=ih x1 _ W (ExAt.below (hB0.trans (hW.mono hB0.size)) hx1) ho1 (by omega)
  unfold RxP at this;rwa [← ht1] at this
 have HX0:Hid (∀ W,Below W0.heap.size W0 W→Calls Tryz.prog 36 #[.agg #[.int .u8 x0.kind,.string x0.rat,.string x0.name,.int .i64 x0.date,.slice p0 l0 c0]] W (fun e w' => e = .returned (.string t0)∧Below W.heap.size W w')):=fun W hW => by
  have:=ih x0 _ W (ExAt.below (hB0.trans (hW.mono hB0.size)) hx0) ho0 (by omega)
  unfold RxP at this;rwa [← ht0] at this
 have HM1:Hid (∀ W,Calls Tryz.prog 68 #[.agg #[.int .u8 x1.kind,.string x1.rat,.string x1.name,.int .i64 x1.date,.slice p1 l1 c1]] W (BelB W (sumB x1))):=fun W => rsum_any _ _ _ _ _ _ _ W
 have HM0:Hid (∀ W,Calls Tryz.prog 68 #[.agg #[.int .u8 x0.kind,.string x0.rat,.string x0.name,.int .i64 x0.date,.slice p0 l0 c0]] W (BelB W (sumB x0))):=fun W => rsum_any _ _ _ _ _ _ _ W
 have HP1:Hid (∀ W,Below W0.heap.size W0 W→Calls Tryz.prog 67 #[.agg #[.int .u8 x1.kind,.string x1.rat,.string x1.name,.int .i64 x1.date,.slice p1 l1 c1],.bool true] W (fun e w' => e = .returned (.string q1)∧Below W.heap.size W w')):=fun W hW => by
  rw [hq1]
  exact rpart_of _ _ _ _ _ _ _ t1 _ W (by omega) (Lib.hid fun W' hW' => HX1.out W' (hW.trans (hW'.mono hW.size)))
 have HP0:Hid (∀ W,Below W0.heap.size W0 W→Calls Tryz.prog 67 #[.agg #[.int .u8 x0.kind,.string x0.rat,.string x0.name,.int .i64 x0.date,.slice p0 l0 c0],.bool (sumB x0)] W (fun e w' => e = .returned (.string q0)∧Below W.heap.size W w')):=fun W hW => by
  rw [hq0]
  exact rpart_of _ _ _ _ _ _ _ t0 _ W (by omega) (Lib.hid fun W' hW' => HX0.out W' (hW.trans (hW'.mono hW.size)))
 have SB:∀ W,Below W0.heap.size W0 W→W.cell? ⟨w.heap.size,4,none⟩=some (.slice (some ⟨g,o,none⟩) 2 cap)∧W.cell? ⟨g,o,none⟩=some (.int .u8 x0.kind)∧W.cell? ⟨g,o+1,none⟩=some (.string x0.rat)∧W.cell? ⟨g,o+2,none⟩=some (.string x0.name)∧W.cell? ⟨g,o+3,none⟩=some (.int .i64 x0.date)∧W.cell? ⟨g,o+4,none⟩=some (.slice p0 l0 c0) ∧
   W.cell? ⟨g,o+5,none⟩=some (.int .u8 x1.kind)∧W.cell? ⟨g,o+5+1,none⟩=some (.string x1.rat)∧W.cell? ⟨g,o+5+2,none⟩=some (.string x1.name)∧W.cell? ⟨g,o+5+3,none⟩=some (.int .i64 x1.date)∧W.cell? ⟨g,o+5+4,none⟩=some (.slice p1 l1 c1):=fun W hW =>
  have hb:Below w.heap.size w W:=hB0.trans (hW.mono hB0.size)
  have e:∀ o',W.cell? ⟨g,o',none⟩=w.cell? ⟨g,o',none⟩:=fun o' => (bcell hb).1 _ _ hg
  ⟨(exCells ((hW.block _ (Array.getElem?_eq_some_iff.1 hbx).1).trans hbx)).2.2.2.2,(e _).trans e00,(e _).trans e01,(e _).trans e02,(e _).trans e03,(e _).trans e04,(e _).trans f0,(e _).trans f1,(e _).trans f2,(e _).trans f3,(e _).trans f4⟩
 have HT:Hid (q0 ++ ByteArray.mk #[32,42,32] ++ q1=⟨(q0.data.toList ++ [32,42,32] ++ q1.data.toList).toArray⟩):=ba_eq (by simp)
 obtain ⟨b0,hb0⟩:∃ b,b=sumB x0:=⟨_,rfl⟩
 rw [← hb0] at HM0 HP0
 rw [hsm] at HM1
 obtain ⟨z0,z1,z2,z3,z4,z5,z6,z7,z8,z9,za⟩:=SB W0 (Below.refl _ _)
 have HSB:=Lib.hid SB
 have HB0:=Lib.hid hB0
 have HCW:Hid (Below W0.heap.size W0 W0):=Below.refl _ W0
 have HC:Hid (Below W0.heap.size W0 W0.drew):=(Below.refl _ W0).drew
 have HW:=Lib.hid hW0
 have hm1s:0≤q1.size:=Nat.zero_le _
 clear SB hB0 hbx hel hx0 hx1 ho0 ho1 hz0 hz1 ht0 ht1 hs0 hs1 e00 e01 e02 e03 e04 f0 f1 f2 f3 f4 hpt hz hW0 hlen2 ih pz sz0 sz1 hq1 hm1s hb0 hq0 hsm
 go_enter Tryz.func36,Tryz.ntmps36
 go_wp2_with fail
 rw [← HW.out]
 clear HW
 go_upto_region 13 with (fail)
 have z0':=fun p:BelOf W0 => cell_bel z0 p
 have z1':=fun p:BelOf W0 => cell_bel z1 p
 have z2':=fun p:BelOf W0 => cell_bel z2 p
 have z3':=fun p:BelOf W0 => cell_bel z3 p
 have z4':=fun p:BelOf W0 => cell_bel z4 p
 have z5':=fun p:BelOf W0 => cell_bel z5 p
 have z6':=fun p:BelOf W0 => cell_bel z6 p
 have z7':=fun p:BelOf W0 => cell_bel z7 p
 have z8':=fun p:BelOf W0 => cell_bel z8 p
 have z9':=fun p:BelOf W0 => cell_bel z9 p
 have za':=fun p:BelOf W0 => cell_bel za p
 clear z0 z1 z2 z3 z4 z5 z6 z7 z8 z9 za
 refine region_bel (by kernel_rfl) (by kernel_rfl) ?_
 repeat (quiet_step (first
  | (go_at_call 68;first | with_reducible exact bel_of (HM0.out _) | with_reducible exact bel_of (HM1.out _))
  | (go_at_call 67;first | with_reducible exact bel_of (HP1.out _ (BelOf.h _)) | with_reducible exact bel_of (HP0.out _ (BelOf.h _)))))
 refine wpQuiet_nil ?_
 intro w3 hw
 obtain ⟨⟨w4,hb⟩,hw⟩:=hw
 subst hw
 have HC:=Lib.hid hb
 clear hb
 go_wp2_with fail
 go_ret
 exact ⟨by rw [HT.out];rfl,HB0.out.trans (HC.out.mono HB0.out.size)⟩
end Go.Proofs.YtijkefflpojmhaaGreatDoor

namespace Go.Proofs.YtijkefflpojmhaaGreatDoor
open Go.RowKit
theorem ok_of_srt:∀ (n:Nat) {w:World} {cs:List Value} {x:Ex},ExAt n w cs x→x.srt ≠ 0→OkX n x:=by
 intro n
 induction n with
 | zero => intro w cs x h;exact h.elim
 | succ n ih =>
  intro w cs x h hs
  obtain ⟨a,len,cap,_,hlen,hat⟩:=h
  rw [Ex.srt_is] at hs
  unfold srtP at hs
  split at hs
  ·rename_i ps own hsh
   split at hs
   ·rename_i hb
    obtain ⟨_,hps⟩:=hb
    obtain ⟨hp0,hp3⟩:=shpL_pos hsh
    have hl:x.sub.length=ps.length:=by rw [← hps,List.length_map]
    refine ⟨?_,fun y hy => ?_⟩
    ·unfold shpL at hsh
     by_cases h4:x.kind=4 ∨ x.kind=5 ∨ x.kind=6 ∨ x.kind=7 ∨ x.kind=8
     ·rw [if_pos h4] at hsh
      injection hsh with hsh
      injection hsh with h1 _
      rw [← h1] at hl
      by_cases h6:x.kind=4 ∨ x.kind=5 ∨ x.kind=6
      ·exact .inr (.inr (.inr (.inl ⟨h6,hl⟩)))
      ·exact .inr (.inr (.inr (.inr ⟨by unfold HasWd;omega,by rw [hl];decide⟩)))
     ·rw [if_neg h4] at hsh
      refine .inr (.inr (.inr (.inr ⟨?_,by omega⟩)))
      unfold HasWd
      (repeat' split at hsh) <;> first | omega | cases hsh
    ·obtain ⟨i,hi,rfl⟩:=List.getElem_of_mem hy
     rcases hat with h0 | ⟨g,o,_,_,hel⟩
     ·omega
     ·obtain ⟨cs',_,hx⟩:=hel i hi
      exact ih hx (mem_srt hp0 hps hy)
   ·exact absurd rfl hs
  ·split at hs
   ·rename_i hl
    have hsub:x.sub=[]:=List.map_eq_nil_iff.1 hl
    refine ⟨?_,fun y hy => by rw [hsub] at hy;cases hy⟩
    unfold leafV at hs
    split at hs
    ·exact .inl ‹_›
    ·split at hs
     ·split at hs
      ·rename_i h2 hd
       exact .inr (.inl ⟨h2,hd.2.2.1,hd.2.2.2⟩)
      ·exact absurd rfl hs
     ·split at hs
      ·exact .inr (.inr (.inl ‹_›))
      ·exact absurd rfl hs
   ·exact absurd rfl hs
theorem dtxt_len (n:Int):(dtxt n).length=10:=by unfold dtxt;exact dateB_len _ _ _
theorem qn_len (s:ByteArray):(qn s).size≤s.size+2:=by
 unfold qn
 split
 ·simp only [ByteArray.size_append];show 1+s.size+1≤_;omega
 ·omega
theorem leafT_len {x:Ex} (hn:x.name.size≤200) (hr:x.rat.size≤2500):(leafT x).length≤2500:=by
 have hq:=qn_len x.name
 have e1:(qn x.name).data.toList.length=(qn x.name).size:=by simp
 have e2:x.rat.data.toList.length=x.rat.size:=by simp
 unfold leafT
 split
 ·omega
 ·split
  ·simp only [List.length_append,List.length_cons,List.length_nil]
   have:=dtxt_len x.date
   omega
  ·simp only [List.length_append,List.length_cons,List.length_nil];omega
theorem commas_len (l:List (List UInt8)):(commas l).length≤(l.map fun a => a.length+2).sum:=by
 induction l with
 | nil => simp [commas]
 | cons a l ih =>
  cases l with
  | nil => simp [commas]
  | cons b l =>
   show (a ++ [44,32] ++ commas (b :: l)).length≤_
   rw [List.map_cons,List.sum_cons]
   simp only [List.length_append,List.length_cons,List.length_nil] at ih ⊢
   omega
theorem sum_map_le {l:List Ex} {f g:Ex→Nat} (h:∀ y ∈ l,f y≤g y):(l.map f).sum≤(l.map g).sum:=by
 induction l with
 | nil => simp
 | cons a l ih =>
  rw [List.map_cons,List.map_cons,List.sum_cons,List.sum_cons]
  have:=h a (List.mem_cons_self ..)
  have:=ih fun y hy => h y (List.mem_cons_of_mem _ hy)
  omega
theorem sum_mul (l:List Ex) (c:Nat):(l.map fun y => c*y.size).sum=c*(l.map Ex.size).sum:=by
 induction l with
 | nil => simp
 | cons a l ih => rw [List.map_cons,List.map_cons,List.sum_cons,List.sum_cons,ih,Nat.mul_add]
theorem prt_mem {x:Ex} {i:Nat} (h:i < x.sub.length):prt x i ∈ x.sub:=by
 unfold prt;rw [List.getElem?_eq_getElem h];exact List.getElem_mem _
theorem parT_len (b:Bool) (t:List UInt8):(parT b t).length≤t.length+2:=by
 unfold parT;split
 ·simp only [List.length_append,List.length_cons,List.length_nil];omega
 ·omega
theorem opS_len (k:Int):(opS k).data.toList.length≤3:=by
 unfold opS;(repeat' split) <;> simp
theorem pair_sum {l:List Ex} (h:l.length=2):(l.map Ex.size).sum=(l[0]?.getD (Ex.mk 0 ByteArray.empty ByteArray.empty 0 [])).size+(l[1]?.getD (Ex.mk 0 ByteArray.empty ByteArray.empty 0 [])).size:=by
 match l,h with
 | [a,b],_ => simp
theorem rexT_len:∀ (n:Nat) (x:Ex) (d:Nat),OkX n x→SmX d x→(rexT n x).length+2≤2600*x.size:=by
 intro n
 induction n with
 | zero => intro x d h;exact h.elim
 | succ n ih =>
  intro x d h hd
  match d,hd with
  | d+1,⟨hn,hr,hs⟩ =>
  obtain ⟨hk,ho⟩:=h
  have hz:=Ex.size_is x
  rw [rexT]
  by_cases h1:x.kind=1 ∨ x.kind=2 ∨ x.kind=3
  ·rw [if_pos h1]
   have:=leafT_len hn hr
   omega
  rw [if_neg h1]
  by_cases h4:x.kind=4 ∨ x.kind=5 ∨ x.kind=6
  ·have hl:x.sub.length=2:=by
    rcases hk with h | h | h | h | h
    ·omega
    ·omega
    ·omega
    ·exact h.2
    ·have:=h.1;unfold HasWd at this;omega
   have m0:=prt_mem (x:=x) (i:=0) (by omega)
   have m1:=prt_mem (x:=x) (i:=1) (by omega)
   have i0:=ih _ d (ho _ m0) (hs _ m0)
   have i1:=ih _ d (ho _ m1) (hs _ m1)
   have hp:(x.sub.map Ex.size).sum=(prt x 0).size+(prt x 1).size:=pair_sum hl
   have ho3:=opS_len x.kind
   by_cases h45:x.kind=4 ∨ x.kind=5
   ·rw [if_pos h45]
    have:=parT_len (sumB (prt x 1)) (rexT n (prt x 1))
    simp only [List.length_append]
    omega
   ·rw [if_neg h45,if_pos (by omega)]
    have:=parT_len (sumB (prt x 0)) (rexT n (prt x 0))
    have:=parT_len (sumB (prt x 1) || (prt x 1).kind == 6) (rexT n (prt x 1))
    simp only [List.length_append]
    omega
  ·rw [if_neg (by omega),if_neg (by omega)]
   have hc:=commas_len (x.sub.map (rexT n))
   rw [List.map_map] at hc
   have hm:(x.sub.map ((fun a => a.length+2) ∘ rexT n)).sum≤(x.sub.map fun y => 2600*y.size).sum:=sum_map_le fun y hy => ih y d (ho y hy) (hs y hy)
   rw [sum_mul] at hm
   have hw:=wdL_short x.kind
   simp only [List.length_append,List.length_cons,List.length_nil]
   omega
theorem rexpr_all:∀ n,RexC n:=by
 intro n
 induction n with
 | zero => intro x cs w h;exact h.elim
 | succ n ih =>
  intro x cs w h ho hz
  obtain ⟨hk,hs⟩:=ho
  obtain ⟨k,r,nm,d,sub⟩:=x
  rcases hk with hk | ⟨hk,d0,d1⟩ | hk | ⟨hk,hsub⟩ | ⟨hk,h3⟩
  ·obtain rfl:k=1:=hk
   exact rexpr_1 r nm d sub cs w h
  ·obtain rfl:k=2:=hk
   exact rexpr_2 r nm d d0 d1 sub cs w h (by omega)
  ·obtain rfl:k=3:=hk
   exact rexpr_3 r nm d sub cs w h (by omega)
  ·obtain ⟨x0,x1,rfl⟩:∃ x0 x1,sub=[x0,x1]:=ex_two hsub
   have o0:OkX n x0:=hs x0 (by simp [Ex.sub])
   have o1:OkX n x1:=hs x1 (by simp [Ex.sub])
   rcases hk with hk | hk | hk
   ·obtain rfl:k=4:=hk
    exact rexpr_4 ih r nm d x0 x1 o0 o1 cs w h hz
   ·obtain rfl:k=5:=hk
    exact rexpr_5 ih r nm d x0 x1 o0 o1 cs w h hz
   ·obtain rfl:k=6:=hk
    cases h1:sumB x1 with
    | true => exact rexpr_6_1 ih r nm d x0 x1 o0 o1 h1 cs w h hz
    | false =>
     cases h6:(x1.kind == 6) with
     | true => exact rexpr_6_2 ih r nm d x0 x1 o0 o1 h1 h6 cs w h hz
     | false => exact rexpr_6_0 ih r nm d x0 x1 o0 o1 h1 h6 cs w h hz
  ·have hs':∀ y ∈ sub,OkX n y:=hs
   rcases hk with hk | hk | hk | hk | hk | hk | hk | hk
   ·obtain rfl:k=7:=hk
    exact rexpr_7 ih r nm d sub h3 hs' cs w h hz
   ·obtain rfl:k=8:=hk
    exact rexpr_8 ih r nm d sub h3 hs' cs w h hz
   ·obtain rfl:k=9:=hk
    exact rexpr_9 ih r nm d sub h3 hs' cs w h hz
   ·obtain rfl:k=11:=hk
    exact rexpr_11 ih r nm d sub h3 hs' cs w h hz
   ·obtain rfl:k=12:=hk
    exact rexpr_12 ih r nm d sub h3 hs' cs w h hz
   ·obtain rfl:k=13:=hk
    exact rexpr_13 ih r nm d sub h3 hs' cs w h hz
   ·obtain rfl:k=14:=hk
    exact rexpr_14 ih r nm d sub h3 hs' cs w h hz
   ·obtain rfl:k=15:=hk
    exact rexpr_15 ih r nm d sub h3 hs' cs w h hz
end Go.Proofs.YtijkefflpojmhaaGreatDoor

namespace Go.Proofs.YtijkefflpojmhaaGreatDoor
open Go.RowKit
def spc (d:Nat):List UInt8:=List.replicate (2*d) 32
def ind (k:Nat) (l:List UInt8):List UInt8:=l.flatMap fun b => if b=10 then 10 :: List.replicate k 32 else [b]
theorem ind_append (k:Nat) (a b:List UInt8):ind k (a ++ b)=ind k a ++ ind k b:=List.flatMap_append
theorem ind_nil (k:Nat):ind k []=[]:=rfl
theorem ind_cons (k:Nat) (b:UInt8) (l:List UInt8):ind k (b :: l)=(if b=10 then 10 :: List.replicate k 32 else [b]) ++ ind k l:=List.flatMap_cons
theorem ind_no {k:Nat} {l:List UInt8} (h:(10:UInt8) ∉ l):ind k l=l:=by
 induction l with
 | nil => rfl
 | cons b l ih =>
  rw [ind_cons,if_neg (fun e => h (by rw [e];exact List.mem_cons_self ..)),ih fun q => h (List.mem_cons_of_mem _ q)];rfl
theorem ind_lf (k:Nat):ind k [10]=10 :: List.replicate k 32:=by rw [ind_cons,if_pos rfl,ind_nil,List.append_nil]
theorem rep_no (k:Nat):(10:UInt8) ∉ List.replicate k 32:=fun h => absurd (List.eq_of_mem_replicate h) (by decide)
theorem ind_ind (k j:Nat) (l:List UInt8):ind k (ind j l)=ind (k+j) l:=by
 induction l with
 | nil => rfl
 | cons b l ih =>
  rw [ind_cons j,ind_append,ih,ind_cons (k+j)]
  congr 1
  by_cases h:b=10
  ·rw [if_pos h,if_pos h,ind_cons,if_pos rfl,ind_no (rep_no j),List.cons_append,List.replicate_append_replicate]
  ·rw [if_neg h,if_neg h]
   exact ind_no (by simpa using fun e => h e.symm)
theorem ind_zero (l:List UInt8):ind 0 l=l:=by
 induction l with
 | nil => rfl
 | cons b l ih =>
  rw [ind_cons,ih]
  by_cases h:b=10
  ·rw [if_pos h,h];rfl
  ·rw [if_neg h];rfl
def mvT (l:List UInt8):List UInt8:=[32,32] ++ ind 2 l
theorem ind_mvT (k:Nat) (l:List UInt8):ind k (mvT l)=[32,32] ++ ind (k+2) l:=by
 unfold mvT
 rw [ind_append,ind_ind,ind_no (by simp)]
def inT (t:List UInt8):List UInt8:=[123,10] ++ mvT t ++ [10,125]
noncomputable def daysT (l:List Int):List UInt8:=commas (l.map dtxt)
noncomputable def onT (l:List Int):List UInt8:=if l=[] then [] else [32,111,110,32] ++ daysT l
def crt (x:Ct) (i:Nat):Ct:=x.sub[i]?.getD default
def HasEx (k:Int):Prop:=k=2 ∨ k=4 ∨ k=5 ∨ k=9 ∨ k=10
def wUntil (k:Int):List UInt8:=if k=9 then [117,110,116,105,108,32] else [119,104,101,110,32]
noncomputable def headT (n:Nat) (x:Ct):List UInt8 :=
 if x.kind=4 then [115,99,97,108,101,32] ++ rexT n x.expr
 else if x.kind=5 then [105,102,32] ++ rexT n x.expr
 else if x.kind=6 then [111,110,32] ++ dtxt x.date
 else if x.kind=7 then [99,104,111,105,99,101,32] ++ (qn x.name).data.toList ++ [32,98,121,32] ++ (qn x.frm).data.toList
 else if x.kind=8 then [99,97,108,108,32] ++ (qn x.name).data.toList ++ [32,98,121,32] ++ (qn x.frm).data.toList ++ onT x.dates
 else wUntil x.kind ++ rexT n x.expr ++ onT x.dates
noncomputable def payT (n:Nat) (x:Ct):List UInt8:=(qn x.frm).data.toList ++ [32,112,97,121,115,32] ++ rexT n x.expr ++ [32] ++ (qn x.name).data.toList ++ [32,116,111,32] ++ (qn x.too).data.toList
def nothT:List UInt8:=[110,111,116,104,105,110,103]
def brL (d:Nat) (bt:List UInt8):List (List UInt8)→List UInt8
 | [] => []
 | t :: ts => [10] ++ spc (d+1) ++ t ++ ts.flatMap fun t => bt ++ [10] ++ spc (d+1) ++ t
theorem brL_snoc (d:Nat) (bt:List UInt8) (ts:List (List UInt8)) (t:List UInt8):brL d bt (ts ++ [t])=brL d bt ts ++ (if ts=[] then [] else bt) ++ ([10] ++ spc (d+1)) ++ t:=by
 cases ts with
 | nil => simp [brL]
 | cons a ts => simp [brL,List.flatMap_append]
def brT (d:Nat) (bt:List UInt8) (ts:List (List UInt8)):List UInt8:=[123] ++ brL d bt ts ++ ([10] ++ spc d) ++ [125]
def subT (d:Nat):List (List UInt8)→List UInt8
 | [] => []
 | t :: ts => [32] ++ brT d [] [t] ++ ts.flatMap fun t => [32,101,108,115,101,32] ++ brT d [] [t]
theorem subT_snoc (d:Nat) (ts:List (List UInt8)) (t:List UInt8):subT d (ts ++ [t])=subT d ts ++ (if ts=[] then [32] else [32,101,108,115,101,32]) ++ brT d [] [t]:=by
 cases ts with
 | nil => simp [subT]
 | cons a ts => simp [subT,List.flatMap_append]
noncomputable def pcT:Nat→Ct→Nat→List UInt8
 | 0,_,_ => []
 | n+1,x,d =>
  if x.kind=1 then nothT
  else if x.kind=2 then payT (n+1) x
  else if x.kind=3 then [98,111,116,104,32] ++ brT d [59] (x.sub.map fun y => pcT n y (d+1))
  else headT (n+1) x ++ subT d (x.sub.map fun y => pcT n y (d+1))
noncomputable def rcT:Nat→Ct→List UInt8
 | 0,_ => []
 | n+1,x =>
  if x.kind=1 then nothT
  else if x.kind=2 then payT (n+1) x
  else if x.kind=3 then [98,111,116,104,32,123,10] ++ mvT (rcT n (crt x 0)) ++ [59,10] ++ mvT (rcT n (crt x 1)) ++ [10,125]
  else if x.kind=5 ∨ x.kind=7 then headT (n+1) x ++ [32] ++ inT (rcT n (crt x 0)) ++ [32,101,108,115,101,32] ++ inT (rcT n (crt x 1))
  else headT (n+1) x ++ [32] ++ inT (rcT n (crt x 0))
def nSub (k:Int):Nat:=if k=3 ∨ k=5 ∨ k=7 then 2 else if k=1 ∨ k=2 then 0 else 1
def prB (b:UInt8):Bool:=decide (32≤b.toNat∧b.toNat≤122∧b.toNat ≠ 35)
def Prn (l:List UInt8):Prop := ∀ b ∈ l,prB b=true
theorem Prn.nil:Prn []:=fun _ h => by cases h
theorem Prn.append {a b:List UInt8} (h:Prn a) (k:Prn b):Prn (a ++ b):=fun c hc => (List.mem_append.1 hc).elim (h c) (k c)
theorem Prn.no {a:List UInt8} (h:Prn a):(10:UInt8) ∉ a:=fun q => absurd (h _ q) (by decide)
def OkC:Nat→Ct→Prop
 | 0,_ => False
 | n+1,x => (1≤x.kind∧x.kind≤10)∧x.sub.length=nSub x.kind∧(HasEx x.kind→OkX (n+1) x.expr∧Prn (rexT (n+1) x.expr))∧(x.kind=6→0≤x.date∧x.date≤99999) ∧
   (Prn (qn x.frm).data.toList∧Prn (qn x.too).data.toList∧Prn (qn x.name).data.toList)∧(8≤x.kind→(∀ d ∈ x.dates,0≤d∧d≤99999)∧x.dates.length≤200∧x.dates ≠ []) ∧ ∀ y ∈ x.sub,OkC n y
theorem figB_dg (n k:Nat):∀ c ∈ figB n k,48≤c.toNat∧c.toNat≤57:=by
 induction k generalizing n with
 | zero => intro c hc;cases hc
 | succ k ih =>
  intro c hc
  rcases List.mem_append.1 hc with hc | hc
  ·exact ih _ c hc
  ·rw [List.mem_singleton.1 hc,UInt8.toNat_ofNat'];omega
theorem Prn.figB (n k:Nat):Prn (figB n k):=fun c hc => by
 have:=figB_dg n k c hc
 unfold prB;simp;omega
theorem Prn.dtxt (d:Int):Prn (dtxt d):=by
 unfold Go.Proofs.YtijkefflpojmhaaGreatDoor.dtxt dateB
 exact ((((Prn.figB _ _).append fun c hc => by rw [List.mem_singleton.1 hc];decide).append (Prn.figB _ _)).append fun c hc => by rw [List.mem_singleton.1 hc];decide).append (Prn.figB _ _)
theorem Prn.commas {l:List (List UInt8)} (h:∀ a ∈ l,Prn a):Prn (commas l):=by
 induction l with
 | nil => exact Prn.nil
 | cons a l ih =>
  cases l with
  | nil => exact h a (List.mem_cons_self ..)
  | cons b l =>
   show Prn (a ++ [44,32] ++ Go.Proofs.YtijkefflpojmhaaGreatDoor.commas (b :: l))
   exact ((h a (List.mem_cons_self ..)).append fun c hc => by
    simp only [List.mem_cons,List.not_mem_nil,or_false] at hc
    rcases hc with rfl | rfl <;> decide).append (ih fun y hy => h y (List.mem_cons_of_mem _ hy))
theorem Prn.lit {l:List UInt8} (h:l.all prB=true):Prn l:=fun b hb => List.all_eq_true.1 h b hb
theorem Prn.onT (l:List Int):Prn (onT l):=by
 unfold Go.Proofs.YtijkefflpojmhaaGreatDoor.onT
 split
 ·exact Prn.nil
 ·exact (Prn.lit (by decide)).append (Prn.commas fun a ha => by obtain ⟨d,_,rfl⟩:=List.mem_map.1 ha;exact Prn.dtxt d)
theorem OkC.head {n:Nat} {x:Ct} (h:OkC (n+1) x) (h3:4≤x.kind):Prn (headT (n+1) x):=by
 obtain ⟨hk,_,he,_,⟨p1,_,p3⟩,_,_⟩:=h
 unfold headT
 split
 ·exact (Prn.lit (by decide)).append (he (.inr (.inl ‹_›))).2
 split
 ·exact (Prn.lit (by decide)).append (he (.inr (.inr (.inl ‹_›)))).2
 split
 ·exact (Prn.lit (by decide)).append (Prn.dtxt _)
 split
 ·exact (((Prn.lit (by decide)).append p3).append (Prn.lit (by decide))).append p1
 split
 ·exact ((((Prn.lit (by decide)).append p3).append (Prn.lit (by decide))).append p1).append (Prn.onT _)
 ·have hw:Prn (wUntil x.kind):=by unfold wUntil;split <;> exact Prn.lit (by decide)
  exact (hw.append (he (by unfold HasEx;omega)).2).append (Prn.onT _)
theorem OkC.pay {n:Nat} {x:Ct} (h:OkC (n+1) x) (h2:x.kind=2):Prn (payT (n+1) x):=by
 obtain ⟨hk,_,he,_,⟨p1,p2,p3⟩,_,_⟩:=h
 unfold payT
 exact (((((p1.append (Prn.lit (by decide))).append (he (.inl h2)).2).append (Prn.lit (by decide))).append p3).append (Prn.lit (by decide))).append p2
theorem crt_mem {x:Ct} {i:Nat} (h:i < x.sub.length):crt x i ∈ x.sub:=by
 unfold crt;rw [List.getElem?_eq_getElem h];exact List.getElem_mem _
theorem sub_two {x:Ct} (h:x.sub.length=2):x.sub=[crt x 0,crt x 1]:=by
 unfold crt
 match x.sub,h with
 | [a,b],_ => rfl
theorem sub_one {x:Ct} (h:x.sub.length=1):x.sub=[crt x 0]:=by
 unfold crt
 match x.sub,h with
 | [a],_ => rfl
theorem spc_two (d:Nat):spc (d+1)=List.replicate (2*d) 32 ++ [32,32]:=by
 unfold spc
 rw [show 2*(d+1)=2*d+2 by omega,← List.replicate_append_replicate];rfl
theorem br_in (d:Nat) (t:List UInt8):brT d [] [ind (2*(d+1)) t]=ind (2*d) (inT t):=by
 unfold inT
 rw [ind_append,ind_append,ind_mvT,show ([123,10]:List UInt8)=[123] ++ [10] from rfl,show ([10,125]:List UInt8)=[10] ++ [125] from rfl,ind_append,ind_append,ind_lf,ind_no (k:=2*d) (l:=[123]) (by simp),ind_no (k:=2*d) (l:=[125]) (by simp)]
 unfold brT
 rw [show brL d [] [ind (2*(d+1)) t]=[10] ++ spc (d+1) ++ ind (2*(d+1)) t by simp [brL],spc_two,show 2*d+2=2*(d+1) by omega]
 simp [spc,List.append_assoc]
theorem br_both (d:Nat) (s t:List UInt8):brT d [59] [ind (2*(d+1)) s,ind (2*(d+1)) t]=ind (2*d) ([123,10] ++ mvT s ++ [59,10] ++ mvT t ++ [10,125]):=by
 rw [ind_append,ind_append,ind_append,ind_append,ind_mvT,ind_mvT,show ([123,10]:List UInt8)=[123] ++ [10] from rfl,show ([10,125]:List UInt8)=[10] ++ [125] from rfl,show ([59,10]:List UInt8)=[59] ++ [10] from rfl,ind_append,ind_append,ind_append,ind_lf,ind_no (k:=2*d) (l:=[123]) (by simp),ind_no (k:=2*d) (l:=[125]) (by simp),ind_no (k:=2*d) (l:=[59]) (by simp)]
 unfold brT
 rw [show brL d [59] [ind (2*(d+1)) s,ind (2*(d+1)) t]=[10] ++ spc (d+1) ++ ind (2*(d+1)) s ++ ([59] ++ [10] ++ spc (d+1) ++ ind (2*(d+1)) t) by simp [brL],spc_two,show 2*d+2=2*(d+1) by omega]
 simp [spc,List.append_assoc]
theorem pc_rc:∀ (n:Nat) (x:Ct) (d:Nat),OkC n x→pcT n x d=ind (2*d) (rcT n x):=by
 intro n
 induction n with
 | zero => intro x d h;exact h.elim
 | succ n ih =>
  intro x d h
  have hh:=h
  obtain ⟨hk,hl,_,_,_,_,hs⟩:=h
  rw [pcT,rcT]
  by_cases h1:x.kind=1
  ·rw [if_pos h1,if_pos h1,ind_no (by simp [nothT])]
  rw [if_neg h1,if_neg h1]
  by_cases h2:x.kind=2
  ·rw [if_pos h2,if_pos h2,ind_no (hh.pay h2).no]
  rw [if_neg h2,if_neg h2]
  by_cases h3:x.kind=3
  ·rw [if_pos h3,if_pos h3]
   have h2l:x.sub.length=2:=by rw [hl,h3];rfl
   have m0:=ih _ (d+1) (hs _ (crt_mem (i:=0) (by omega)))
   have m1:=ih _ (d+1) (hs _ (crt_mem (i:=1) (by omega)))
   rw [show (x.sub.map fun y => pcT n y (d+1))=[pcT n (crt x 0) (d+1),pcT n (crt x 1) (d+1)] by rw [sub_two h2l];rfl,m0,m1,br_both]
   rw [show ([98,111,116,104,32,123,10] ++ mvT (rcT n (crt x 0)) ++ [59,10] ++ mvT (rcT n (crt x 1)) ++ [10,125]:List UInt8)=[98,111,116,104,32] ++ ([123,10] ++ mvT (rcT n (crt x 0)) ++ [59,10] ++ mvT (rcT n (crt x 1)) ++ [10,125]) by simp,ind_append _ [98,111,116,104,32],ind_no (k:=2*d) (l:=[98,111,116,104,32]) (by simp)]
  rw [if_neg h3,if_neg h3]
  have hhd:=(hh.head (by omega)).no
  by_cases h5:x.kind=5 ∨ x.kind=7
  ·rw [if_pos h5]
   have h2l:x.sub.length=2:=by rw [hl];unfold nSub;rw [if_pos (by omega)]
   have m0:=ih _ (d+1) (hs _ (crt_mem (i:=0) (by omega)))
   have m1:=ih _ (d+1) (hs _ (crt_mem (i:=1) (by omega)))
   rw [show (x.sub.map fun y => pcT n y (d+1))=[pcT n (crt x 0) (d+1),pcT n (crt x 1) (d+1)] by rw [sub_two h2l];rfl,m0,m1]
   rw [ind_append,ind_append,ind_append,ind_append,ind_no hhd,ind_no (k:=2*d) (l:=[32]) (by simp),ind_no (k:=2*d) (l:=[32,101,108,115,101,32]) (by simp),← br_in,← br_in]
   simp [subT]
  ·rw [if_neg h5]
   have h1l:x.sub.length=1:=by rw [hl];unfold nSub;rw [if_neg (by omega),if_neg (by omega)]
   have m0:=ih _ (d+1) (hs _ (crt_mem (i:=0) (by omega)))
   rw [show (x.sub.map fun y => pcT n y (d+1))=[pcT n (crt x 0) (d+1)] by rw [sub_one h1l];rfl,m0]
   rw [ind_append,ind_append,ind_no hhd,ind_no (k:=2*d) (l:=[32]) (by simp),← br_in]
   simp [subT]
end Go.Proofs.YtijkefflpojmhaaGreatDoor
