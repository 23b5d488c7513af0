/-
  The map of the shapes as it is laid. No condition.
-/
import Derived.Test.YtkobkpepgdddeaaGreatDoorZbe
import Derived.Maps.Keyed
import Derived.JoinedTies
import Derived.LaidMore
import Derived.MakeChecks
namespace Go.Proofs.YtkobkpepgdddeaaGreatDoor
open Go.RowKit Go.ChangeShapes Go.WideShapes Go.Deep
theorem sql {w:World} {a:Addr} {v:Value} (h:w.cell? a=some v):a.block < w.heap.size:=by
  unfold World.cell? at h
  by_cases hl:a.block < w.heap.size
  · exact hl
  · rw[Array.getElem?_eq_none (by omega)] at h;simp at h
theorem sqm (g o n:Nat):(⟨g,o,none⟩:Addr).add n=⟨g,o+n,none⟩:=by
  unfold Addr.add
  split
  · rename_i h;subst h;rfl
  · rfl
theorem sqg {w:World} {x:Addr} {v:Value} (h:w.cell? x=some v):x.spot=none:=by
  unfold World.cell? at h
  split at h
  · split at h
    · cases h
    · rename_i hs;simpa using hs
  · cases h
theorem sqi:Tryz.prog.globalNamed "novation/observable.shapes"=some 0:=by kernel_rfl
theorem sqj:(Tryz.prog.globals[0]?).map (·.type)=some 163:=by kernel_rfl
theorem sqc:Tryz.prog.cellsOf 161=2:=by kernel_rfl
theorem sqa:Tryz.prog.cellsOf 159=1:=by kernel_rfl
theorem sqb:Tryz.prog.cellsOf 107=1:=by kernel_rfl
def shpD {H:Type} (ps:List Int) (own:Int):DataW H := .agg [.slice (ps.map fun p => .lit (.int .u8 p)) [],.lit (.int .u8 own)]
set_option maxRecDepth 100000 in
theorem sqd {H:Type} (k:Int):(shpL k=none→(Rows.laid_novation_observable_shapes (H:=H)).atKey (.int .u8 k) .nil = .nil)∧(∀ ps own,shpL k=some (ps,own)→(Rows.laid_novation_observable_shapes (H:=H)).atKey (.int .u8 k) .nil=shpD ps own):=by
  by_cases h4:k=4
  · subst h4
    exact ⟨fun h=>by simp [shpL] at h,fun ps own h=>by simp [shpL] at h;obtain ⟨rfl,rfl⟩:=h;rfl⟩
  by_cases h5:k=5
  · subst h5
    exact ⟨fun h=>by simp [shpL] at h,fun ps own h=>by simp [shpL] at h;obtain ⟨rfl,rfl⟩:=h;rfl⟩
  by_cases h6:k=6
  · subst h6
    exact ⟨fun h=>by simp [shpL] at h,fun ps own h=>by simp [shpL] at h;obtain ⟨rfl,rfl⟩:=h;rfl⟩
  by_cases h7:k=7
  · subst h7
    exact ⟨fun h=>by simp [shpL] at h,fun ps own h=>by simp [shpL] at h;obtain ⟨rfl,rfl⟩:=h;rfl⟩
  by_cases h8:k=8
  · subst h8
    exact ⟨fun h=>by simp [shpL] at h,fun ps own h=>by simp [shpL] at h;obtain ⟨rfl,rfl⟩:=h;rfl⟩
  by_cases h9:k=9
  · subst h9
    exact ⟨fun h=>by simp [shpL] at h,fun ps own h=>by simp [shpL] at h;obtain ⟨rfl,rfl⟩:=h;rfl⟩
  by_cases h11:k=11
  · subst h11
    exact ⟨fun h=>by simp [shpL] at h,fun ps own h=>by simp [shpL] at h;obtain ⟨rfl,rfl⟩:=h;rfl⟩
  by_cases h12:k=12
  · subst h12
    exact ⟨fun h=>by simp [shpL] at h,fun ps own h=>by simp [shpL] at h;obtain ⟨rfl,rfl⟩:=h;rfl⟩
  by_cases h13:k=13
  · subst h13
    exact ⟨fun h=>by simp [shpL] at h,fun ps own h=>by simp [shpL] at h;obtain ⟨rfl,rfl⟩:=h;rfl⟩
  by_cases h14:k=14
  · subst h14
    exact ⟨fun h=>by simp [shpL] at h,fun ps own h=>by simp [shpL] at h;obtain ⟨rfl,rfl⟩:=h;rfl⟩
  by_cases h15:k=15
  · subst h15
    exact ⟨fun h=>by simp [shpL] at h,fun ps own h=>by simp [shpL] at h;obtain ⟨rfl,rfl⟩:=h;rfl⟩
  refine ⟨fun _ => ?_,fun ps own h => ?_⟩
  · simp [Rows.laid_novation_observable_shapes,DataW.atKey,Lit.sameKey,Ne.symm h4,Ne.symm h5,Ne.symm h6,Ne.symm h7,Ne.symm h8,Ne.symm h9,Ne.symm h11,Ne.symm h12,Ne.symm h13,Ne.symm h14,Ne.symm h15]
  · unfold shpL at h
    rw[if_neg (by omega),if_neg (by omega),if_neg (by omega),if_neg (by omega),if_neg (by omega)] at h
    cases h
set_option maxRecDepth 100000 in
theorem sqe {H:Type} {enc:TypeId × Value→H} {w:World} {base:Nat} {spare:Nat→Bool} {held:Bool} {fuel:Nat} {cs:List Value} {ps:List Int} {own:Int} {q:List MemPlace} (hn:ps ≠ [])
    (h:DataW.trod enc Tryz.prog w base spare held fuel 161 cs=some (shpD ps own,q)):∃ g o cap,cs = [.slice (some ⟨g,o,none⟩) ps.length cap,.int .u8 own]∧g < w.heap.size∧∀ i,i < ps.length→w.cell? ⟨g,o+i,none⟩=some (.int .u8 (ps[i]?.getD 0)):=by
  obtain ⟨xs,n,_,hx,hlen,hxl,hf⟩:=DataW.trod_struct Tryz.underlying161 h
  rw[sqc] at hlen
  match cs,hlen with
  | [c0,c1],_ =>
    match xs,hxl with
    | [y0,y1],_ =>
      have h0:=hf 0 ⟨"parts",159,0,false,"","novation/observable",0⟩ rfl
      have h1:=hf 1 ⟨"own",107,1,false,"","novation/observable",24⟩ rfl
      simp only [sqa,sqb,List.drop_succ_cons,List.drop_zero,List.take_succ_cons,List.take_zero,List.getElem?_cons_succ,List.getElem?_cons_zero] at h0 h1
      simp only [shpD,Prod.mk.injEq,DataW.agg.injEq,List.map_cons,List.map_nil,List.cons.injEq,and_true] at hx
      obtain ⟨⟨hy0,hy1⟩,_⟩:=hx
      obtain ⟨k,e1,e2,_⟩:=DataW.trod_int Tryz.underlying107 h1
      simp only [List.cons.injEq,and_true] at e1
      subst e1
      rw[e2] at hy1
      simp only [DataW.lit.injEq,Lit.int.injEq,true_and] at hy1
      subst hy1
      rcases DataW.trod_slice Tryz.underlying159 h0 with ⟨_,hx0⟩ | ⟨ad,len,cap,elems,rest,m,hfm,hcs,hx0,_,_,_,hel,hat,_,_⟩
      · rw[hx0] at hy0
        cases hy0
      · simp only [List.cons.injEq,and_true] at hcs
        subst hcs
        rw[hx0] at hy0
        simp only [DataW.slice.injEq] at hy0
        obtain ⟨hy0,_⟩:=hy0
        rw[sqb] at hat
        have hpl:ps.length=len:=by
          have:=congrArg List.length hy0
          simpa [hel] using this
        have hp0:0 < len:=by
          rw[← hpl];exact List.length_pos_iff.2 hn
        have hone:∀ i,i < len→w.cell? (ad.add i)=some (.int .u8 (ps[i]?.getD 0)):=fun i hi=>by
          have ha:=hat i hi
          rw[List.getElem?_eq_getElem (by omega),Nat.mul_one] at ha
          obtain ⟨cs',hc,ht⟩:=Option.bind_eq_some_iff.1 ha
          obtain ⟨hl1,_,hcell⟩:=World.cells?_some hc
          obtain ⟨k,e1,e2,_⟩:=DataW.trod_int Tryz.underlying107 ht
          subst e1
          have h2:=hcell 0 (by decide)
          have hz:(ad.add i).add 0=ad.add i:=by simp [Addr.add]
          rw[hz] at h2
          rw[h2]
          have e3:(elems.map (·.1))[i]?=(ps.map fun p=>(DataW.lit (.int .u8 p):DataW H))[i]?:=by rw[hy0]
          rw[List.getElem?_map,List.getElem?_map,List.getElem?_eq_getElem (show i < elems.length by omega),List.getElem?_eq_getElem (show i < ps.length by omega)] at e3
          simp only [Option.map_some,Option.some.injEq] at e3
          rw[e2] at e3
          simp only [DataW.lit.injEq,Lit.int.injEq,true_and] at e3
          rw[List.getElem?_eq_getElem (show i < ps.length by omega)]
          simp [e3]
        have h00:=hone 0 hp0
        have hz:ad.add 0=ad:=by simp [Addr.add]
        rw[hz] at h00
        have hsp:ad.spot=none:=sqg h00
        have hbl:ad.block < w.heap.size:=sql h00
        obtain ⟨g,o,sp⟩:=ad
        subst hsp
        refine ⟨g,o,cap,by rw[hpl],hbl,fun i hi=>?_⟩
        have:=hone i (by omega)
        rwa [sqm] at this
theorem sqh {H:Type} {P:Program} {k:TypeId} {R:Value→Option (DataW H × List MemPlace)} {es:Array MapEntry} {clock:Nat} (F:Go.WideElems.Fit P k R es clock) {a b:MapEntry} (ha:a ∈ es.toList) (hb:b ∈ es.toList) (hne:a ≠ b):a.key ≠ b.key:=by
  have hp:=((Go.MapKept.stamped_iff es clock).1 F.stamped).2.2
  obtain ⟨i,hi,rfl⟩:=List.getElem_of_mem ha
  obtain ⟨j,hj,rfl⟩:=List.getElem_of_mem hb
  rw[List.pairwise_iff_getElem] at hp
  rcases Nat.lt_trichotomy i j with h | h | h
  · exact hp i j hi hj h
  · subst h;exact absurd rfl hne
  · exact fun e=>hp j i hj hi h e.symm
set_option maxRecDepth 100000 in
theorem sqf {v:Value} {l:List Value} (hf:v.formed Tryz.prog 161=true) (hl:v.cells.toList=l):v = .agg l.toArray:=by
  unfold Value.formed at hf
  rw[Tryz.underlying161] at hf
  cases v <;> simp at hf
  rw[← hl];rfl
theorem sqk (w:World):(zeroValue 161).run Tryz.prog w = .ok (.agg #[.slice none 0 0,.int .u8 0]) w:=by kernel_rfl
set_option maxRecDepth 100000 in
theorem laidShp {laid rest:List (String × DataW Unit)} (hl:laid=("novation/observable.shapes",Rows.laid_novation_observable_shapes) :: rest) {W:World} (h:laidMet Tryz.prog laid W):zhp W:=by
  subst hl
  obtain ⟨ps,⟨g0,t0,cs0,f0,p0,q0,hg0,ht0,hv0,hd0,_,_⟩,_,_⟩:=h
  obtain rfl:=Option.some.inj (sqi.symm.trans hg0)
  obtain rfl:=Option.some.inj (sqj.symm.trans ht0)
  rcases Go.WideElems.open_map Tryz.underlying163 hd0 with ⟨_,hx⟩ | ⟨bm,es,clock,m,rfl,hcs,hb,_,F,hx⟩
  · simp [Rows.laid_novation_observable_shapes] at hx
  simp only [Prod.mk.injEq] at hx
  have hcell:W.cell? ⟨0,0,none⟩=some (.map (some bm)):=by
    have:=World.var?_cell hg0 hv0 0
    rw[Array.eq_one_of_toList hcs] at this
    simpa using this
  have hbl:bm < W.heap.size:=(Array.getElem?_eq_some_iff.1 hb).1
  refine ⟨bm,hcell,fun k hk0 hk1 => ?_⟩
  have hkey:keyOf Tryz.prog 5 (.int .u8 k)=some (.int .u8 k):=Maps.keyOf_int_mk Tryz.underlying5 (by
    have h0:IntKind.u8.min=0:=rfl
    have h1:IntKind.u8.max=255:=rfl
    simp [Lit.wf];omega)
  have look:∀ W',Below W.heap.size W W'→_:=fun W' hW'=>Maps.fit_look (w:=W') true (Maps.int_keyed Tryz.underlying5) Tryz.underlying163 (sqk W') ((hW'.block _ hbl).trans hb) F hkey
  refine ⟨fun hs W' hW' => ?_,fun psl own hs => ?_⟩
  · rcases look W' hW' with ⟨hr,_,_⟩ | ⟨e0,y,_,_,_,hR,hat,_⟩
    · simpa using hr
    · have h2:=hat .nil
      rw[← hx.1,(sqd k).1 hs] at h2
      unfold Go.WideElems.elemAt at hR
      split at hR
      · obtain ⟨xs,n,_,hxy,_⟩:=DataW.trod_struct Tryz.underlying161 hR
        rw[hxy] at h2
        cases h2
      · cases hR
  · rcases look W (Below.refl _ _) with ⟨_,_,hat⟩ | ⟨e0,y,hm0,hk0',_,hR,hat,_⟩
    · have h2:=hat .nil
      rw[← hx.1,(sqd k).2 psl own hs] at h2
      cases h2
    · have h2:=hat .nil
      rw[← hx.1,(sqd k).2 psl own hs] at h2
      unfold Go.WideElems.elemAt at hR
      split at hR
      · rename_i hfm
        obtain ⟨y1,y2⟩:=y
        have hy1:shpD psl own=y1:=h2
        subst hy1
        obtain ⟨g,o,cap,hcs2,hg,hcells⟩:=sqe (by
          intro e
          subst e
          unfold shpL at hs
          (repeat' split at hs) <;> simp at hs) hR
        have hval:e0.val = .agg #[.slice (some ⟨g,o,none⟩) psl.length cap,.int .u8 own]:=by
          exact sqf hfm hcs2
        refine ⟨g,o,cap,hg,fun W' hW' => ?_,hcells⟩
        rcases look W' hW' with ⟨_,hne,_⟩ | ⟨e1,y1,hm1,hk1',hr,_,_,_⟩
        · exact absurd hk0' (hne e0 hm0)
        · have e01:e1=e0:=by
            by_cases h:e1=e0
            · exact h
            · exfalso
              exact sqh F hm1 hm0 h (hk1'.trans hk0'.symm)
          rw[e01,hval] at hr
          simpa using hr
      · cases hR
end Go.Proofs.YtkobkpepgdddeaaGreatDoor
