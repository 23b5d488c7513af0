/-
  A node that is well-formed: the program's node. No condition but the size. A range over a function that yields one value after another: a law of its own, out of the kit's law of the statement. No condition. The nodes of a contract, one after another: visit, nodes. No condition but the size. The nodes of a contract as an iterator: nodes. No condition but the size. The program's Size of a contract. No condition but the size. The nodes of a contract: what holds of the whole holds of each. No program. The program's Check of a contract. No condition but CtIn. PrintExpr of the program and of the reference: they answer alike. No condition but the size. Print of the program and of the reference: they answer alike. No condition but the size. The examples' contracts: their texts, that they are valid. No program. The laws of the printer: number, pair; the examples' contracts in memory. No condition. The laws of the printer: alive holds. No condition. The lines of a contract's text, in plain words: no line is empty or ends with a blank, each has two blanks in front for each brace that is open. No program. The lines of a text, byte after byte: what a walk asks of a step. No program.
-/
import Derived.Test.YtijkefflpojmhaaDoorZaj
import Derived.Test.YtijkefflpojmhaaDoorZak
import Derived.Test.YtijkefflpojmhaaDoorZal
import Derived.Test.YtijkefflpojmhaaDoorZam
import Derived.Test.YtijkefflpojmhaaDoorZan
import Derived.Test.YtijkefflpojmhaaDoorZaf
import Derived.RangeFuncNested
import Derived.RangeFuncBound
import Derived.RangeFuncCalls
import Derived.RangeFuncLeaves
import Derived.RangeFuncBox
import Derived.Shelf.Abstract
import Derived.WalkKit
import Derived.OwnWalkIn
import Derived.TacticsInMore
import Derived.LoopNIn
import Derived.LoopIn
import Derived.Outline
import Derived.RegionIn
import Derived.Stop.RegionWithIn
import Derived.Test.YtijkefflpojmhaaDoorZai
import Derived.Test.YtijkefflpojmhaaDoorZae
namespace Go.Proofs.YtijkefflpojmhaaDoor
open Go.RowKit

theorem pnode_any {Wg : World} (hpt : PtsAt Wg) (n : Nat) (x : Ct) (cs : List Value) (w : World) (h : CtIn n x cs w Wg) : Calls Tryd.prog 30 #[.agg cs.toArray] w (BelB w (nodeX x)) := by
  by_cases h1 : x.kind = 1 ∨ x.kind = 2 ∨ x.kind = 3
  · exact pnode_s1 hpt n x cs w h h1
  by_cases h2 : x.kind = 4 ∨ x.kind = 5
  · exact pnode_s2 hpt n x cs w h h2
  by_cases h3 : x.kind = 6 ∨ x.kind = 7
  · exact pnode_s3 hpt n x cs w h h3
  by_cases h4 : x.kind = 8 ∨ x.kind = 9 ∨ x.kind = 10
  · exact pnode_s4 hpt n x cs w h h4
  refine pnode_none hpt n x cs w h ?_
  unfold ptsL
  rw [if_neg (by omega), if_neg (by omega), if_neg (by omega), if_neg (by omega), if_neg (by omega), if_neg (by omega), if_neg (by omega), if_neg (by omega), if_neg (by omega), if_neg (by omega)]

end Go.Proofs.YtijkefflpojmhaaDoor

namespace Go.Proofs.YtijkefflpojmhaaDoor
open Go.RowKit Go.Shelf
attribute [local go_sem] Oper.semAt_some

/-- What was there from a block on stays as it was. -/
def FrmW (B : Nat) (W W2 : World) : Prop := W.heap.size ≤ W2.heap.size ∧ ∀ q, B ≤ q → q < W.heap.size → W2.heap[q]? = W.heap[q]?
theorem FrmW.refl (B : Nat) (W : World) : FrmW B W W := ⟨Nat.le_refl _, fun _ _ _ => rfl⟩
theorem FrmW.trans {B : Nat} {W W1 W2 : World} (h1 : FrmW B W W1) (h2 : FrmW B W1 W2) : FrmW B W W2 :=
  ⟨Nat.le_trans h1.1 h2.1, fun q hq hl => (h2.2 q hq (Nat.lt_of_lt_of_le hl h1.1)).trans (h1.2 q hq hl)⟩
theorem FrmW.grown {B : Nat} {W W2 : World} (h : W.grownBy W2 none) : FrmW B W W2 := ⟨h.size, fun q _ hl => h.block q hl (by simp)⟩
theorem FrmW.below {B : Nat} {W W2 : World} (h : Below W.heap.size W W2) : FrmW B W W2 := ⟨h.size, fun q _ hl => h.block q hl⟩
theorem FrmW.set {B : Nat} {W : World} {p : Addr} (hp : p.block < B) (v : Value) : FrmW B W (W.setCell p v) :=
  ⟨by simp [World.setCell], fun q hq _ => Below.heap_setCell _ _ _ _ (by omega)⟩
/-- What stays when new blocks are laid. -/
def StaysN (J : Nat → World → Prop) : Prop := ∀ s W W', J s W → W.grownBy W' none → J s W'
theorem keeps_noneN {W W2 : World} (h : W.grownBy W2 none) {k : Nat} {o : Obj} (hk : W.heap[k]? = some o) : W2.heap[k]? = some o :=
  (h.block k (Array.getElem?_eq_some_iff.1 hk).1 (by simp)).trans hk
theorem roundIn_wide {n m : Nat} {P : Program} {l : Nat} {f : FuncId} {tmps : Array Value} {assign body : Code} {w : World} {R : Ending → World → Prop}
    (h : RoundIn Fence.wide n P l f tmps assign body w R) : RoundIn Fence.wide m P l f tmps assign body w R :=
  ⟨h.1, fun c cs _ => h.2 c cs (room_wide _)⟩
theorem yieldAt_wide {n m : Nat} {P : Program} {l : Nat} {args : Array Value} {w : World} {R : Ending → World → Prop} (h : YieldAt Fence.wide n P l args w R) : YieldAt Fence.wide m P l args w R := by
  obtain ⟨fn, tmps, assign, body, hy, hr⟩ := h
  exact ⟨fn, tmps, assign, body, hy, roundIn_wide hr⟩
/-- An iterator: it yields N values, the s-th one of a kind; J is what holds ahead of the s-th one. -/
def SeqNx (P : Program) (n gf : Nat) (lb : Array Value) (Arg : Nat → Value → Prop) (N : Nat) (E : Nat → World → Prop) (B : Nat) : Prop :=
  ∀ (l : Nat) (J : Nat → World → Prop) (Jx : World → Prop) (W : World), StaysN J → (∀ W1 W2, Jx W1 → W1.grownBy W2 none → Jx W2) → (∀ s W1, J s W1 → E s W1) →
    (∀ s v W1, J s W1 → s < N → Arg s v → YieldAt Fence.wide (n - 1) P l #[v] W1 fun e W2 => (e = .returned (.bool true) ∧ FrmW B W1 W2 ∧ J (s + 1) W2) ∨ (e = .returned (.bool false) ∧ Jx W2)) →
    B ≤ W.heap.size → J 0 W → CallsIn Fence.wide n P gf (#[.func (.yield l) #[] #[]] ++ lb) W fun e W2 => (∃ v, e = .returned v) ∧ (J N W2 ∨ Jx W2)
/-- How a round may be left. -/
def RoundNx (B s : Nat) (I : Nat → World → Prop) (Ix : World → Prop) (W : World) : Exit → Act → World → Prop
  | .normal, _, W2 => FrmW B W W2 ∧ I (s + 1) W2
  | .ret, _, W2 => FrmW B W W2 ∧ Ix W2
  | _, _, _ => False

theorem range_nx {P : Program} {n : Nat} {g : Operand} {ps : Array Tmp} {assign body : Code} {Q : Exit → Act → World → Prop} {a : Act} {w : World} (h1 : 1 ≤ n) {gf : Nat} {lb : Array Value}
    (hg : a.eval g = .func (.func gf) #[] lb) (eg : ∀ args w, (callFunc gf args).run P w = .ok (.enter gf args) w) {Arg : Nat → Value → Prop} {N : Nat} {E : Nat → World → Prop}
    (hseq : SeqNx P (n - 1) gf lb Arg N E w.heap.size) (hps : ps.size = 1)
    (I : Nat → World → Prop) (Ix : World → Prop) (hI : OwnFrom w.heap.size I) (hIx : OwnFrom w.heap.size (fun (_ : Unit) W => Ix W)) (hE : ∀ s W, I s W → E s W) (h0 : I 0 w) (a₁ : Value → Nat → Act) (box : Value → Obj)
    (hassign : ∀ (l : Nat) (v : Value) (s : Nat) (W : World) (K : Act → World → Prop), Arg s v → I s W → K (a₁ v W.heap.size) (W.alloc (box v)) → assign.wpIn (Fence.wide.inRound l) (n - 1 - 1) P (Exit.then K (fun _ _ _ => False)) { tmps := (ps.zip #[v]).foldl (fun t (p, v) => t.setIfInBounds p v) a.tmps, defers := [] } W)
    (hbody : ∀ (l s : Nat) (v : Value) (b : Nat) (W : World), I s W → s < N → Arg s v → w.heap.size ≤ b → W.heap[b]? = some (box v) → body.wpIn (Fence.wide.inRound l) (n - 1 - 1) P (RoundNx w.heap.size s I Ix W) (a₁ v b) W)
    (hdone : ∀ (D : Nat) (W : World), w.heap.size ≤ D → I N W → W.heap[D]? = some (.deferred (some [])) → Q .normal { a with defers := { target := .collected D, args := #[] } :: a.defers } W)
    (hstop : ∀ (D : Nat) (W : World), w.heap.size ≤ D → Ix W → W.heap[D]? = some (.deferred (some [])) → Code.ret.wpIn Fence.wide n P Q { a with defers := { target := .collected D, args := #[] } :: a.defers } W) :
    (Code.rangeFunc g ps assign body).wpIn Fence.wide n P Q a w := by
  refine wpIn_rangeFunc fun fn hfn => ?_
  obtain ⟨L, hL⟩ : ∃ L : LoopState → Option Code → Loop, L = fun st pe => { state := st, pending := pe, fn, tmps := a.tmps, params := ps, assign, body, defers := w.heap.size } := ⟨_, rfl⟩
  obtain ⟨V, hV⟩ : ∃ V, V = (w.alloc (.deferred (some []))).alloc (.loop (L .ready none)) := ⟨_, rfl⟩
  have hloop : V.heap[w.heap.size + 1]? = some (.loop (L .ready none)) := by
    rw [hV]
    have := World.alloc_heap_new (w.alloc (.deferred (some []))) (.loop (L .ready none))
    rwa [World.size_alloc] at this
  have hdef : V.heap[w.heap.size]? = some (.deferred (some [])) := by
    rw [hV]; exact (Below.heap_alloc _ _ _ (by simp)).trans (World.alloc_heap_new w _)
  have hIV : I 0 V := by rw [hV]; exact hI.alloc _ (hI.alloc _ h0)
  have hVs : w.heap.size ≤ V.heap.size := by rw [hV]; simp; omega
  refine ⟨w.heap.size + 1, [{ target := .collected w.heap.size, args := #[] }], V, { target := .fn (.func gf) lb, args := #[.func (.yield (w.heap.size + 1)) #[] #[]] }, V, gf,
    #[.func (.yield (w.heap.size + 1)) #[] #[]] ++ lb, V, ?_, ?_, fun _ _ => trivial, ?_, fun _ => h1, ?_⟩
  · rw [hV, hL]; exact run_enterLoop_outer _ _ _ _ _
  · simp only [resolve, hg]
    simp [go_sem]
  · simp [invoke, go_sem, eg]
  have turn : ∀ (W : World) (o o' : Obj), W.heap[w.heap.size + 1]? = some o → o.isCells = false → ∀ s, I s W → I s (W.putObj (w.heap.size + 1) o') := fun W o o' ho hc s hs => hI.putObj o' hs (by omega) ho hc
  have turnx : ∀ (W : World) (o o' : Obj), W.heap[w.heap.size + 1]? = some o → o.isCells = false → Ix W → Ix (W.putObj (w.heap.size + 1) o') := fun W o o' ho hc hs => hIx.putObj (s := ()) o' hs (by omega) ho hc
  have step := hseq (w.heap.size + 1) (fun s W => I s W ∧ W.heap[w.heap.size + 1]? = some (.loop (L .ready none)) ∧ W.heap[w.heap.size]? = some (.deferred (some [])))
    (fun W => Ix W ∧ W.heap[w.heap.size + 1]? = some (.loop (L .done (some .ret))) ∧ W.heap[w.heap.size]? = some (.deferred (some []))) V
    (fun s W W2 hs hgr => ⟨hI s W W2 none hs.1 hgr (fun r e => by cases e), keeps_noneN hgr hs.2.1, keeps_noneN hgr hs.2.2⟩)
    (fun W W2 hs hgr => ⟨hIx () W W2 none hs.1 hgr (fun r e => by cases e), keeps_noneN hgr hs.2.1, keeps_noneN hgr hs.2.2⟩)
    (fun s W hs => hE s W hs.1) ?_ hVs ⟨hIV, hloop, hdef⟩
  · refine step.mono ?_
    rintro e W2 ⟨⟨v, rfl⟩, (⟨hi, hl, hk⟩ | ⟨hi, hl, hk⟩)⟩
    · have hend := run_endLoop (P := P) hl (by rw [hL]; simp)
      rw [hL] at hend
      exact ⟨none, _, hend, hdone _ _ (Nat.le_refl _) (turn W2 _ _ hl rfl N hi) ((World.putObj_heap_other (by omega)).trans hk)⟩
    · have hend := run_endLoop (P := P) hl (by rw [hL]; simp)
      rw [hL] at hend
      exact ⟨some .ret, _, hend, hstop _ _ (Nat.le_refl _) (turnx W2 _ _ hl rfl hi) ((World.putObj_heap_other (by omega)).trans hk)⟩
  · rintro s v W ⟨hi, hl, hk⟩ hgo harg
    have hlt : w.heap.size + 1 < W.heap.size := (Array.getElem?_eq_some_iff.1 hl).1
    have hy := run_yield (P := P) (args := #[v]) hl (by rw [hL]; simp [hps])
    rw [hL] at hy
    obtain ⟨WA, hWA⟩ : ∃ WA, WA = W.alloc (box v) := ⟨_, rfl⟩
    have hAs : WA.heap.size = W.heap.size + 1 := by rw [hWA]; simp
    have hAo : ∀ q, q < W.heap.size → WA.heap[q]? = W.heap[q]? := fun q hq => by rw [hWA]; exact Below.heap_alloc _ _ _ hq
    have hlA : WA.heap[w.heap.size + 1]? = some (.loop (L .ready none)) := (hAo _ hlt).trans hl
    have hkA : WA.heap[w.heap.size]? = some (.deferred (some [])) := (hAo _ (by omega)).trans hk
    have hbA : WA.heap[W.heap.size]? = some (box v) := by rw [hWA]; exact World.alloc_heap_new W (box v)
    have hib := turn WA _ (.loop { L .ready none with state := .busy }) hlA rfl s (by rw [hWA]; exact hI.alloc _ hi)
    have hl2 : (WA.putObj (w.heap.size + 1) (.loop { L .ready none with state := .busy })).heap[w.heap.size + 1]? = some (.loop { L .ready none with state := .busy }) := World.putObj_heap_same (by omega)
    have hk2 : (WA.putObj (w.heap.size + 1) (.loop { L .ready none with state := .busy })).heap[w.heap.size]? = some (.deferred (some [])) := (World.putObj_heap_other (by omega)).trans hkA
    refine ⟨fn, _, assign, body, hy, roundIn_of_wpIn hfn (hassign _ v s W _ harg hi ⟨_, by rw [← hWA]; exact run_beginRound hlA (by rw [hL]), ?_⟩)⟩
    refine wpIn_mono (hbody _ s v W.heap.size _ hib hgo harg (by omega) ((World.putObj_heap_other (by omega)).trans hbA)) ?_
    intro e a3 W3 hp
    have shut : ∀ (jump : Option Code), FrmW w.heap.size (WA.putObj (w.heap.size + 1) (.loop { L .ready none with state := .busy })) W3 →
        W3.heap[w.heap.size + 1]? = some (.loop { L .ready none with state := .busy }) ∧
        (Instr.endRound (w.heap.size + 1) jump).run P W3 = .ok (.bool jump.isNone) (W3.putObj (w.heap.size + 1) (.loop (L (if jump.isNone then .ready else .done) jump))) ∧
        (W3.putObj (w.heap.size + 1) (.loop (L (if jump.isNone then .ready else .done) jump))).heap[w.heap.size + 1]? = some (.loop (L (if jump.isNone then .ready else .done) jump)) ∧
        (W3.putObj (w.heap.size + 1) (.loop (L (if jump.isNone then .ready else .done) jump))).heap[w.heap.size]? = some (.deferred (some [])) := fun jump hkf => by
      have hl3 := (hkf.2 _ (by omega) (Array.getElem?_eq_some_iff.1 hl2).1).trans hl2
      have hd3 := (hkf.2 _ (Nat.le_refl _) (Array.getElem?_eq_some_iff.1 hk2).1).trans hk2
      have he := run_endRound (P := P) jump hl3
      refine ⟨hl3, ?_, World.putObj_heap_same (Array.getElem?_eq_some_iff.1 hl3).1, (World.putObj_heap_other (by omega)).trans hd3⟩
      rw [hL] at he ⊢
      exact he
    cases e with
    | normal =>
      obtain ⟨hkf, hi2⟩ := hp
      obtain ⟨c1, c2, c3, c4⟩ := shut none hkf
      refine ⟨_, _, c2, .inl ⟨rfl, ⟨?_, fun q hq hql => ?_⟩, turn W3 _ _ c1 rfl (s + 1) hi2, c3, c4⟩⟩
      · have h2 := hkf.1
        simp [World.putObj] at h2 ⊢
        omega
      · by_cases hqe : q = w.heap.size + 1
        · subst hqe; exact c3.trans hl.symm
        · rw [World.putObj_heap_other hqe, hkf.2 q hq (by simp [World.putObj]; omega), World.putObj_heap_other hqe]
          exact hAo q hql
    | ret =>
      obtain ⟨hkf, hi2⟩ := hp
      obtain ⟨c1, c2, c3, c4⟩ := shut (some .ret) hkf
      exact ⟨_, _, c2, .inr ⟨rfl, turnx W3 _ _ c1 rfl hi2, c3, c4⟩⟩
    | exit id => exact hp.elim
    | goto t => exact hp.elim
    | panic c => exact hp.elim
    | outgrown => exact hp.elim

end Go.Proofs.YtijkefflpojmhaaDoor

namespace Go.Proofs.YtijkefflpojmhaaDoor
open Go.RowKit Go.Shelf
attribute [local go_sem] Oper.semAt_some

/-- The nodes, the whole ahead of its parts. -/
def pre : Ct → List Ct
  | .mk k f t n e d ds l => .mk k f t n e d ds l :: (l.attach.map fun x => pre x.1).flatten
termination_by x => SizeOf.sizeOf x
decreasing_by
  have := List.sizeOf_lt_of_mem x.2
  simp only [Ct.mk.sizeOf_spec]
  omega
theorem pre_is (x : Ct) : pre x = x :: (x.sub.map pre).flatten := by
  cases x with
  | mk k f t n e d ds l =>
    rw [pre]
    show _ :: (l.attach.map fun x => pre x.1).flatten = _ :: (l.map pre).flatten
    rw [show (l.attach.map fun x => pre x.1) = l.map pre from List.attach_map_val (l := l) (f := pre)]
def preN (l : List Ct) (k : Nat) : Nat := ((l.take k).map pre).flatten.length
theorem preN_succ (l : List Ct) (k : Nat) (hk : k < l.length) : preN l (k + 1) = preN l k + (pre l[k]).length := by
  unfold preN
  rw [List.take_succ_eq_append_getElem hk, List.map_append, List.flatten_append, List.length_append, List.map_singleton, List.flatten_singleton]
theorem pre_len (x : Ct) : (pre x).length = 1 + preN x.sub x.sub.length := by
  rw [pre_is, List.length_cons, preN, List.take_length]; omega
theorem pre_part (x : Ct) (k i : Nat) (hk : k < x.sub.length) (hi : i < (pre x.sub[k]).length) : (pre x)[1 + preN x.sub k + i]? = (pre x.sub[k])[i]? := by
  rw [pre_is, show 1 + preN x.sub k + i = (preN x.sub k + i) + 1 by omega, List.getElem?_cons_succ]
  have e : (x.sub.map pre).flatten = ((x.sub.take k).map pre).flatten ++ (pre x.sub[k] ++ ((x.sub.drop (k + 1)).map pre).flatten) := by
    rw [← List.flatten_cons, ← List.map_cons, ← List.drop_eq_getElem_cons hk, ← List.flatten_append, ← List.map_append, List.take_append_drop]
  rw [e, List.getElem?_append_right (by unfold preN; omega), show preN x.sub k + i - ((x.sub.take k).map pre).flatten.length = i by unfold preN; omega, List.getElem?_append_left hi]
/-- How visit comes back. -/
def VisP (B : Nat) (J : Nat → World → Prop) (Jx : World → Prop) (s1 : Nat) (W : World) (e : Ending) (W2 : World) : Prop :=
  (e = .returned (.bool true) ∧ FrmW B W W2 ∧ J s1 W2) ∨ (e = .returned (.bool false) ∧ Jx W2)
theorem grown_alloc (W : World) (o : Obj) : W.grownBy (W.alloc o) none := World.grownBy_alloc W o none

set_option maxHeartbeats 4000000 in
set_option maxRecDepth 100000 in
theorem visit_any {we : World} {B l N0 : Nat} {J : Nat → World → Prop} {Jx : World → Prop} {T : Nat → Option Ct} (hst : StaysN J) (hE : ∀ s W, J s W → Below we.heap.size we W)
    (hY : ∀ s y cs W, J s W → T s = some y → CtAt N0 we cs y → YieldAt Fence.wide 0 Tryd.prog l #[.agg cs.toArray] W (VisP B J Jx (s + 1) W)) :
    ∀ (n : Nat) (x : Ct) (cs : List Value) (s0 : Nat) (W : World), CtAt n we cs x → n ≤ N0 → x.size ≤ 3000 → (∀ i y, (pre x)[i]? = some y → T (s0 + i) = some y) → B ≤ W.heap.size → J s0 W →
      Calls Tryd.prog 46 #[.agg cs.toArray, .func (.yield l) #[] #[]] W (VisP B J Jx (s0 + (pre x).length) W) := by
  intro n
  induction n with
  | zero => intro x cs s0 W h; exact h.elim
  | succ n ih =>
    intro x cs s0 W h hN hz hT hB hJ
    have hat := h
    obtain ⟨ea, el, ec, da, dl, dc, a, len, cap, rfl, hex, hds, hlen, hsub⟩ := h
    have hsl := x.sub_len
    have hlb : len ≤ 3000 := by omega
    obtain ⟨W0, hW0⟩ : ∃ W0, W0 = W.alloc (.cells #[.int .u8 x.kind, .string x.frm, .string x.too, .string x.name, .int .u8 x.expr.kind, .string x.expr.rat, .string x.expr.name, .int .i64 x.expr.date, .slice ea el ec, .int .i64 x.date, .slice da dl dc, .slice a len cap] 29) := ⟨_, rfl⟩
    have hgr : W.grownBy W0 none := by rw [hW0]; exact grown_alloc _ _
    have hJ0 : J s0 W0 := hst _ _ _ hJ hgr
    have hbx : W0.heap[W.heap.size]? = some (.cells #[.int .u8 x.kind, .string x.frm, .string x.too, .string x.name, .int .u8 x.expr.kind, .string x.expr.rat, .string x.expr.name, .int .i64 x.expr.date, .slice ea el ec, .int .i64 x.date, .slice da dl dc, .slice a len cap] 29) := by rw [hW0]; exact World.alloc_heap_new W _
    have hF0 : FrmW B W W0 := FrmW.grown hgr
    have hW0s : W0.heap.size = W.heap.size + 1 := by rw [hW0]; simp
    have hY0 := hY s0 x _ W0 hJ0 (hT 0 x (by rw [pre_is]; rfl)) (CtAt.up hN hat)
    have HI := Lib.hid ih
    have HS := Lib.hid hsub
    have HLEN := Lib.hid hlen
    have HZ := Lib.hid hz
    have HT := Lib.hid hT
    have HST := Lib.hid hst
    have HE := Lib.hid hE
    have HF0 := Lib.hid hF0
    have HW0 := Lib.hid hW0
    have HBX := Lib.hid hbx
    obtain ⟨fn, tmps, assign, body, hy, hR⟩ := hY0
    have hy' : (Instr.yield l #[.agg #[.int .u8 x.kind, .string x.frm, .string x.too, .string x.name, .int .u8 x.expr.kind, .string x.expr.rat, .string x.expr.name, .int .i64 x.expr.date, .slice ea el ec, .int .i64 x.date, .slice da dl dc, .slice a len cap]]).run Tryd.prog W0 = .ok (.round l fn tmps assign body) W0 := hy
    rw [hW0] at hy'
    have hR1 : Hid (∀ m, RoundIn Fence.wide m Tryd.prog l fn tmps assign body W0 (VisP B J Jx (s0 + 1) W0)) := fun m => roundIn_wide hR
    obtain ⟨c0, c1, c2, c3, c4, c5, c6, c7, c8, c9, ca, cb⟩ := ctBox hbx
    clear ih hsub hlen hz hT hst hE hF0 hW0 hbx hex hds hat hy hR hY hJ hJ0 hgr hsl
    show Calls Tryd.prog 46 #[.agg #[.int .u8 x.kind, .string x.frm, .string x.too, .string x.name, .int .u8 x.expr.kind, .string x.expr.rat, .string x.expr.name, .int .i64 x.expr.date, .slice ea el ec, .int .i64 x.date, .slice da dl dc, .slice a len cap], .func (.yield l) #[] #[]] W _
    refine (callsIn_wide (n := 6)).1 ?_
    refine callsIn_of_wp Tryd.func46 rfl trivial ?_ rfl
    simp only [Tryd.ntmps46, List.size_toArray, List.length_cons, List.length_nil, Nat.reduceAdd, Nat.reduceSub, Array.replicate_succ, Array.replicate_zero, List.push_toArray, List.append_toArray, List.nil_append, List.cons_append]
    have hTf : ∀ f, Fence.wide.fn f := fun _ => trivial
    gi_wp2_with fail
    rw [← HW0.out]
    refine (hR1.out _).mono ?_
    rintro ee W1 (⟨rfl, hf1, hJ1⟩ | ⟨rfl, hx1⟩)
    · have hbx1 : W1.heap[W.heap.size]? = some (.cells #[.int .u8 x.kind, .string x.frm, .string x.too, .string x.name, .int .u8 x.expr.kind, .string x.expr.rat, .string x.expr.name, .int .i64 x.expr.date, .slice ea el ec, .int .i64 x.date, .slice da dl dc, .slice a len cap] 29) := (hf1.2 _ hB (by omega)).trans HBX.out
      have hW1s := hf1.1
      have HBX1 := Lib.hid hbx1
      have HF1 := Lib.hid (HF0.out.trans hf1)
      have HJ1 := Lib.hid hJ1
      clear c0 c1 c2 c3 c4 c5 c6 c7 c8 c9 ca cb hy' hR1 hbx1 hf1 hJ1
      obtain ⟨c0, c1, c2, c3, c4, c5, c6, c7, c8, c9, ca, cb⟩ := ctBox HBX1.out
      gi_wp2_with fail
      gi_loopw [14] (fun iv wr => ∃ k : Nat, k ≤ len ∧ iv = .int .i64 (k : Int) ∧ FrmW B W wr ∧ W1.heap.size ≤ wr.heap.size ∧ J (s0 + 1 + preN x.sub k) wr) (fun iv _ => len - (intOf iv).toNat)
      case atStart => exact ⟨0, Nat.zero_le _, rfl, HF1.out, Nat.le_refl _, HJ1.out⟩
      case round =>
        clear c0 c1 c2 c3 c4 c5 c6 c7 c8 c9 ca cb
        obtain ⟨w2, rfl⟩ : ∃ w1 : World, w1 = wr := ⟨_, rfl⟩
        obtain ⟨k, hk, rfl, hf, hsz, hJk⟩ := hrel
        have HBE := Lib.hid (HE.out _ _ hJk)
        have HF := Lib.hid hf
        have HJ := Lib.hid hJk
        clear hf hJk
        by_cases hlt : k < len
        · have hlt2 : k < x.sub.length := by rw [HLEN.out]; exact hlt
          rcases HS.out with h0 | ⟨g, o, ha, hg, hel⟩
          · omega
          · subst ha
            obtain ⟨y, hy, eap, elp, ecp, dap, dlp, dcp, ap, lenp, capp, ⟨e0, e1, e2, e3, e4, e5, e6, e7, e8, e9, ea_, eb_⟩, hx1⟩ := CtAt.elem hg HBE.out hlt2 hel
            have hym : y ∈ x.sub := by rw [hy]; exact List.getElem_mem _
            have hys := Ct.sub_size hym
            obtain ⟨w3, hw3⟩ : ∃ w3, w3 = w2.alloc (.cells #[.int .u8 y.kind, .string y.frm, .string y.too, .string y.name, .int .u8 y.expr.kind, .string y.expr.rat, .string y.expr.name, .int .i64 y.expr.date, .slice eap elp ecp, .int .i64 y.date, .slice dap dlp dcp, .slice ap lenp capp] 29) := ⟨_, rfl⟩
            have hg3 : w2.grownBy w3 none := by rw [hw3]; exact grown_alloc _ _
            have hw3s : w3.heap.size = w2.heap.size + 1 := by rw [hw3]; simp
            have HC := Lib.hid (HI.out y _ (s0 + 1 + preN x.sub k) w3 hx1 (by omega) (by have := HZ.out; omega) (fun i z hz => by
              have hi : i < (pre y).length := by
                rcases Nat.lt_or_ge i (pre y).length with h | h
                · exact h
                · rw [List.getElem?_eq_none h] at hz; cases hz
              have q := pre_part x k i hlt2 (by rw [← hy]; exact hi)
              rw [← hy] at q
              have := HT.out (1 + preN x.sub k + i) z (q.trans hz)
              rwa [← Nat.add_assoc, ← Nat.add_assoc] at this) (by omega) (HST.out _ _ _ HJ.out hg3))
            have HPN := Lib.hid (preN_succ x.sub k hlt2)
            rw [← hy] at HPN
            have HF3 := Lib.hid (HF.out.trans (FrmW.grown hg3))
            have HW3 := Lib.hid hw3
            have hk0 : (0 : Int) ≤ (k : Int) := by omega
            have hk1 : (k : Int) < (len : Int) := by omega
            clear hx1 hym hys hel hy hg3 hw3
            gi_wp2_with (gi_at_call 46; rw [← HW3.out]; refine (callsIn_wide.2 HC.out).mono ?_)
            rintro ee w4 (⟨rfl, hf4, hJ4⟩ | ⟨rfl, hx4⟩)
            · have hw4s := hf4.1
              have HF4 := Lib.hid (HF3.out.trans hf4)
              have HJ4 : Hid (J (s0 + 1 + preN x.sub (k + 1)) w4) := by
                show J _ _
                rw [HPN.out, ← Nat.add_assoc]; exact hJ4
              clear hf4 hJ4
              gi_wp2_with fail
              go_roundw
              case rel => exact ⟨k + 1, hlt, by go_num, HF4.out, by omega, HJ4.out⟩
              case measure => simp [intOf] <;> omega
            · gi_wp2_with fail
              go_ret
              exact .inr ⟨rfl, hx4⟩
        · have hke : k = x.sub.length := by rw [HLEN.out]; omega
          have HJE : Hid (J (s0 + (pre x).length) w2) := by
            show J _ _
            rw [pre_len, ← Nat.add_assoc, ← hke]; exact HJ.out
          clear hke HJ
          gi_wp2_with fail
          go_ret
          exact .inl ⟨rfl, HF.out, HJE.out⟩
    · gi_wp2_with fail
      go_ret
      exact .inr ⟨rfl, hx1⟩

end Go.Proofs.YtijkefflpojmhaaDoor

namespace Go.Proofs.YtijkefflpojmhaaDoor
open Go.RowKit Go.Shelf
attribute [local go_sem] Oper.semAt_some

theorem nodes_any (x : Ct) (ea : Option Addr) (el ec : Nat) (da : Option Addr) (dl dc : Nat) (a : Option Addr) (len cap : Nat) (w : World) : Calls Tryd.prog 29 #[.agg #[.int .u8 x.kind, .string x.frm, .string x.too, .string x.name, .int .u8 x.expr.kind, .string x.expr.rat, .string x.expr.name, .int .i64 x.expr.date, .slice ea el ec, .int .i64 x.date, .slice da dl dc, .slice a len cap]] w fun e w' =>
    e = .returned (.func (.func 45) #[] #[.pointer (some ⟨w.heap.size, 0, none⟩)]) ∧ w' = w.alloc (.cells #[.int .u8 x.kind, .string x.frm, .string x.too, .string x.name, .int .u8 x.expr.kind, .string x.expr.rat, .string x.expr.name, .int .i64 x.expr.date, .slice ea el ec, .int .i64 x.date, .slice da dl dc, .slice a len cap] 29) := by
  go_enter Tryd.func29, Tryd.ntmps29
  go_wp2_with fail
  go_ret
  exact ⟨rfl, rfl⟩
/-- What is yielded: the s-th node, in memory as it was. -/
def ArgN (x : Ct) (N0 : Nat) (we : World) (s : Nat) (v : Value) : Prop := ∃ y cs, (pre x)[s]? = some y ∧ v = .agg cs.toArray ∧ CtAt N0 we cs y
set_option maxHeartbeats 2000000 in
set_option maxRecDepth 100000 in
theorem nodes_seq (x : Ct) (ea : Option Addr) (el ec : Nat) (da : Option Addr) (dl dc : Nat) (a : Option Addr) (len cap : Nat) (we : World) (n N0 m bx B : Nat) (hm : 2 ≤ m) (hat : CtAt n we [.int .u8 x.kind, .string x.frm, .string x.too, .string x.name, .int .u8 x.expr.kind, .string x.expr.rat, .string x.expr.name, .int .i64 x.expr.date, .slice ea el ec, .int .i64 x.date, .slice da dl dc, .slice a len cap] x) (hN : n ≤ N0) (hz : x.size ≤ 3000) :
    SeqNx Tryd.prog m 45 #[.pointer (some ⟨bx, 0, none⟩)] (ArgN x N0 we) (pre x).length (fun _ W => Below we.heap.size we W ∧ W.heap[bx]? = some (.cells #[.int .u8 x.kind, .string x.frm, .string x.too, .string x.name, .int .u8 x.expr.kind, .string x.expr.rat, .string x.expr.name, .int .i64 x.expr.date, .slice ea el ec, .int .i64 x.date, .slice da dl dc, .slice a len cap] 29)) B := by
  intro l J Jx W hst _ hE hY hB h0
  have HV := Lib.hid (visit_any (T := fun s => (pre x)[s]?) (we := we) (l := l) (N0 := N0) hst (fun s W hs => (hE s W hs).1) (Jx := Jx) (B := B) (fun s y cs W1 hs hT hc => by
    have hlt : s < (pre x).length := by
      rcases Nat.lt_or_ge s (pre x).length with h | h
      · exact h
      · rw [List.getElem?_eq_none h] at hT; cases hT
    exact yieldAt_wide (hY s _ W1 hs hlt ⟨y, cs, hT, rfl, hc⟩)) n x _ 0 W hat hN hz (fun i y hi => by rw [Nat.zero_add]; exact hi) hB h0)
  obtain ⟨c0, c1, c2, c3, c4, c5, c6, c7, c8, c9, ca, cb⟩ := ctBox (hE 0 W h0).2
  clear hst hE hY h0 hat
  refine callsIn_of_wp Tryd.func45 rfl trivial ?_ rfl
  simp only [Tryd.ntmps45, List.size_toArray, List.length_cons, List.length_nil, Nat.reduceAdd, Nat.reduceSub, Array.replicate_succ, Array.replicate_zero, List.push_toArray, List.append_toArray, List.nil_append, List.cons_append]
  have hTf : ∀ f, Fence.wide.fn f := fun _ => trivial
  have hm1 : 1 ≤ m := by omega
  gi_wp2_with (gi_at_call 46; refine (callsIn_wide.2 HV.out).mono ?_)
  rw [Nat.zero_add]
  rintro ee w4 (⟨rfl, hf4, hJ4⟩ | ⟨rfl, hx4⟩)
  · gi_wp2_with fail
    refine bodyPost_end (results_none rfl _ _ _) rfl ?_
    exact ⟨⟨_, rfl⟩, .inl hJ4⟩
  · gi_wp2_with fail
    refine bodyPost_end (results_none rfl _ _ _) rfl ?_
    exact ⟨⟨_, rfl⟩, .inr hx4⟩

end Go.Proofs.YtijkefflpojmhaaDoor

namespace Go.Proofs.YtijkefflpojmhaaDoor
open Go.RowKit Go.Shelf
attribute [local go_sem] Oper.semAt_some

/-- What a node counts. -/
def cnX (y : Ct) : Nat := 1 + eSz y
theorem sum_flat (l : List Ct) (h : ∀ y ∈ l, ((pre y).map cnX).sum = y.csz) : (((l.map pre).flatten).map cnX).sum = (l.map Ct.csz).sum := by
  induction l with
  | nil => rfl
  | cons a l ih =>
    rw [List.map_cons, List.flatten_cons, List.map_append, List.sum_append, List.map_cons, List.sum_cons, h a (List.mem_cons_self ..), ih fun y hy => h y (List.mem_cons_of_mem _ hy)]
theorem sum_pre : ∀ (x : Ct), ((pre x).map cnX).sum = x.csz
  | .mk k f t n e d ds l => by
    rw [pre_is, Ct.csz_is, List.map_cons, List.sum_cons, sum_flat _ fun y hy => sum_pre y]
    rfl
termination_by x => SizeOf.sizeOf x
decreasing_by
  have := List.sizeOf_lt_of_mem hy
  simp only [Ct.mk.sizeOf_spec]
  simp only [Ct.sub] at this
  omega
theorem sum_step (l : List Ct) (s : Nat) (y : Ct) (h : l[s]? = some y) : ((l.take (s + 1)).map cnX).sum = ((l.take s).map cnX).sum + cnX y := by
  have hs : s < l.length := by
    rcases Nat.lt_or_ge s l.length with q | q
    · exact q
    · rw [List.getElem?_eq_none q] at h; cases h
  rw [List.getElem?_eq_getElem hs] at h
  injection h with h
  rw [List.take_succ_eq_append_getElem hs, List.map_append, List.sum_append, List.map_singleton, List.sum_singleton, h]
theorem sum_le (l : List Ct) (s : Nat) : ((l.take s).map cnX).sum ≤ (l.map cnX).sum := by
  have h : (l.map cnX).sum = ((l.take s).map cnX).sum + ((l.drop s).map cnX).sum := by
    rw [← List.sum_append, ← List.map_append, List.take_append_drop]
  omega
/-- The nodes of a contract in memory: each small. -/
theorem pre_small : ∀ (x : Ct) {y : Ct}, y ∈ pre x → y.size ≤ x.size
  | .mk k f t n e d ds l, y, h => by
    rw [pre_is, List.mem_cons] at h
    rcases h with rfl | h
    · exact Nat.le_refl _
    · obtain ⟨_, h1, h2⟩ := List.mem_flatten.1 h
      obtain ⟨z, hz, rfl⟩ := List.mem_map.1 h1
      have q1 := pre_small z h2
      have q2 := Ct.sub_size (x := .mk k f t n e d ds l) hz
      omega
termination_by x => SizeOf.sizeOf x
decreasing_by
  have := List.sizeOf_lt_of_mem hz
  simp only [Ct.mk.sizeOf_spec]
  simp only [Ct.sub] at this
  omega
theorem pre_csm : ∀ (d : Nat) (x : Ct) {y : Ct}, CSm d x → y ∈ pre x → ∃ e, e ≤ d ∧ CSm e y
  | 0, _, _, h, _ => h.elim
  | d + 1, x, y, h, hy => by
    rw [pre_is, List.mem_cons] at hy
    rcases hy with rfl | hy
    · exact ⟨_, Nat.le_refl _, h⟩
    · obtain ⟨_, h1, h2⟩ := List.mem_flatten.1 hy
      obtain ⟨z, hz, rfl⟩ := List.mem_map.1 h1
      obtain ⟨e, he, hc⟩ := pre_csm d z (h.2.2 z hz) h2
      exact ⟨e, by omega, hc⟩
def boxV (v : Value) : Obj := match v with
  | .agg cs => .cells cs 29
  | _ => .cells #[] 29
/-- Between two nodes. -/
def SzI (x : Ct) (ea : Option Addr) (el ec : Nat) (da : Option Addr) (dl dc : Nat) (a : Option Addr) (len cap : Nat) (w : World) (s : Nat) (W : World) : Prop :=
  Below w.heap.size w W ∧ W.heap[w.heap.size + 1]? = some (.cells #[.int .i64 ((((pre x).take s).map cnX).sum : Nat)] 3) ∧ W.heap[w.heap.size + 1 + 1]? = some (.cells #[.int .u8 x.kind, .string x.frm, .string x.too, .string x.name, .int .u8 x.expr.kind, .string x.expr.rat, .string x.expr.name, .int .i64 x.expr.date, .slice ea el ec, .int .i64 x.date, .slice da dl dc, .slice a len cap] 29)
theorem szI_own (x : Ct) (ea : Option Addr) (el ec : Nat) (da : Option Addr) (dl dc : Nat) (a : Option Addr) (len cap : Nat) (w : World) (B : Nat) (hB : w.heap.size + 3 ≤ B) : OwnFrom B (SzI x ea el ec da dl dc a len cap w) := by
  intro s W W' row ⟨h1, h2, h3⟩ hg hr
  have hne : ∀ j, j < w.heap.size + 3 → some j ≠ row := fun j hj e => by have := (hr j e.symm).1; omega
  have l2 := (Array.getElem?_eq_some_iff.1 h2).1
  have l3 := (Array.getElem?_eq_some_iff.1 h3).1
  exact ⟨h1.grown hg h1.size (fun k hk => by have := (hr k hk).1; omega), (hg.block _ l2 (hne _ (by omega))).trans h2, (hg.block _ l3 (hne _ (by omega))).trans h3⟩

set_option maxHeartbeats 4000000 in
set_option maxRecDepth 100000 in
theorem pcsize_any (n : Nat) (x : Ct) (cs : List Value) (w : World) (hat : CtAt n w cs x) (hz : x.size ≤ 3000) (hsm : ∃ d, CSm d x) : Calls Tryd.prog 27 #[.agg cs.toArray] w (IntP w (x.csz : Int)) := by
  obtain ⟨ea, el, ec, da, dl, dc, a, len, cap, rfl, _⟩ := hat.shape
  have hcz := Ct.csz_le x
  have hsum := sum_pre x
  show Calls Tryd.prog 27 #[.agg #[.int .u8 x.kind, .string x.frm, .string x.too, .string x.name, .int .u8 x.expr.kind, .string x.expr.rat, .string x.expr.name, .int .i64 x.expr.date, .slice ea el ec, .int .i64 x.date, .slice da dl dc, .slice a len cap]] w _
  refine (callsIn_wide (n := 6)).1 ?_
  refine callsIn_of_wp_marks Tryd.func27 rfl trivial ?_ rfl
  simp only [Tryd.ntmps27, List.size_toArray, List.length_cons, List.length_nil, Nat.reduceAdd, Nat.reduceSub, Array.replicate_succ, Array.replicate_zero, List.push_toArray, List.append_toArray, List.nil_append, List.cons_append]
  have hTf : ∀ f, Fence.wide.fn f := fun _ => trivial
  gi_wp2_with (gi_at_call 29; refine (callsIn_wide.2 (nodes_any x ea el ec da dl dc a len cap _)).mono ?_; rintro e w' ⟨rfl, rfl⟩)
  obtain ⟨W0, hW0⟩ : ∃ W0, W0 = ((w.alloc (.cells #[.int .u8 x.kind, .string x.frm, .string x.too, .string x.name, .int .u8 x.expr.kind, .string x.expr.rat, .string x.expr.name, .int .i64 x.expr.date, .slice ea el ec, .int .i64 x.date, .slice da dl dc, .slice a len cap] 29)).alloc (.cells #[.int .i64 0] 3)).alloc (.cells #[.int .u8 x.kind, .string x.frm, .string x.too, .string x.name, .int .u8 x.expr.kind, .string x.expr.rat, .string x.expr.name, .int .i64 x.expr.date, .slice ea el ec, .int .i64 x.date, .slice da dl dc, .slice a len cap] 29) := ⟨_, rfl⟩
  have hT := three_blocks w (.cells #[.int .u8 x.kind, .string x.frm, .string x.too, .string x.name, .int .u8 x.expr.kind, .string x.expr.rat, .string x.expr.name, .int .i64 x.expr.date, .slice ea el ec, .int .i64 x.date, .slice da dl dc, .slice a len cap] 29) (.cells #[.int .i64 0] 3) (.cells #[.int .u8 x.kind, .string x.frm, .string x.too, .string x.name, .int .u8 x.expr.kind, .string x.expr.rat, .string x.expr.name, .int .i64 x.expr.date, .slice ea el ec, .int .i64 x.date, .slice da dl dc, .slice a len cap] 29)
  rw [← hW0] at hT
  have hsz : W0.heap.size = w.heap.size + 3 := by rw [hW0]; simp
  have hB0 : Below w.heap.size w W0 := by rw [hW0]; exact ((own_below w _).alloc (by simp) _).alloc (by simp; omega) _
  have hI0 : SzI x ea el ec da dl dc a len cap w 0 W0 := ⟨hB0, hT.2.1, hT.2.2⟩
  rw [← hW0]
  have hS := nodes_seq x ea el ec da dl dc a len cap w n n 5 (w.heap.size + 1 + 1) W0.heap.size (by omega) hat (Nat.le_refl _) hz
  have HSUM := Lib.hid hsum
  have HAT := Lib.hid hat
  have HSMX := Lib.hid hsm
  clear hW0 hT hB0 hsum hat
  refine range_nx (by omega) (gf := 45) (lb := #[.pointer (some ⟨w.heap.size + 1 + 1, 0, none⟩)]) rfl (enters_of Tryd.func45 (by kernel_rfl) rfl) hS rfl
    (SzI x ea el ec da dl dc a len cap w) (fun _ => False) (szI_own x ea el ec da dl dc a len cap w _ (by omega)) (fun _ _ _ _ h _ _ => h.elim) (fun s W h => ⟨h.1, h.2.2⟩) hI0
    (fun v b => { tmps := #[.agg #[.int .u8 x.kind, .string x.frm, .string x.too, .string x.name, .int .u8 x.expr.kind, .string x.expr.rat, .string x.expr.name, .int .i64 x.expr.date, .slice ea el ec, .int .i64 x.date, .slice da dl dc, .slice a len cap], .pointer (some ⟨w.heap.size, 0, none⟩), .int .i64 0, .pointer (some ⟨w.heap.size + 1, 0, none⟩), .pointer (some ⟨b, 0, none⟩), .agg #[.int .u8 x.kind, .string x.frm, .string x.too, .string x.name, .int .u8 x.expr.kind, .string x.expr.rat, .string x.expr.name, .int .i64 x.expr.date, .slice ea el ec, .int .i64 x.date, .slice da dl dc, .slice a len cap], .func (.func 45) #[] #[.pointer (some ⟨w.heap.size + 1 + 1, 0, none⟩)], v, undef, undef, undef, undef, undef, undef, undef, undef, undef, undef, undef, undef], defers := [] }) boxV ?assign ?body ?done ?stop
  case assign =>
    rintro l v s W K ⟨y, cs, hy, rfl, hc⟩ hI hK
    obtain ⟨eap, elp, ecp, dap, dlp, dcp, ap, lenp, capp, rfl, _⟩ := hc.shape
    have e : ctCells y eap elp ecp dap dlp dcp ap lenp capp = [.int .u8 y.kind, .string y.frm, .string y.too, .string y.name, .int .u8 y.expr.kind, .string y.expr.rat, .string y.expr.name, .int .i64 y.expr.date, .slice eap elp ecp, .int .i64 y.date, .slice dap dlp dcp, .slice ap lenp capp] := rfl
    rw [e] at hK ⊢
    gi_wp2
    exact hK
  case body =>
    rintro l s v b W ⟨hb0, hcnt, hbx⟩ hs ⟨y, cs, hy, rfl, hc⟩ hbB hbox
    obtain ⟨m, hm⟩ : ∃ m, n = m + 1 := by
      cases n with
      | zero => exact hc.elim
      | succ m => exact ⟨m, rfl⟩
    subst hm
    obtain ⟨eap, elp, ecp, dap, dlp, dcp, ap, lenp, capp, rfl, hex, _⟩ := hc
    have e : ctCells y eap elp ecp dap dlp dcp ap lenp capp = [.int .u8 y.kind, .string y.frm, .string y.too, .string y.name, .int .u8 y.expr.kind, .string y.expr.rat, .string y.expr.name, .int .i64 y.expr.date, .slice eap elp ecp, .int .i64 y.date, .slice dap dlp dcp, .slice ap lenp capp] := rfl
    rw [e]
    have hbox' : W.heap[b]? = some (.cells #[.int .u8 y.kind, .string y.frm, .string y.too, .string y.name, .int .u8 y.expr.kind, .string y.expr.rat, .string y.expr.name, .int .i64 y.expr.date, .slice eap elp ecp, .int .i64 y.date, .slice dap dlp dcp, .slice ap lenp capp] 29) := hbox
    have hel : y.expr.sub.length = elp := by
      obtain ⟨a', l', c', he, hl, _⟩ := hex
      injection he with _ he; injection he with _ he; injection he with _ he; injection he with _ he; injection he with he _
      injection he with _ he _
      rw [hl, he]
    obtain ⟨S, hS⟩ : ∃ S : Nat, S = (((pre x).take s).map cnX).sum := ⟨_, rfl⟩
    rw [← hS] at hcnt
    have hS1 := sum_step (pre x) s y hy
    have hS2 := sum_le (pre x) (s + 1)
    rw [← hS] at hS1
    have hys := pre_small x (List.mem_of_getElem? hy)
    have hyz : y.expr.size ≤ 1000 := by
      obtain ⟨dd, hdd⟩ := HSMX.out
      obtain ⟨e, _, he⟩ := pre_csm dd x hdd (List.mem_of_getElem? hy)
      match e, he with
      | e + 1, ⟨h1, _⟩ => exact h1.2.2.2.2
    have hS3 : S + cnX y ≤ 3000 := by have := HSUM.out; omega
    have hn0 := exCell hcnt 0
    have hnf := Lib.frozen_of_heap hcnt 0
    have hnl := (Array.getElem?_eq_some_iff.1 hcnt).1
    have hbl := (Array.getElem?_eq_some_iff.1 hbox').1
    have hne : ¬ (b = w.heap.size + 1) := by omega
    have hne2 : ¬ (w.heap.size + 1 = b) := by omega
    obtain ⟨c0, c1, c2, c3, c4, c5, c6, c7, c8, c9, ca, cb⟩ := ctBox hbox'
    obtain ⟨W1, hW1⟩ : ∃ W1, W1 = W.setCell ⟨w.heap.size + 1, 0, none⟩ (.int .i64 ((S : Int) + 1)) := ⟨_, rfl⟩
    have hW1n : W1.heap[w.heap.size + 1]? = some (.cells #[.int .i64 ((S : Int) + 1)] 3) := by
      rw [hW1]; simp [World.setCell, Array.getElem?_modify, hcnt]
    have hW1b : W1.heap[b]? = some (.cells #[.int .u8 y.kind, .string y.frm, .string y.too, .string y.name, .int .u8 y.expr.kind, .string y.expr.rat, .string y.expr.name, .int .i64 y.expr.date, .slice eap elp ecp, .int .i64 y.date, .slice dap dlp dcp, .slice ap lenp capp] 29) := by
      rw [hW1, Below.heap_setCell _ _ _ _ hne]; exact hbox'
    have hW1x : W1.heap[w.heap.size + 1 + 1]? = some (.cells #[.int .u8 x.kind, .string x.frm, .string x.too, .string x.name, .int .u8 x.expr.kind, .string x.expr.rat, .string x.expr.name, .int .i64 x.expr.date, .slice ea el ec, .int .i64 x.date, .slice da dl dc, .slice a len cap] 29) := by
      rw [hW1, Below.heap_setCell _ _ _ _ (by show w.heap.size + 1 + 1 ≠ w.heap.size + 1; omega)]; exact hbx
    have hW1w : Below w.heap.size w W1 := by rw [hW1]; exact hb0.setCell (p := ⟨w.heap.size + 1, 0, none⟩) (by show w.heap.size ≤ w.heap.size + 1; omega) _
    have hW1f : FrmW W0.heap.size W W1 := by rw [hW1]; exact FrmW.set (by show w.heap.size + 1 < W0.heap.size; omega) _
    have hW1s : W1.heap.size = W.heap.size := by rw [hW1]; simp [World.setCell]
    have HBARE := Lib.hid (pbare_any y.expr eap elp ecp W1 hel)
    have HFIN : Hid (∀ (A : Act) (W2 : World) (C : Nat), Below W1.heap.size W1 W2 → C = 1 + eSz y → C = 1 → RoundNx W0.heap.size s (SzI x ea el ec da dl dc a len cap w) (fun _ => False) W .normal A W2) := fun _ W2 C hW2 hC hC1 => by
      refine ⟨hW1f.trans (FrmW.below hW2), hW1w.trans (hW2.mono hW1w.size), ?_, (hW2.block _ (Array.getElem?_eq_some_iff.1 hW1x).1).trans hW1x⟩
      rw [hW2.block _ (Array.getElem?_eq_some_iff.1 hW1n).1, hW1n, hS1]
      unfold cnX
      rw [← hC, hC1]; rfl
    have HFIN2 : Hid (∀ (A : Act) (W2 : World) (C : Nat), Below W1.heap.size W1 W2 → C = eSz y → RoundNx W0.heap.size s (SzI x ea el ec da dl dc a len cap w) (fun _ => False) W .normal A (W2.setCell ⟨w.heap.size + 1, 0, none⟩ (.int .i64 ((S : Int) + 1 + (C : Int))))) := fun _ W2 C hW2 hC => by
      have hn2 := (hW2.block _ (Array.getElem?_eq_some_iff.1 hW1n).1).trans hW1n
      refine ⟨(hW1f.trans (FrmW.below hW2)).trans (FrmW.set (by show w.heap.size + 1 < W0.heap.size; omega) _), (hW1w.trans (hW2.mono hW1w.size)).setCell (p := ⟨w.heap.size + 1, 0, none⟩) (by show w.heap.size ≤ w.heap.size + 1; omega) _, ?_, ?_⟩
      · rw [hS1]
        unfold cnX
        rw [← hC]
        simp [World.setCell, Array.getElem?_modify, hn2]
        omega
      · rw [Below.heap_setCell _ _ _ _ (by show w.heap.size + 1 + 1 ≠ w.heap.size + 1; omega)]
        exact (hW2.block _ (Array.getElem?_eq_some_iff.1 hW1x).1).trans hW1x
    have hcn : cnX y = 1 + eSz y := rfl
    have hes := eSz_le y
    have HSZ : Hid (∀ W2, Below W1.heap.size W1 W2 → Calls Tryd.prog 37 #[.agg #[.int .u8 y.expr.kind, .string y.expr.rat, .string y.expr.name, .int .i64 y.expr.date, .slice eap elp ecp]] W2 (IntP W2 (y.expr.size : Int))) := fun W2 hW2 => psizex_any (m + 1) y.expr _ W2 (ExAt.below (hW1w.trans (hW2.mono hW1w.size)) hex) (by omega)
    have HW1 := Lib.hid hW1
    have HN1 := Lib.hid hW1n
    have HB1 := Lib.hid hW1b
    have hSb : S + 1 ≤ 3000 := by omega
    obtain ⟨bb, hbb⟩ : ∃ b, b = bareX y.expr := ⟨_, rfl⟩
    rw [← hbb] at HBARE
    have HBB := Lib.hid hbb
    have HES : Hid (eSz y = if bb then 0 else y.expr.size) := by show _ = _; rw [hbb]; rfl
    obtain ⟨q, hq⟩ : ∃ q, q = y.expr.size := ⟨_, rfl⟩
    rw [← hq] at HSZ HES
    have hqb : q ≤ 1000 := by omega
    have hSq : bb = false → S + 1 + q ≤ 3000 := fun h => by
      have := HES.out
      rw [h] at this
      have : eSz y = q := this
      omega
    have HSq := Lib.hid hSq
    have hTr : ∀ f, (Fence.wide.inRound l).fn f := fun _ => trivial
    have hd1 : 1 ≤ 6 - 1 - 1 := by omega
    clear hS hS1 hS2 hys hyz hS3 hcnt hbx hb0 hbox hbox' hex hel hy hW1 hW1n hW1b hW1x hW1w hW1f hcn hes hbb hq hSq hs
    gi_wp2_with (gi_at_call 43; rw [← HW1.out]; refine (CallsIn.inRound l (callsIn_wide.2 HBARE.out)).mono ?_)
    rintro e w2 ⟨rfl, hb2⟩
    have HB2 := Lib.hid hb2
    cases bb with
    | true =>
      clear c0 c1 c2 c3 c4 c5 c6 c7 c8 c9 ca cb hn0 hnf hb2
      gi_wp2
      exact HFIN.out _ _ 1 HB2.out (by rw [HES.out]; rfl) rfl
    | false =>
      have hn2 := (hb2.block _ (by omega)).trans HN1.out
      have hbx2 := (hb2.block b (by omega)).trans HB1.out
      have hS2q := HSq.out rfl
      have HWR : Hid (IntKind.i64.wrap ((S : Int) + 1 + (q : Int)) = (S : Int) + 1 + (q : Int)) := IntWalk.i64_in _ (by omega)
      clear c0 c1 c2 c3 c4 c5 c6 c7 c8 c9 ca cb hn0 hnf hb2
      have n2 := exCell hn2 0
      have f2 := Lib.frozen_of_heap hn2 0
      obtain ⟨c0, c1, c2, c3, c4, c5, c6, c7, c8, c9, ca, cb⟩ := ctBox hbx2
      have HD0 : Hid (Below W1.heap.size W1 w2.drew) := HB2.out.drew
      clear hn2 hbx2
      gi_wp2
      gi_region_with ((gi_at_call 37; refine (CallsIn.inRound l (callsIn_wide.2 (HSZ.out _ HD0.out))).mono ?_; rintro e w3 ⟨rfl, hb3⟩; have HB3 := Lib.hid (HD0.out.trans (hb3.mono HD0.out.size)); have hn3 := (HB3.out.block (w.heap.size + 1) (by omega)).trans HN1.out; have n3 := exCell hn3 0; have f3 := Lib.frozen_of_heap hn3 0; clear hn3 hb3))
      all_goals
        gi_wp2
        try rw [HWR.out]
        exact HFIN2.out _ _ q HB3.out (by rw [HES.out]; rfl)
  case done =>
    rintro D W hD ⟨hb0, hcnt, hbx⟩ hK
    rw [List.take_length, HSUM.out] at hcnt
    obtain ⟨Z, hZ⟩ : ∃ Z, Z = x.csz := ⟨_, rfl⟩
    rw [← hZ] at hcnt ⊢
    have n0 := exCell hcnt 0
    have HK := Lib.hid hK
    have HB := Lib.hid hb0
    have HZZ := Lib.hid hZ
    clear hcnt hbx hb0 hK hZ hcz HSUM HAT hS hI0
    gi_wp2
    refine ⟨by simp, .inl ⟨_, _, rfl, run_takeDeferred HK.out, ?_⟩⟩
    refine ⟨.int .i64 (Z : Int), by simp [results, Tryd.results27, go_sem], by rw [HZZ.out], ?_⟩
    exact HB.out.grown (grownBy_putObj' W D (.deferred none)) HB.out.size (fun k e => by injection e with e; omega)
  case stop =>
    rintro D W hD h hK
    exact h.elim

end Go.Proofs.YtijkefflpojmhaaDoor

namespace Go.Proofs.YtijkefflpojmhaaDoor
open Go.RowKit

theorem all_flat (l : List Ct) (p : Ct → Bool) (h : ∀ y ∈ l, (pre y).all p = formX y) : ((l.map pre).flatten).all p = l.all formX := by
  induction l with
  | nil => rfl
  | cons a l ih =>
    rw [List.map_cons, List.flatten_cons, List.all_append, h a (List.mem_cons_self ..), ih fun y hy => h y (List.mem_cons_of_mem _ hy), List.all_cons]
theorem form_pre : ∀ (x : Ct), (pre x).all nodeX = formX x
  | .mk k f t n e d ds l => by
    rw [pre_is, formX_is, List.all_cons, all_flat _ _ fun y hy => form_pre y, Bool.and_comm]
termination_by x => SizeOf.sizeOf x
decreasing_by
  have := List.sizeOf_lt_of_mem hy
  simp only [Ct.mk.sizeOf_spec]
  simp only [Ct.sub] at this
  omega
theorem pre_kok : ∀ (n : Nat) (x : Ct) {y : Ct}, CKOk n x → y ∈ pre x → CKOk n y
  | 0, _, _, h, _ => h.elim
  | n + 1, x, y, h, hy => by
    rw [pre_is, List.mem_cons] at hy
    rcases hy with rfl | hy
    · exact h
    · obtain ⟨_, h1, h2⟩ := List.mem_flatten.1 hy
      obtain ⟨z, hz, rfl⟩ := List.mem_map.1 h1
      exact CKOk.up (by omega) (pre_kok n z (h.2.2 z hz) h2)
/-- A node, in a later world. -/
theorem CtIn.node {n : Nat} {x y : Ct} {cs cs' : List Value} {w w' Wg : World} (h : CtIn n x cs w Wg) (hy : y ∈ pre x) (hc : CtAt n w cs' y) (hb : Below w.heap.size w w') : CtIn n y cs' w' Wg := by
  obtain ⟨_, hk, hz, ⟨d, hd, hs⟩, hp, ho⟩ := h
  obtain ⟨e, he, hcs⟩ := pre_csm d x hs hy
  exact ⟨CtAt.below hb hc, pre_kok n x hk hy, Nat.le_trans (pre_small x hy) hz, ⟨e, by omega, hcs⟩, hp, ho.trans (hb.mono ho.size)⟩

end Go.Proofs.YtijkefflpojmhaaDoor

namespace Go.Proofs.YtijkefflpojmhaaDoor
open Go.RowKit Go.Shelf
attribute [local go_sem] Oper.semAt_some

/-- Between two nodes: all ahead are well-formed; the result's cell is zero. -/
def ChI (x : Ct) (ea : Option Addr) (el ec : Nat) (da : Option Addr) (dl dc : Nat) (a : Option Addr) (len cap : Nat) (w : World) (D : Nat) (s : Nat) (W : World) : Prop :=
  Below w.heap.size w W ∧ W.heap[w.heap.size + 1]? = some (.cells #[.int .i64 0] 32) ∧ W.heap[D]? = some (.cells #[.int .u8 x.kind, .string x.frm, .string x.too, .string x.name, .int .u8 x.expr.kind, .string x.expr.rat, .string x.expr.name, .int .i64 x.expr.date, .slice ea el ec, .int .i64 x.date, .slice da dl dc, .slice a len cap] 29) ∧ ∀ i y, i < s → (pre x)[i]? = some y → nodeX y = true
def ChX (x : Ct) (w : World) (W : World) : Prop :=
  Below w.heap.size w W ∧ W.heap[w.heap.size + 1]? = some (.cells #[.int .i64 8] 32) ∧ formX x = false
theorem chI_own (x : Ct) (ea : Option Addr) (el ec : Nat) (da : Option Addr) (dl dc : Nat) (a : Option Addr) (len cap : Nat) (w : World) (D B : Nat) (hB : w.heap.size + 2 ≤ B) (hD : D < B) : OwnFrom B (ChI x ea el ec da dl dc a len cap w D) := by
  intro s W W' row ⟨h1, h2, h3, h4⟩ hg hr
  have hne : ∀ j, j < B → some j ≠ row := fun j hj e => by have := (hr j e.symm).1; omega
  have l2 := (Array.getElem?_eq_some_iff.1 h2).1
  have l3 := (Array.getElem?_eq_some_iff.1 h3).1
  exact ⟨h1.grown hg h1.size (fun k hk => by have := (hr k hk).1; omega), (hg.block _ l2 (hne _ (by omega))).trans h2, (hg.block _ l3 (hne _ hD)).trans h3, h4⟩
theorem chX_own (x : Ct) (w : World) (B : Nat) (hB : w.heap.size + 2 ≤ B) : OwnFrom B (fun (_ : Unit) W => ChX x w W) := by
  intro s W W' row ⟨h1, h2, h3⟩ hg hr
  have hne : ∀ j, j < B → some j ≠ row := fun j hj e => by have := (hr j e.symm).1; omega
  have l2 := (Array.getElem?_eq_some_iff.1 h2).1
  exact ⟨h1.grown hg h1.size (fun k hk => by have := (hr k hk).1; omega), (hg.block _ l2 (hne _ (by omega))).trans h2, h3⟩

set_option maxHeartbeats 4000000 in
set_option maxRecDepth 100000 in
theorem pcchk_any (n : Nat) (x : Ct) (cs : List Value) (w Wg : World) (hpt : PtsAt Wg) (h : CtIn n x cs w Wg) : Calls Tryd.prog 18 #[.agg cs.toArray] w (IntP w (chkC x)) := by
  have hsh := h.at_.shape
  obtain ⟨ea, el, ec, da, dl, dc, a, len, cap, rfl, _⟩ := hsh
  show Calls Tryd.prog 18 #[.agg #[.int .u8 x.kind, .string x.frm, .string x.too, .string x.name, .int .u8 x.expr.kind, .string x.expr.rat, .string x.expr.name, .int .i64 x.expr.date, .slice ea el ec, .int .i64 x.date, .slice da dl dc, .slice a len cap]] w _
  obtain ⟨W0, hW0⟩ : ∃ W0, W0 = (w.alloc (.cells #[.int .u8 x.kind, .string x.frm, .string x.too, .string x.name, .int .u8 x.expr.kind, .string x.expr.rat, .string x.expr.name, .int .i64 x.expr.date, .slice ea el ec, .int .i64 x.date, .slice da dl dc, .slice a len cap] 29)).alloc (.cells #[.int .i64 0] 32) := ⟨_, rfl⟩
  have hbx : W0.heap[w.heap.size]? = some (.cells #[.int .u8 x.kind, .string x.frm, .string x.too, .string x.name, .int .u8 x.expr.kind, .string x.expr.rat, .string x.expr.name, .int .i64 x.expr.date, .slice ea el ec, .int .i64 x.date, .slice da dl dc, .slice a len cap] 29) := by rw [hW0]; exact heap_two ..
  have hby : W0.heap[w.heap.size + 1]? = some (.cells #[.int .i64 0] 32) := by rw [hW0]; exact alloc_new _ _ _ (World.size_alloc _ _)
  have hB0 : Below w.heap.size w W0 := by rw [hW0]; exact (own_below w _).alloc (by simp) _
  have hsz0 : W0.heap.size = w.heap.size + 2 := by rw [hW0]; simp
  have h0 := h.below hB0
  have hcz := Ct.csz_le x
  have hxz := h.size
  have HC : ∀ W, Below W0.heap.size W0 W → _ := fun W hW => ctBox ((hW.block _ (Array.getElem?_eq_some_iff.1 hbx).1).trans hbx)
  have HY : Hid (∀ W, Below W0.heap.size W0 W → W.heap[w.heap.size + 1]? = some (.cells #[.int .i64 0] 32)) := fun W hW => (hW.block _ (Array.getElem?_eq_some_iff.1 hby).1).trans hby
  have HSZ : Hid (∀ W, Below W0.heap.size W0 W → Calls Tryd.prog 27 #[.agg #[.int .u8 x.kind, .string x.frm, .string x.too, .string x.name, .int .u8 x.expr.kind, .string x.expr.rat, .string x.expr.name, .int .i64 x.expr.date, .slice ea el ec, .int .i64 x.date, .slice da dl dc, .slice a len cap]] W (IntP W (x.csz : Int))) := fun W hW => pcsize_any n x _ W (CtAt.below hW h0.at_) h.size (h.small.imp fun _ q => q.2)
  have HDP : Hid (∀ W, Below W0.heap.size W0 W → Calls Tryd.prog 28 #[.agg #[.int .u8 x.kind, .string x.frm, .string x.too, .string x.name, .int .u8 x.expr.kind, .string x.expr.rat, .string x.expr.name, .int .i64 x.expr.date, .slice ea el ec, .int .i64 x.date, .slice da dl dc, .slice a len cap]] W (IntP W (x.cdp : Int))) := fun W hW => pcdepth_any n x _ W (CtAt.below hW h0.at_) h.size h.sm9
  have hcd : x.cdp ≤ 1000 := by
    obtain ⟨d, h9, hd⟩ := h.sm9
    have := hd.cdp; omega
  obtain ⟨R, hR⟩ : ∃ R, R = chkC x := ⟨_, rfl⟩
  rw [← hR]
  have HW0 := Lib.hid hW0
  have HB0 := Lib.hid hB0
  have HIN := Lib.hid h
  have HPT := Lib.hid hpt
  have HCC := Lib.hid HC
  obtain ⟨sz, hsz⟩ : ∃ q, q = x.csz := ⟨_, rfl⟩
  obtain ⟨dp, hdp⟩ : ∃ q, q = x.cdp := ⟨_, rfl⟩
  have hcx : R = if 500 < sz ∨ 60 < dp then 4 else if formX x then 0 else 8 := by rw [hR, hsz, hdp]; rfl
  have hszb : sz ≤ 3000 := by omega
  have hdpb : dp ≤ 1000 := by omega
  rw [← hsz] at HSZ
  rw [← hdp] at HDP
  have HCX := Lib.hid hcx
  have hTf : ∀ f, Fence.wide.fn f := fun _ => trivial
  clear hR hW0 hB0 HC h0 h hbx hby hsz hdp hcx hcz hxz hcd hpt
  refine (callsIn_wide (n := 6)).1 ?_
  refine callsIn_of_wp_marks Tryd.func18 rfl trivial ?_ rfl
  simp only [Tryd.ntmps18, List.size_toArray, List.length_cons, List.length_nil, Nat.reduceAdd, Nat.reduceSub, Array.replicate_succ, Array.replicate_zero, List.push_toArray, List.append_toArray, List.nil_append, List.cons_append]
  gi_wp2_with (gi_at_call 27; rw [← HW0.out]; refine (callsIn_wide.2 (HSZ.out _ (Below.refl _ _))).mono ?_)
  rintro e w1 ⟨rfl, hb⟩
  have HB1 := Lib.hid hb
  have HB := Lib.hid (HB0.out.trans (hb.mono HB0.out.size))
  clear hb
  obtain ⟨c0, c1, c2, c3, c4, c5, c6, c7, c8, c9, ca, cb⟩ := HCC.out w1 HB1.out
  have y0 := exCell (HY.out w1 HB1.out) 0
  have yf := Lib.frozen_of_heap (HY.out w1 HB1.out) 0
  by_cases h5 : 500 < sz
  · have e : R = 4 := by rw [HCX.out, if_pos (.inl h5)]
    have E := Lib.hid e
    have d5 : decide ((500 : Int) < (sz : Int)) = true := decide_eq_true (by omega)
    clear e
    gi_wp2_with fail
    refine ⟨.int .i64 4, by simp [results, Tryd.results18, go_sem, World.cell?_setCell_same w1 ⟨w.heap.size + 1, 0, none⟩ (.int .i64 4) y0], by rw [E.out], HB.out.setCell (p := ⟨w.heap.size + 1, 0, none⟩) (Nat.le_succ _) _⟩
  have d5 : decide ((500 : Int) < (sz : Int)) = false := decide_eq_false (by omega)
  by_cases h6 : 60 < dp
  · have e : R = 4 := by rw [HCX.out, if_pos (.inr h6)]
    have E := Lib.hid e
    have d6 : decide ((60 : Int) < (dp : Int)) = true := decide_eq_true (by omega)
    clear e
    gi_wp2_with (gi_at_call 28; refine (callsIn_wide.2 (HDP.out _ HB1.out)).mono ?_; rintro e w2 ⟨rfl, hb2⟩; have HB2 := Lib.hid (HB1.out.trans (hb2.mono HB1.out.size)); have HBB := Lib.hid (HB.out.trans (hb2.mono HB.out.size)); clear hb2 c0 c1 c2 c3 c4 c5 c6 c7 c8 c9 ca cb y0 yf; obtain ⟨c0, c1, c2, c3, c4, c5, c6, c7, c8, c9, ca, cb⟩ := HCC.out w2 HB2.out; have y0 := exCell (HY.out w2 HB2.out) 0; have yf := Lib.frozen_of_heap (HY.out w2 HB2.out) 0)
    refine ⟨.int .i64 4, by simp [results, Tryd.results18, go_sem, World.cell?_setCell_same w2 ⟨w.heap.size + 1, 0, none⟩ (.int .i64 4) y0], by rw [E.out], HBB.out.setCell (p := ⟨w.heap.size + 1, 0, none⟩) (Nat.le_succ _) _⟩
  have d6 : decide ((60 : Int) < (dp : Int)) = false := decide_eq_false (by omega)
  gi_wp2_with (first | (gi_at_call 29; refine (callsIn_wide.2 (nodes_any x ea el ec da dl dc a len cap _)).mono ?_; rintro e w' ⟨rfl, rfl⟩) | (gi_at_call 28; refine (callsIn_wide.2 (HDP.out _ HB1.out)).mono ?_; rintro e w2 ⟨rfl, hb2⟩; have HB2 := Lib.hid (HB1.out.trans (hb2.mono HB1.out.size)); have HBB := Lib.hid (HB.out.trans (hb2.mono HB.out.size)); clear hb2 c0 c1 c2 c3 c4 c5 c6 c7 c8 c9 ca cb y0 yf; obtain ⟨c0, c1, c2, c3, c4, c5, c6, c7, c8, c9, ca, cb⟩ := HCC.out w2 HB2.out; have y0 := exCell (HY.out w2 HB2.out) 0; have yf := Lib.frozen_of_heap (HY.out w2 HB2.out) 0))
  obtain ⟨W3, hW3⟩ : ∃ W3, W3 = w2.alloc (.cells #[.int .u8 x.kind, .string x.frm, .string x.too, .string x.name, .int .u8 x.expr.kind, .string x.expr.rat, .string x.expr.name, .int .i64 x.expr.date, .slice ea el ec, .int .i64 x.date, .slice da dl dc, .slice a len cap] 29) := ⟨_, rfl⟩
  have hsz3 : W3.heap.size = w2.heap.size + 1 := by rw [hW3]; simp
  have h2s := HB2.out.size
  have hB3 : Below w.heap.size w W3 := by rw [hW3]; exact HBB.out.alloc HBB.out.size _
  have hy3 : W3.heap[w.heap.size + 1]? = some (.cells #[.int .i64 0] 32) := by rw [hW3]; exact (Below.heap_alloc _ _ _ (by omega)).trans (HY.out w2 HB2.out)
  have hbx3 : W3.heap[w2.heap.size]? = some (.cells #[.int .u8 x.kind, .string x.frm, .string x.too, .string x.name, .int .u8 x.expr.kind, .string x.expr.rat, .string x.expr.name, .int .i64 x.expr.date, .slice ea el ec, .int .i64 x.date, .slice da dl dc, .slice a len cap] 29) := by rw [hW3]; exact World.alloc_heap_new w2 _
  have hI0 : ChI x ea el ec da dl dc a len cap w w2.heap.size 0 W3 := ⟨hB3, hy3, hbx3, fun i y hi => absurd hi (Nat.not_lt_zero _)⟩
  rw [← hW3]
  have hS := nodes_seq x ea el ec da dl dc a len cap w n n 5 w2.heap.size W3.heap.size (by omega) HIN.out.at_ (Nat.le_refl _) HIN.out.size
  have HFP := Lib.hid (form_pre x)
  clear hW3 hB3 hy3 hbx3 c0 c1 c2 c3 c4 c5 c6 c7 c8 c9 ca cb y0 yf
  refine range_nx (by omega) (gf := 45) (lb := #[.pointer (some ⟨w2.heap.size, 0, none⟩)]) rfl (enters_of Tryd.func45 (by kernel_rfl) rfl) hS rfl
    (ChI x ea el ec da dl dc a len cap w w2.heap.size) (ChX x w) (chI_own x ea el ec da dl dc a len cap w _ _ (by omega) (by omega)) (chX_own x w _ (by omega)) (fun s W h => ⟨h.1, h.2.2.1⟩) hI0
    (fun v b => { tmps := #[.agg #[.int .u8 x.kind, .string x.frm, .string x.too, .string x.name, .int .u8 x.expr.kind, .string x.expr.rat, .string x.expr.name, .int .i64 x.expr.date, .slice ea el ec, .int .i64 x.date, .slice da dl dc, .slice a len cap], .pointer (some ⟨w.heap.size, 0, none⟩), .pointer (some ⟨w.heap.size + 1, 0, none⟩), .pointer (some ⟨b, 0, none⟩), .agg #[.int .u8 x.kind, .string x.frm, .string x.too, .string x.name, .int .u8 x.expr.kind, .string x.expr.rat, .string x.expr.name, .int .i64 x.expr.date, .slice ea el ec, .int .i64 x.date, .slice da dl dc, .slice a len cap], .int .i64 (sz : Int), .bool false, .bool false, .agg #[.int .u8 x.kind, .string x.frm, .string x.too, .string x.name, .int .u8 x.expr.kind, .string x.expr.rat, .string x.expr.name, .int .i64 x.expr.date, .slice ea el ec, .int .i64 x.date, .slice da dl dc, .slice a len cap], .int .i64 (dp : Int), .bool false, .bool false, .agg #[.int .u8 x.kind, .string x.frm, .string x.too, .string x.name, .int .u8 x.expr.kind, .string x.expr.rat, .string x.expr.name, .int .i64 x.expr.date, .slice ea el ec, .int .i64 x.date, .slice da dl dc, .slice a len cap], .func (.func 45) #[] #[.pointer (some ⟨w2.heap.size, 0, none⟩)], v, undef, undef, undef], defers := [] }) boxV ?assign ?body ?done ?stop
  case assign =>
    rintro l v s W K ⟨y, cs, hy, rfl, hc⟩ hI hK
    obtain ⟨eap, elp, ecp, dap, dlp, dcp, ap, lenp, capp, rfl, _⟩ := hc.shape
    have e : ctCells y eap elp ecp dap dlp dcp ap lenp capp = [.int .u8 y.kind, .string y.frm, .string y.too, .string y.name, .int .u8 y.expr.kind, .string y.expr.rat, .string y.expr.name, .int .i64 y.expr.date, .slice eap elp ecp, .int .i64 y.date, .slice dap dlp dcp, .slice ap lenp capp] := rfl
    rw [e] at hK ⊢
    gi_wp2
    exact hK
  case body =>
    rintro l s v b W ⟨hb0, hcnt, hbx, hall⟩ hs ⟨y, cs, hy, rfl, hc⟩ hbB hbox
    have hmem := List.mem_of_getElem? hy
    have hnd := HIN.out.node hmem hc hb0
    obtain ⟨eap, elp, ecp, dap, dlp, dcp, ap, lenp, capp, rfl, _⟩ := hc.shape
    have e : ctCells y eap elp ecp dap dlp dcp ap lenp capp = [.int .u8 y.kind, .string y.frm, .string y.too, .string y.name, .int .u8 y.expr.kind, .string y.expr.rat, .string y.expr.name, .int .i64 y.expr.date, .slice eap elp ecp, .int .i64 y.date, .slice dap dlp dcp, .slice ap lenp capp] := rfl
    rw [e] at hnd ⊢
    have hbox' : W.heap[b]? = some (.cells #[.int .u8 y.kind, .string y.frm, .string y.too, .string y.name, .int .u8 y.expr.kind, .string y.expr.rat, .string y.expr.name, .int .i64 y.expr.date, .slice eap elp ecp, .int .i64 y.date, .slice dap dlp dcp, .slice ap lenp capp] 29) := hbox
    have HND := Lib.hid (pnode_any HPT.out n y _ W hnd)
    obtain ⟨r, hr⟩ : ∃ r, r = nodeX y := ⟨_, rfl⟩
    rw [← hr] at HND
    obtain ⟨c0, c1, c2, c3, c4, c5, c6, c7, c8, c9, ca, cb⟩ := ctBox hbox'
    have hsW : W3.heap.size ≤ W.heap.size := by have := (Array.getElem?_eq_some_iff.1 hbox').1; omega
    have HT : Hid (∀ (A : Act) (W2 : World), Below W.heap.size W W2 → r = true → RoundNx W3.heap.size s (ChI x ea el ec da dl dc a len cap w w2.heap.size) (ChX x w) W .normal A W2) := fun _ W2 hW2 hr1 =>
      ⟨FrmW.below hW2, hb0.trans (hW2.mono hb0.size), (hW2.block _ (Array.getElem?_eq_some_iff.1 hcnt).1).trans hcnt, (hW2.block _ (Array.getElem?_eq_some_iff.1 hbx).1).trans hbx, fun i z hi hz => by
        rcases Nat.lt_or_ge i s with h | h
        · exact hall i z h hz
        · have : i = s := by omega
          subst this
          rw [hy] at hz
          injection hz with hz
          rw [← hz, ← hr, hr1]⟩
    have HF : Hid (∀ (A : Act) (W2 : World), Below W.heap.size W W2 → r = false → RoundNx W3.heap.size s (ChI x ea el ec da dl dc a len cap w w2.heap.size) (ChX x w) W .ret A (W2.setCell ⟨w.heap.size + 1, 0, none⟩ (.int .i64 8))) := fun _ W2 hW2 hr1 => by
      have hc2 := (hW2.block _ (Array.getElem?_eq_some_iff.1 hcnt).1).trans hcnt
      refine ⟨(FrmW.below hW2).trans (FrmW.set (by show w.heap.size + 1 < W3.heap.size; omega) _), (hb0.trans (hW2.mono hb0.size)).setCell (p := ⟨w.heap.size + 1, 0, none⟩) (by show w.heap.size ≤ w.heap.size + 1; omega) _, ?_, ?_⟩
      · simp [World.setCell, Array.getElem?_modify, hc2]
      · rw [← HFP.out, List.all_eq_false]
        exact ⟨y, hmem, by rw [← hr, hr1]; decide⟩
    have HCN := Lib.hid hcnt
    have hTr : ∀ f, (Fence.wide.inRound l).fn f := fun _ => trivial
    have hd1 : 1 ≤ 6 - 1 - 1 := by omega
    clear hbx hcnt hall hb0 hbox hbox' hc hy hmem hnd hr hs hS hI0
    cases r with
    | true =>
      gi_wp2_with (gi_at_call 30; refine (CallsIn.inRound l (callsIn_wide.2 HND.out)).mono ?_; rintro e W2 ⟨rfl, hb2⟩; have HB := Lib.hid hb2; clear hb2 c0 c1 c2 c3 c4 c5 c6 c7 c8 c9 ca cb)
      exact HT.out _ _ HB.out (by first | rfl | trivial)
    | false =>
      gi_wp2_with (gi_at_call 30; refine (CallsIn.inRound l (callsIn_wide.2 HND.out)).mono ?_; rintro e W2 ⟨rfl, hb2⟩; have HB := Lib.hid hb2; have hc2 := (hb2.block _ (Array.getElem?_eq_some_iff.1 HCN.out).1).trans HCN.out; have n2 := exCell hc2 0; have f2 := Lib.frozen_of_heap hc2 0; clear hb2 hc2 c0 c1 c2 c3 c4 c5 c6 c7 c8 c9 ca cb)
      exact HF.out _ _ HB.out (by first | rfl | trivial)
  case done =>
    rintro D W hD ⟨hb0, hcnt, hbx, hall⟩ hK
    have hform : formX x = true := by
      rw [← HFP.out, List.all_eq_true]
      intro y hy
      obtain ⟨i, hi, rfl⟩ := List.getElem_of_mem hy
      exact hall i _ hi (List.getElem?_eq_getElem hi)
    have e0 : R = 0 := by rw [HCX.out, if_neg (by omega), hform]; rfl
    have E := Lib.hid e0
    have HK := Lib.hid hK
    have HB := Lib.hid hb0
    have hne : w.heap.size + 1 ≠ D := by omega
    have n0 := exCell hcnt 0
    have f0 := Lib.frozen_of_heap hcnt 0
    have HCN := Lib.hid hcnt
    clear hcnt hbx hall hK hb0 hform e0 hS hI0
    gi_wp2
    have hK2 : (W.setCell ⟨w.heap.size + 1, 0, none⟩ (.int .i64 0)).heap[D]? = some (.deferred (some [])) := (Below.heap_setCell _ _ _ _ (Ne.symm hne)).trans HK.out
    refine ⟨by simp, .inl ⟨_, _, rfl, run_takeDeferred hK2, ?_⟩⟩
    have hc : ((W.setCell ⟨w.heap.size + 1, 0, none⟩ (.int .i64 0)).putObj D (.deferred none)).cell? ⟨w.heap.size + 1, 0, none⟩ = some (.int .i64 0) := by
      have e := (World.putObj_heap_other (w := W.setCell ⟨w.heap.size + 1, 0, none⟩ (.int .i64 0)) (o := .deferred none) hne)
      have e2 : (W.setCell ⟨w.heap.size + 1, 0, none⟩ (.int .i64 0)).heap[w.heap.size + 1]? = some (.cells #[.int .i64 0] 32) := by simp [World.setCell, Array.getElem?_modify, HCN.out]
      exact exCell (e.trans e2) 0
    refine ⟨.int .i64 0, by simp [results, Tryd.results18, go_sem, hc], by rw [E.out], ?_⟩
    have hs2 := HB.out.setCell (p := ⟨w.heap.size + 1, 0, none⟩) (by show w.heap.size ≤ w.heap.size + 1; omega) (.int .i64 0)
    exact hs2.grown (grownBy_putObj' _ D (.deferred none)) hs2.size (fun k e => by injection e with e; omega)
  case stop =>
    rintro D W hD ⟨hb0, hcnt, hform⟩ hK
    have e0 : R = 8 := by rw [HCX.out, if_neg (by omega), hform]; rfl
    have E := Lib.hid e0
    have HK := Lib.hid hK
    have HB := Lib.hid hb0
    have hne : w.heap.size + 1 ≠ D := by omega
    have HCN := Lib.hid hcnt
    clear hcnt hK hb0 hform e0 hS hI0
    gi_wp2
    refine ⟨by simp, .inl ⟨_, _, rfl, run_takeDeferred HK.out, ?_⟩⟩
    have hc : (W.putObj D (.deferred none)).cell? ⟨w.heap.size + 1, 0, none⟩ = some (.int .i64 8) := exCell ((World.putObj_heap_other (w := W) (o := .deferred none) hne).trans HCN.out) 0
    refine ⟨.int .i64 8, by simp [results, Tryd.results18, go_sem, hc], by rw [E.out], ?_⟩
    exact HB.out.grown (grownBy_putObj' W D (.deferred none)) HB.out.size (fun k e => by injection e with e; omega)

end Go.Proofs.YtijkefflpojmhaaDoor

namespace Go.Proofs.YtijkefflpojmhaaDoor
open Go.RowKit

/-- What a printing returns. -/
def prS (c : Int) (t : List UInt8) : ByteArray := if c ≠ 0 then ⟨#[]⟩ else if 20000 < t.length then ⟨#[]⟩ else ⟨t.toArray⟩
def prE (c : Int) (t : List UInt8) : Int := if c ≠ 0 then c else if 20000 < t.length then 4 else 0
def PrP (w : World) (s : ByteArray) (v : Int) (e : Ending) (w' : World) : Prop := e = .returned (.tuple #[.string s, .int .i64 v]) ∧ Below w.heap.size w w'

set_option maxHeartbeats 2000000 in
set_option maxRecDepth 100000 in
theorem pprint_any (n : Nat) (x : Ex) (cs : List Value) (w Wg : World) (h : ExIn n x cs w Wg) (hz7 : x.size ≤ 700) : Calls Tryd.prog 13 #[.agg cs.toArray] w (PrP w (prS (chkX x) (rexT n x)) (prE (chkX x) (rexT n x))) := by
  have hsh := h.at_.shape
  obtain ⟨a, len, cap, rfl, _⟩ := hsh
  obtain ⟨W0, hW0⟩ : ∃ W0, W0 = w.alloc (.cells #[.int .u8 x.kind, .string x.rat, .string x.name, .int .i64 x.date, .slice a len cap] 25) := ⟨_, rfl⟩
  have hB0 : Below w.heap.size w W0 := by rw [hW0]; exact own_below w _
  have hbx : W0.heap[w.heap.size]? = some (.cells #[.int .u8 x.kind, .string x.rat, .string x.name, .int .i64 x.date, .slice a len cap] 25) := by rw [hW0]; exact heap_alloc_new w _
  have h0 := h.below hB0
  have HCK : Hid (Calls Tryd.prog 22 #[.agg #[.int .u8 x.kind, .string x.rat, .string x.name, .int .i64 x.date, .slice a len cap]] W0 (IntP W0 (chkX x))) := pchkx_any n x _ W0 Wg h0
  have HCC : Hid (∀ W, Below W0.heap.size W0 W → _) := fun W hW => exCells ((hW.block _ (Array.getElem?_eq_some_iff.1 hbx).1).trans hbx)
  have HOK : Hid (chkX x = 0 → OkX n x ∧ rexT n x ≠ [] ∧ (rexT n x).length ≤ 2000000) := fun hc => by
    have hs : x.srt ≠ 0 := by intro e; unfold chkX at hc; rw [e] at hc; split at hc <;> simp at hc
    have hok := ok_of_srt n h.at_ hs
    exact ⟨hok, rexT_ne hok (srt_rat hs), by have := rexT_len n x 90 hok h.small; omega⟩
  have HPT : Hid (pexT n x 0 = rexT n x) := by
    show _ = _
    rw [pex_rex, opO_0]; rfl
  have HAT := Lib.hid h.at_
  obtain ⟨c, hc⟩ : ∃ c, c = chkX x := ⟨_, rfl⟩
  rw [← hc] at HCK HOK ⊢
  obtain ⟨t, ht⟩ : ∃ t, t = rexT n x := ⟨_, rfl⟩
  rw [← ht] at HOK HPT ⊢
  obtain ⟨S, hS⟩ : ∃ S, S = prS c t := ⟨_, rfl⟩
  obtain ⟨V, hV⟩ : ∃ V, V = prE c t := ⟨_, rfl⟩
  rw [← hS, ← hV]
  have HS := Lib.hid hS
  have HV := Lib.hid hV
  have HW0 := Lib.hid hW0
  have HB0 := Lib.hid hB0
  have hzW : w.heap.size < W0.heap.size := (Array.getElem?_eq_some_iff.1 hbx).1
  obtain ⟨c0, c1, c2, c3, c4⟩ := HCC.out W0 (Below.refl _ _)
  clear hS hV hW0 hB0 hbx h0 h hc ht hz7
  by_cases hc0 : c = 0
  · subst hc0
    obtain ⟨hok, hne, htl⟩ := HOK.out rfl
    have HOX := Lib.hid hok
    have HNE := Lib.hid hne
    clear hok hne HOK
    go_enter Tryd.func13, Tryd.ntmps13
    go_wp2_with fail
    rw [← HW0.out]
    refine HCK.out.mono ?_
    rintro e w1 ⟨rfl, hb⟩
    have HB1 := Lib.hid hb
    clear hb c0 c1 c2 c3 c4
    go_wp2_with fail
    refine (words_any w1).mono ?_
    rintro e w2 ⟨m, rfl, hwd, hb, bm, rfl, hbm⟩
    have HB2 := Lib.hid (HB1.out.trans (hb.mono HB1.out.size))
    have HBM : Hid (∃ o, w2.heap[bm]? = some o) := by obtain ⟨_, hq, hh⟩ := hwd; injection hq with hq; injection hq with hq; subst hq; exact ⟨_, hh⟩
    obtain ⟨w3, hw3⟩ : ∃ w3, w3 = w2.alloc (.cells #[.pointer none, .slice none 0 0, .map (some bm)] 54) := ⟨_, rfl⟩
    have hob : w3.heap[w2.heap.size]? = some (.cells #[.pointer none, .slice none 0 0, .map (some bm)] 54) := by rw [hw3]; exact heap_alloc_new w2 _
    have hB3 : Below w2.heap.size w2 w3 := by rw [hw3]; exact own_below w2 _
    have hB03 := HB2.out.trans (hB3.mono HB2.out.size)
    have hEN : OutEnv w w2.heap.size w2.heap.size (.map (some bm)) [] w3 :=
      ⟨Nat.le_trans HB0.out.size HB2.out.size, HB0.out.trans (hB03.mono HB0.out.size), .inl ⟨Nat.le_refl _, .slice none 0 0, hob, by simpa [Lib.byteCells] using World.ownsRowF_nil w3 w2.heap.size 5 1, by simp [Value.ownBlock]⟩, hwd.below hB3, hB3.size⟩
    have HX := Lib.hid (expr_all w w2.heap.size w2.heap.size (.map (some bm)) n x _ 0 [] w3 HAT.out HOX.out (by omega) (by omega) hEN (by rw [HPT.out]; simp; omega))
    rw [HPT.out, List.nil_append] at HX
    obtain ⟨c0, c1, c2, c3, c4⟩ := HCC.out w2 HB2.out
    have hz2 : w.heap.size < w2.heap.size := Nat.lt_of_lt_of_le hzW HB2.out.size
    have HEN := Lib.hid hEN
    have HW3 := Lib.hid hw3
    clear hb hwd hbm hob hB3 hB03 hEN hw3
    go_wp2_with fail
    rw [← HW3.out]
    refine HX.out.mono ?_
    rintro e w4 ⟨rfl, hio, hok⟩
    have HT := Lib.hid (otext_any w2.heap.size w2.heap.size _ t w4 hio HNE.out (by omega))
    have HB4 : Hid (Below w.heap.size w w4) := HEN.out.old.trans (hok.1.mono HEN.out.base)
    have HBS := Lib.hid HEN.out.base
    clear hio hok c0 c1 c2 c3 c4
    unfold TxP at HT
    by_cases hl : 20000 < t.length
    · have HS2 : Hid (S = ⟨#[]⟩) := by show S = _; rw [HS.out]; simp [prS, hl]
      have HV2 : Hid (V = 4) := by show V = _; rw [HV.out]; simp [prE, hl]
      rw [if_pos hl] at HT
      go_wp2_with fail
      refine HT.out.mono ?_
      rintro e w5 ⟨rfl, hb⟩
      have HB := Lib.hid (HB4.out.trans (hb.mono HBS.out))
      clear hb
      go_wp2_with fail
      go_ret2
      exact ⟨by rw [HS2.out, HV2.out]; rfl, HB.out⟩
    · have HS2 : Hid (S = ⟨t.toArray⟩) := by show S = _; rw [HS.out]; simp only [prS]; rw [if_neg (by simp), if_neg hl]
      have HV2 : Hid (V = 0) := by show V = _; rw [HV.out]; simp only [prE]; rw [if_neg (by simp), if_neg hl]
      rw [if_neg hl] at HT
      go_wp2_with fail
      refine HT.out.mono ?_
      rintro e w5 ⟨rfl, hb⟩
      have HB := Lib.hid (HB4.out.trans (hb.mono HBS.out))
      clear hb
      go_wp2_with fail
      go_ret2
      exact ⟨by rw [HS2.out, HV2.out]; rfl, HB.out⟩
  · have q : ((c : Int) != 0) = true := ine_true hc0
    have HS2 : Hid (S = ⟨#[]⟩) := by show S = _; rw [HS.out]; simp [prS, hc0]
    have HV2 : Hid (V = c) := by show V = _; rw [HV.out]; simp [prE, hc0]
    clear hc0 HOK
    go_enter Tryd.func13, Tryd.ntmps13
    go_wp2_with fail
    rw [← HW0.out]
    refine HCK.out.mono ?_
    rintro e w1 ⟨rfl, hb⟩
    have HB := Lib.hid (HB0.out.trans (hb.mono HB0.out.size))
    clear hb
    go_wp2_with fail
    go_ret2
    exact ⟨by rw [HS2.out, HV2.out]; rfl, HB.out⟩

end Go.Proofs.YtijkefflpojmhaaDoor

namespace Go.Proofs.YtijkefflpojmhaaDoor
open Go.RowKit

theorem chkC_form {x : Ct} (h : chkC x = 0) : formX x = true := by
  unfold chkC at h
  split at h
  · cases h
  · split at h
    · assumption
    · cases h
theorem rcT_ne {n : Nat} {x : Ct} (h : OkC n x) : rcT n x ≠ [] := by
  match n, h with
  | n + 1, h =>
  intro e
  rw [rcT] at e
  by_cases h1 : x.kind = 1
  · rw [if_pos h1] at e; cases e
  rw [if_neg h1] at e
  by_cases h2 : x.kind = 2
  · rw [if_pos h2] at e
    have := congrArg List.length e
    unfold payT at this
    simp at this
  rw [if_neg h2] at e
  split at e
  · have := congrArg List.length e; simp at this
  · split at e
    · have := congrArg List.length e; simp at this
    · have := congrArg List.length e; simp at this

set_option maxHeartbeats 2000000 in
set_option maxRecDepth 100000 in
theorem pcprint_any (n : Nat) (x : Ct) (cs : List Value) (w Wg : World) (hpt : PtsAt Wg) (h : CtIn n x cs w Wg) : Calls Tryd.prog 8 #[.agg cs.toArray] w (PrP w (prS (chkC x) (rcT n x)) (prE (chkC x) (rcT n x))) := by
  have hsh := h.at_.shape
  obtain ⟨ea, el, ec, da, dl, dc, a, len, cap, rfl, _⟩ := hsh
  show Calls Tryd.prog 8 #[.agg #[.int .u8 x.kind, .string x.frm, .string x.too, .string x.name, .int .u8 x.expr.kind, .string x.expr.rat, .string x.expr.name, .int .i64 x.expr.date, .slice ea el ec, .int .i64 x.date, .slice da dl dc, .slice a len cap]] w _
  obtain ⟨W0, hW0⟩ : ∃ W0, W0 = w.alloc (.cells #[.int .u8 x.kind, .string x.frm, .string x.too, .string x.name, .int .u8 x.expr.kind, .string x.expr.rat, .string x.expr.name, .int .i64 x.expr.date, .slice ea el ec, .int .i64 x.date, .slice da dl dc, .slice a len cap] 29) := ⟨_, rfl⟩
  have hB0 : Below w.heap.size w W0 := by rw [hW0]; exact own_below w _
  have hbx : W0.heap[w.heap.size]? = some (.cells #[.int .u8 x.kind, .string x.frm, .string x.too, .string x.name, .int .u8 x.expr.kind, .string x.expr.rat, .string x.expr.name, .int .i64 x.expr.date, .slice ea el ec, .int .i64 x.date, .slice da dl dc, .slice a len cap] 29) := by rw [hW0]; exact heap_alloc_new w _
  have h0 := h.below hB0
  have HCK : Hid (Calls Tryd.prog 18 #[.agg #[.int .u8 x.kind, .string x.frm, .string x.too, .string x.name, .int .u8 x.expr.kind, .string x.expr.rat, .string x.expr.name, .int .i64 x.expr.date, .slice ea el ec, .int .i64 x.date, .slice da dl dc, .slice a len cap]] W0 (IntP W0 (chkC x))) := pcchk_any n x _ W0 Wg hpt h0
  have HCC : Hid (∀ W, Below W0.heap.size W0 W → _) := fun W hW => ctBox ((hW.block _ (Array.getElem?_eq_some_iff.1 hbx).1).trans hbx)
  have HOK : Hid (chkC x = 0 → OkC n x ∧ rcT n x ≠ [] ∧ (rcT n x).length ≤ 180000000) := fun hc => by
    obtain ⟨d, _, hd⟩ := h.small
    have hok := okc_of n h.at_ hd (chkC_form hc)
    exact ⟨hok, rcT_ne hok, (rcT_small hok hd h.size).1⟩
  have HPT : Hid (OkC n x → pcT n x 0 = rcT n x) := fun hok => by rw [pc_rc n x 0 hok, Nat.mul_zero, ind_zero]
  have hz9 := h.size
  have HAT := Lib.hid h.at_
  obtain ⟨c, hc⟩ : ∃ c, c = chkC x := ⟨_, rfl⟩
  rw [← hc] at HCK HOK ⊢
  obtain ⟨t, ht⟩ : ∃ t, t = rcT n x := ⟨_, rfl⟩
  have HTT := Lib.hid ht
  rw [← ht] at HOK ⊢
  obtain ⟨S, hS⟩ : ∃ S, S = prS c t := ⟨_, rfl⟩
  obtain ⟨V, hV⟩ : ∃ V, V = prE c t := ⟨_, rfl⟩
  rw [← hS, ← hV]
  have HS := Lib.hid hS
  have HV := Lib.hid hV
  have HW0 := Lib.hid hW0
  have HB0 := Lib.hid hB0
  have hzW : w.heap.size < W0.heap.size := (Array.getElem?_eq_some_iff.1 hbx).1
  obtain ⟨c0, c1, c2, c3, c4, c5, c6, c7, c8, c9, ca, cb⟩ := HCC.out W0 (Below.refl _ _)
  clear hS hV hW0 hB0 hbx h0 h hc ht
  by_cases hc0 : c = 0
  · subst hc0
    obtain ⟨hok, hne, htl⟩ := HOK.out rfl
    have HOX := Lib.hid hok
    have HNE := Lib.hid hne
    clear hok hne HOK
    go_enter Tryd.func8, Tryd.ntmps8
    go_wp2_with fail
    rw [← HW0.out]
    refine HCK.out.mono ?_
    rintro e w1 ⟨rfl, hb⟩
    have HB1 := Lib.hid hb
    clear hb c0 c1 c2 c3 c4 c5 c6 c7 c8 c9 ca cb
    go_wp2_with fail
    refine (words_any w1).mono ?_
    rintro e w2 ⟨m, rfl, hwd, hb, bm, rfl, hbm⟩
    have HB2 := Lib.hid (HB1.out.trans (hb.mono HB1.out.size))
    have HBM : Hid (∃ o, w2.heap[bm]? = some o) := by obtain ⟨_, hq, hh⟩ := hwd; injection hq with hq; injection hq with hq; subst hq; exact ⟨_, hh⟩
    obtain ⟨w3, hw3⟩ : ∃ w3, w3 = w2.alloc (.cells #[.pointer none, .slice none 0 0, .map (some bm)] 54) := ⟨_, rfl⟩
    have hob : w3.heap[w2.heap.size]? = some (.cells #[.pointer none, .slice none 0 0, .map (some bm)] 54) := by rw [hw3]; exact heap_alloc_new w2 _
    have hB3 : Below w2.heap.size w2 w3 := by rw [hw3]; exact own_below w2 _
    have hB03 := HB2.out.trans (hB3.mono HB2.out.size)
    have hEN : OutEnv w w2.heap.size w2.heap.size (.map (some bm)) [] w3 :=
      ⟨Nat.le_trans HB0.out.size HB2.out.size, HB0.out.trans (hB03.mono HB0.out.size), .inl ⟨Nat.le_refl _, .slice none 0 0, hob, by simpa [Lib.byteCells] using World.ownsRowF_nil w3 w2.heap.size 5 1, by simp [Value.ownBlock]⟩, hwd.below hB3, hB3.size⟩
    have HX := Lib.hid (contr_all w w2.heap.size w2.heap.size (.map (some bm)) n x _ 0 [] w3 HAT.out HOX.out (by omega) hEN (by rw [HPT.out HOX.out, ← HTT.out]; simp; omega))
    rw [HPT.out HOX.out, ← HTT.out, List.nil_append] at HX
    obtain ⟨c0, c1, c2, c3, c4, c5, c6, c7, c8, c9, ca, cb⟩ := HCC.out w2 HB2.out
    have hz2 : w.heap.size < w2.heap.size := Nat.lt_of_lt_of_le hzW HB2.out.size
    have HEN := Lib.hid hEN
    have HW3 := Lib.hid hw3
    clear hb hwd hbm hob hB3 hB03 hEN hw3
    go_wp2_with fail
    rw [← HW3.out]
    refine HX.out.mono ?_
    rintro e w4 ⟨rfl, hio, hok⟩
    have HT := Lib.hid (otext_any w2.heap.size w2.heap.size _ t w4 hio HNE.out (by omega))
    have HB4 : Hid (Below w.heap.size w w4) := HEN.out.old.trans (hok.1.mono HEN.out.base)
    have HBS := Lib.hid HEN.out.base
    clear hio hok c0 c1 c2 c3 c4 c5 c6 c7 c8 c9 ca cb
    unfold TxP at HT
    by_cases hl : 20000 < t.length
    · have HS2 : Hid (S = ⟨#[]⟩) := by show S = _; rw [HS.out]; simp [prS, hl]
      have HV2 : Hid (V = 4) := by show V = _; rw [HV.out]; simp [prE, hl]
      rw [if_pos hl] at HT
      go_wp2_with fail
      refine HT.out.mono ?_
      rintro e w5 ⟨rfl, hb⟩
      have HB := Lib.hid (HB4.out.trans (hb.mono HBS.out))
      clear hb
      go_wp2_with fail
      go_ret2
      exact ⟨by rw [HS2.out, HV2.out]; rfl, HB.out⟩
    · have HS2 : Hid (S = ⟨t.toArray⟩) := by show S = _; rw [HS.out]; simp only [prS]; rw [if_neg (by simp), if_neg hl]
      have HV2 : Hid (V = 0) := by show V = _; rw [HV.out]; simp only [prE]; rw [if_neg (by simp), if_neg hl]
      rw [if_neg hl] at HT
      go_wp2_with fail
      refine HT.out.mono ?_
      rintro e w5 ⟨rfl, hb⟩
      have HB := Lib.hid (HB4.out.trans (hb.mono HBS.out))
      clear hb
      go_wp2_with fail
      go_ret2
      exact ⟨by rw [HS2.out, HV2.out]; rfl, HB.out⟩
  · have q : ((c : Int) != 0) = true := ine_true hc0
    have HS2 : Hid (S = ⟨#[]⟩) := by show S = _; rw [HS.out]; simp [prS, hc0]
    have HV2 : Hid (V = c) := by show V = _; rw [HV.out]; simp [prE, hc0]
    clear hc0 HOK
    go_enter Tryd.func8, Tryd.ntmps8
    go_wp2_with fail
    rw [← HW0.out]
    refine HCK.out.mono ?_
    rintro e w1 ⟨rfl, hb⟩
    have HB := Lib.hid (HB0.out.trans (hb.mono HB0.out.size))
    clear hb
    go_wp2_with fail
    go_ret2
    exact ⟨by rw [HS2.out, HV2.out]; rfl, HB.out⟩

end Go.Proofs.YtijkefflpojmhaaDoor

namespace Go.Proofs.YtijkefflpojmhaaDoor
open Go.RowKit

def eS : ByteArray := ⟨#[]⟩
def exM (k : Int) (a b : Ex) : Ex := .mk k eS eS 0 [a, b]
def exR (r : ByteArray) : Ex := .mk 1 r eS 0 []
def exNow (s : ByteArray) : Ex := .mk 3 eS s 0 []
def exB : Ex := .mk 0 eS eS 0 []
def zeC : Ct := .mk 1 eS eS eS exB 0 [] []
def alE : Ex := exM 6 (exR ⟨#[50]⟩) (exM 5 (exNow ⟨#[88]⟩) (exR ⟨#[45, 49]⟩))
def alC : Ct := .mk 2 ⟨#[65]⟩ ⟨#[66]⟩ ⟨#[69, 85, 82]⟩ alE 0 [] []
def alO : Ct := .mk 6 eS eS eS exB 10 [] [zeC]
def alD : Ct := .mk 3 eS eS eS exB 0 [] [zeC, alO]
theorem date_10 : DateIs 10 1900 1 11 := ⟨by decide, by decide, by decide, by decide, of_decide_eq_true (by kernel_rfl), of_decide_eq_true (by kernel_rfl)⟩
theorem dateB_eq {y m d y' m' d' : Nat} (h : y = y' ∧ m = m' ∧ d = d') : dateB y' m' d' = dateB y m d := by
  obtain ⟨rfl, rfl, rfl⟩ := h; rfl
theorem dtxt_is {n : Int} {y m d : Nat} (h : DateIs n.toNat y m d) : dtxt n = dateB y m d :=
  dateB_eq (h.unique (date_exists n.toNat).choose_spec.choose_spec.choose_spec)
theorem dtxt_10 : dtxt 10 = [49, 57, 48, 48, 45, 48, 49, 45, 49, 49] := by
  rw [dtxt_is (n := 10) date_10]; decide
theorem alC_txt : rcT 4 alC = [65, 32, 112, 97, 121, 115, 32, 50, 32, 42, 32, 40, 88, 64, 110, 111, 119, 32, 45, 32, 45, 49, 41, 32, 69, 85, 82, 32, 116, 111, 32, 66] := by
  simp [rcT, alC, Ct.kind, payT, rexT, Ct.expr, Ct.frm, Ct.too, Ct.name, alE, exM, exR, exNow, Ex.kind, Ex.rat, Ex.name, Ex.sub, prt, parT, sumB, leafT, opS, qn, kwB, kwL]
theorem alD_txt : rcT 4 alD = [98, 111, 116, 104, 32, 123, 10, 32, 32, 110, 111, 116, 104, 105, 110, 103, 59, 10, 32, 32, 111, 110, 32, 49, 57, 48, 48, 45, 48, 49, 45, 49, 49, 32, 123, 10, 32, 32, 32, 32, 110, 111, 116, 104, 105, 110, 103, 10, 32, 32, 125, 10, 125] := by
  simp [rcT, alD, alO, zeC, Ct.kind, crt, Ct.sub, headT, Ct.date, dtxt_10, nothT, mvT, inT, ind]
theorem chkR_2 : chkR [50] = 0 := by
  rw [chkR_int (by decide)]
  unfold chkZ
  rw [if_neg (by decide), chkN_yes ⟨by decide, by decide, by decide⟩]; rfl
theorem chkR_m1 : chkR [45, 49] = 0 := by
  rw [chkR_int (by decide)]
  unfold chkZ
  rw [if_pos (by decide)]
  show (if [(49 : UInt8)] = [48] then (12 : Int) else chkN [49]) = 0
  rw [if_neg (by decide), chkN_yes ⟨by decide, by decide, by decide⟩]; rfl
theorem alE_srt : alE.srt = 1 := by
  have h1 : (exR ⟨#[50]⟩).srt = 1 := by rw [Ex.srt_is]; simp [exR, srtP, shpL, Ex.kind, Ex.rat, Ex.name, Ex.date, Ex.sub, leafV, eS, chkR_2]
  have h2 : (exR ⟨#[45, 49]⟩).srt = 1 := by rw [Ex.srt_is]; simp [exR, srtP, shpL, Ex.kind, Ex.rat, Ex.name, Ex.date, Ex.sub, leafV, eS, chkR_m1]
  have h3 : (exNow ⟨#[88]⟩).srt = 1 := by rw [Ex.srt_is]; simp [exNow, srtP, shpL, Ex.kind, Ex.rat, Ex.name, Ex.date, Ex.sub, leafV, eS]; decide
  have h4 : (exM 5 (exNow ⟨#[88]⟩) (exR ⟨#[45, 49]⟩)).srt = 1 := by rw [Ex.srt_is]; simp [exM, srtP, shpL, Ex.kind, Ex.rat, Ex.name, Ex.date, Ex.sub, h2, h3, bareB, eS]
  rw [Ex.srt_is]
  simp [alE, exM, srtP, shpL, Ex.kind, Ex.rat, Ex.name, Ex.date, Ex.sub, h1, bareB, eS]
  simpa [exM, eS] using h4
theorem alE_size : alE.size = 5 := by simp [alE, exM, exR, exNow, Ex.size_is, Ex.sub]
theorem alE_depth : alE.depth = 3 := by simp [alE, exM, exR, exNow, Ex.depth_is, Ex.sub, maxD]
theorem exB_bare : bareX exB = true := by
  unfold bareX; rw [toList_data, toList_data]; decide
theorem alE_chk : chkX alE = 0 := by
  unfold chkX; rw [alE_size, alE_depth, alE_srt]; decide
theorem alE_num : numX alE = true := by
  unfold numX; rw [alE_chk, alE_srt]; rfl
theorem alE_bare : bareX alE = false := by
  unfold bareX; rw [toList_data, toList_data]; decide
theorem zeC_form : formX zeC = true := by
  rw [formX_is]
  show (true && nodeX zeC) = true
  unfold nodeX nodeB
  simp only [zeC, Ct.kind, Ct.frm, Ct.too, Ct.name, Ct.expr, Ct.date, Ct.dates, Ct.sub, toList_data, exB_bare]
  decide
theorem alO_form : formX alO = true := by
  rw [formX_is]
  show (([zeC].all formX) && nodeX alO) = true
  rw [List.all_cons, zeC_form]
  unfold nodeX nodeB
  simp only [alO, Ct.kind, Ct.frm, Ct.too, Ct.name, Ct.expr, Ct.date, Ct.dates, Ct.sub, toList_data, exB_bare]
  decide
theorem alD_form : formX alD = true := by
  rw [formX_is]
  show (([zeC, alO].all formX) && nodeX alD) = true
  rw [List.all_cons, List.all_cons, zeC_form, alO_form]
  unfold nodeX nodeB
  simp only [alD, Ct.kind, Ct.frm, Ct.too, Ct.name, Ct.expr, Ct.date, Ct.dates, Ct.sub, toList_data, exB_bare]
  decide
theorem alC_form : formX alC = true := by
  rw [formX_is]
  show (true && nodeX alC) = true
  unfold nodeX nodeB
  simp only [alC, Ct.kind, Ct.frm, Ct.too, Ct.name, Ct.expr, Ct.date, Ct.dates, Ct.sub, toList_data, alE_num]
  decide
theorem alC_chk : chkC alC = 0 := by
  unfold chkC
  have h1 : alC.csz = 6 := by rw [Ct.csz_is]; unfold eSz; show 1 + (if bareX alE then 0 else alE.size) + 0 = 6; rw [alE_bare, alE_size]; rfl
  have h2 : alC.cdp = 4 := by rw [Ct.cdp_is]; unfold eDp; show 1 + max (if bareX alE then 0 else alE.depth) (maxC []) = 4; rw [alE_bare, alE_depth]; rfl
  rw [h1, h2, alC_form]; decide
theorem alD_chk : chkC alD = 0 := by
  unfold chkC
  have hz : ∀ (k : Int) (d : Int) (l : List Ct), (Ct.mk k eS eS eS exB d [] l).csz = 1 + (l.map Ct.csz).sum := fun k d l => by
    rw [Ct.csz_is]; unfold eSz; show 1 + (if bareX exB then 0 else exB.size) + _ = _; rw [exB_bare]; rfl
  have h1 : alD.csz = 4 := by unfold alD alO zeC; simp [hz]
  have h2 : alD.cdp ≤ 60 := by
    have hd : CSm 10 alD := by
      simp [CSm, SmX, alD, alO, zeC, Ct.name, Ct.frm, Ct.too, Ct.dates, Ct.expr, Ct.sub, exB, Ex.name, Ex.rat, Ex.sub, Ex.size_is, eS]
      decide
    have := hd.cdp
    omega
  rw [h1, if_neg (by omega), alD_form]; rfl

end Go.Proofs.YtijkefflpojmhaaDoor

namespace Go.Proofs.YtijkefflpojmhaaDoor
open Go.RowKit

set_option maxHeartbeats 1000000 in
set_option maxRecDepth 100000 in
theorem number_any (r : ByteArray) (w : World) : Calls Tryd.prog 11 #[.string r] w fun e w' => e = .returned (.agg #[.int .u8 1, .string r, .string ⟨#[]⟩, .int .i64 0, .slice none 0 0]) ∧ Below w.heap.size w w' := by
  have hb := own_below w (.cells #[.int .u8 1, .string r, .string ⟨#[]⟩, .int .i64 0, .slice none 0 0] 25)
  obtain ⟨d0, d1, d2, d3, d4⟩ := exCells (alloc_at w (.cells #[.int .u8 1, .string r, .string ⟨#[]⟩, .int .i64 0, .slice none 0 0] 25))
  go_enter Tryd.func11, Tryd.ntmps11
  go_wp2_with fail
  exact bodyPost_ret (v := .agg #[.int .u8 1, .string r, .string ⟨#[]⟩, .int .i64 0, .slice none 0 0]) (by simp [results, Tryd.results11, go_sem, d0, d1, d2, d3, d4]) rfl ⟨rfl, hb⟩
set_option maxHeartbeats 1000000 in
set_option maxRecDepth 100000 in
theorem pair_any (k : Int) (a0 a1 a2 a3 a4 b0 b1 b2 b3 b4 : Value) (w : World) : Calls Tryd.prog 14 #[.int .u8 k, .agg #[a0, a1, a2, a3, a4], .agg #[b0, b1, b2, b3, b4]] w fun e w' =>
    ∃ g, e = .returned (.agg #[.int .u8 k, .string ⟨#[]⟩, .string ⟨#[]⟩, .int .i64 0, .slice (some ⟨g, 0, none⟩) 2 2]) ∧ w'.heap[g]? = some (.cells #[a0, a1, a2, a3, a4, b0, b1, b2, b3, b4] 25) ∧ Below w.heap.size w w' := by
  obtain ⟨W3, hW3⟩ : ∃ W3, W3 = ((w.alloc (.cells #[a0, a1, a2, a3, a4] 25)).alloc (.cells #[b0, b1, b2, b3, b4] 25)).alloc (.cells #[.int .u8 k, .string ⟨#[]⟩, .string ⟨#[]⟩, .int .i64 0, .slice (some ⟨w.heap.size + 1 + 1 + 1, 0, none⟩) 2 2] 25) := ⟨_, rfl⟩
  have hs3 : W3.heap.size = w.heap.size + 1 + 1 + 1 := by rw [hW3]; simp
  have hb3 : Below w.heap.size w W3 := by rw [hW3]; exact ((own_below w _).alloc (by simp) _).alloc (by simp; omega) _
  have hr3 : W3.heap[w.heap.size + 1 + 1]? = some (.cells #[.int .u8 k, .string ⟨#[]⟩, .string ⟨#[]⟩, .int .i64 0, .slice (some ⟨w.heap.size + 1 + 1 + 1, 0, none⟩) 2 2] 25) := by
    rw [hW3]
    have := alloc_at ((w.alloc (.cells #[a0, a1, a2, a3, a4] 25)).alloc (.cells #[b0, b1, b2, b3, b4] 25)) (.cells #[.int .u8 k, .string ⟨#[]⟩, .string ⟨#[]⟩, .int .i64 0, .slice (some ⟨w.heap.size + 1 + 1 + 1, 0, none⟩) 2 2] 25)
    rwa [World.size_alloc, World.size_alloc] at this
  have hb := own_below W3 (.cells #[a0, a1, a2, a3, a4, b0, b1, b2, b3, b4] 25)
  have hg := alloc_at W3 (.cells #[a0, a1, a2, a3, a4, b0, b1, b2, b3, b4] 25)
  obtain ⟨d0, d1, d2, d3, d4⟩ := exCells ((hb.block _ (Array.getElem?_eq_some_iff.1 hr3).1).trans hr3)
  rw [hs3] at hg
  have HW := Lib.hid hW3
  have HG := Lib.hid hg
  have HB := Lib.hid (hb3.trans (hb.mono hb3.size))
  clear hW3 hs3 hb3 hr3 hb hg
  go_enter Tryd.func14, Tryd.ntmps14
  go_wp2_with fail
  rw [← HW.out]
  exact bodyPost_ret (v := .agg #[.int .u8 k, .string ⟨#[]⟩, .string ⟨#[]⟩, .int .i64 0, .slice (some ⟨w.heap.size + 1 + 1 + 1, 0, none⟩) 2 2]) (by simp [results, Tryd.results14, go_sem, d0, d1, d2, d3, d4]) rfl ⟨_, rfl, HG.out, HB.out⟩
theorem exAt_leaf (n : Nat) (w : World) (k : Int) (r s : ByteArray) (d : Int) : ExAt (n + 1) w [.int .u8 k, .string r, .string s, .int .i64 d, .slice none 0 0] (.mk k r s d []) := ⟨none, 0, 0, rfl, rfl, .inl rfl⟩
theorem exAt_pair {n : Nat} {w : World} {g : Nat} (k : Int) {a b : Ex} {a0 a1 a2 a3 a4 b0 b1 b2 b3 b4 : Value} (hg : w.heap[g]? = some (.cells #[a0, a1, a2, a3, a4, b0, b1, b2, b3, b4] 25)) (ha : ExAt n w [a0, a1, a2, a3, a4] a) (hb : ExAt n w [b0, b1, b2, b3, b4] b) :
    ExAt (n + 1) w [.int .u8 k, .string ⟨#[]⟩, .string ⟨#[]⟩, .int .i64 0, .slice (some ⟨g, 0, none⟩) 2 2] (exM k a b) := by
  refine ⟨some ⟨g, 0, none⟩, 2, 2, rfl, rfl, .inr ⟨g, 0, rfl, (Array.getElem?_eq_some_iff.1 hg).1, fun i hi => ?_⟩⟩
  have hi2 : i < 2 := hi
  rcases (by omega : i = 0 ∨ i = 1) with rfl | rfl
  · refine ⟨_, fun j hj => ?_, ha⟩
    rw [Lib.cell_of_heap hg]
    rcases (by omega : j = 0 ∨ j = 1 ∨ j = 2 ∨ j = 3 ∨ j = 4) with rfl | rfl | rfl | rfl | rfl <;> rfl
  · refine ⟨_, fun j hj => ?_, hb⟩
    rw [Lib.cell_of_heap hg]
    rcases (by omega : j = 0 ∨ j = 1 ∨ j = 2 ∨ j = 3 ∨ j = 4) with rfl | rfl | rfl | rfl | rfl <;> rfl
/-- A contract without days and parts, of a bare expression. -/
theorem ctAt_bare (n : Nat) (w : World) (k d : Int) (f t s : ByteArray) : CtAt (n + 1) w [.int .u8 k, .string f, .string t, .string s, .int .u8 0, .string ⟨#[]⟩, .string ⟨#[]⟩, .int .i64 0, .slice none 0 0, .int .i64 d, .slice none 0 0, .slice none 0 0] (.mk k f t s exB d [] []) :=
  ⟨none, 0, 0, none, 0, 0, none, 0, 0, rfl, exAt_leaf n w 0 eS eS 0, ⟨rfl, .inl rfl⟩, rfl, .inl rfl⟩
theorem ctAt_expr {n : Nat} {w : World} {e : Ex} {ek : Int} {er es : ByteArray} {ed : Int} {ea : Option Addr} {el ec : Nat} (he : ExAt (n + 1) w [.int .u8 ek, .string er, .string es, .int .i64 ed, .slice ea el ec] e) (hk : e.kind = ek ∧ e.rat = er ∧ e.name = es ∧ e.date = ed) (k d : Int) (f t s : ByteArray) :
    CtAt (n + 1) w [.int .u8 k, .string f, .string t, .string s, .int .u8 ek, .string er, .string es, .int .i64 ed, .slice ea el ec, .int .i64 d, .slice none 0 0, .slice none 0 0] (.mk k f t s e d [] []) := by
  obtain ⟨rfl, rfl, rfl, rfl⟩ := hk
  exact ⟨ea, el, ec, none, 0, 0, none, 0, 0, rfl, he, ⟨rfl, .inl rfl⟩, rfl, .inl rfl⟩
theorem ctAt_one {n : Nat} {w : World} {g : Nat} {y : Ct} {eap dap ap : Option Addr} {elp ecp dlp dcp lenp capp : Nat} (hg : w.heap[g]? = some (.cells #[.int .u8 y.kind, .string y.frm, .string y.too, .string y.name, .int .u8 y.expr.kind, .string y.expr.rat, .string y.expr.name, .int .i64 y.expr.date, .slice eap elp ecp, .int .i64 y.date, .slice dap dlp dcp, .slice ap lenp capp] 29)) (hy : CtAt n w [.int .u8 y.kind, .string y.frm, .string y.too, .string y.name, .int .u8 y.expr.kind, .string y.expr.rat, .string y.expr.name, .int .i64 y.expr.date, .slice eap elp ecp, .int .i64 y.date, .slice dap dlp dcp, .slice ap lenp capp] y) (k d : Int) (f t s : ByteArray) :
    CtAt (n + 1) w [.int .u8 k, .string f, .string t, .string s, .int .u8 0, .string ⟨#[]⟩, .string ⟨#[]⟩, .int .i64 0, .slice none 0 0, .int .i64 d, .slice none 0 0, .slice (some ⟨g, 0, none⟩) 1 1] (.mk k f t s exB d [] [y]) := by
  refine ⟨none, 0, 0, none, 0, 0, some ⟨g, 0, none⟩, 1, 1, rfl, exAt_leaf n w 0 eS eS 0, ⟨rfl, .inl rfl⟩, rfl, .inr ⟨g, 0, rfl, (Array.getElem?_eq_some_iff.1 hg).1, fun i hi => ?_⟩⟩
  obtain rfl : i = 0 := by have : i < 1 := hi; omega
  refine ⟨_, fun j hj => ?_, hy⟩
  rw [Lib.cell_of_heap hg, Nat.zero_mul, Nat.zero_add]
  simp
theorem ctAt_two {n : Nat} {w : World} {g : Nat} {y z : Ct} {eap dap ap : Option Addr} {elp ecp dlp dcp lenp capp : Nat} {eaq daq aq : Option Addr} {elq ecq dlq dcq lenq capq : Nat} (hg : w.heap[g]? = some (.cells #[.int .u8 y.kind, .string y.frm, .string y.too, .string y.name, .int .u8 y.expr.kind, .string y.expr.rat, .string y.expr.name, .int .i64 y.expr.date, .slice eap elp ecp, .int .i64 y.date, .slice dap dlp dcp, .slice ap lenp capp, .int .u8 z.kind, .string z.frm, .string z.too, .string z.name, .int .u8 z.expr.kind, .string z.expr.rat, .string z.expr.name, .int .i64 z.expr.date, .slice eaq elq ecq, .int .i64 z.date, .slice daq dlq dcq, .slice aq lenq capq] 29)) (hy : CtAt n w [.int .u8 y.kind, .string y.frm, .string y.too, .string y.name, .int .u8 y.expr.kind, .string y.expr.rat, .string y.expr.name, .int .i64 y.expr.date, .slice eap elp ecp, .int .i64 y.date, .slice dap dlp dcp, .slice ap lenp capp] y) (hz : CtAt n w [.int .u8 z.kind, .string z.frm, .string z.too, .string z.name, .int .u8 z.expr.kind, .string z.expr.rat, .string z.expr.name, .int .i64 z.expr.date, .slice eaq elq ecq, .int .i64 z.date, .slice daq dlq dcq, .slice aq lenq capq] z) (k d : Int) (f t s : ByteArray) :
    CtAt (n + 1) w [.int .u8 k, .string f, .string t, .string s, .int .u8 0, .string ⟨#[]⟩, .string ⟨#[]⟩, .int .i64 0, .slice none 0 0, .int .i64 d, .slice none 0 0, .slice (some ⟨g, 0, none⟩) 2 2] (.mk k f t s exB d [] [y, z]) := by
  refine ⟨none, 0, 0, none, 0, 0, some ⟨g, 0, none⟩, 2, 2, rfl, exAt_leaf n w 0 eS eS 0, ⟨rfl, .inl rfl⟩, rfl, .inr ⟨g, 0, rfl, (Array.getElem?_eq_some_iff.1 hg).1, fun i hi => ?_⟩⟩
  have hi2 : i < 2 := hi
  rcases (by omega : i = 0 ∨ i = 1) with rfl | rfl
  · refine ⟨_, fun j hj => ?_, hy⟩
    rw [Lib.cell_of_heap hg]
    rcases (by omega : j = 0 ∨ j = 1 ∨ j = 2 ∨ j = 3 ∨ j = 4 ∨ j = 5 ∨ j = 6 ∨ j = 7 ∨ j = 8 ∨ j = 9 ∨ j = 10 ∨ j = 11) with rfl | rfl | rfl | rfl | rfl | rfl | rfl | rfl | rfl | rfl | rfl | rfl <;> rfl
  · refine ⟨_, fun j hj => ?_, hz⟩
    rw [Lib.cell_of_heap hg]
    rcases (by omega : j = 0 ∨ j = 1 ∨ j = 2 ∨ j = 3 ∨ j = 4 ∨ j = 5 ∨ j = 6 ∨ j = 7 ∨ j = 8 ∨ j = 9 ∨ j = 10 ∨ j = 11) with rfl | rfl | rfl | rfl | rfl | rfl | rfl | rfl | rfl | rfl | rfl | rfl <;> rfl

end Go.Proofs.YtijkefflpojmhaaDoor

namespace Go.Proofs.YtijkefflpojmhaaDoor
open Go.RowKit

def alCs : ByteArray := ⟨#[65, 32, 112, 97, 121, 115, 32, 50, 32, 42, 32, 40, 88, 64, 110, 111, 119, 32, 45, 32, 45, 49, 41, 32, 69, 85, 82, 32, 116, 111, 32, 66]⟩
def alDs : ByteArray := ⟨#[98, 111, 116, 104, 32, 123, 10, 32, 32, 110, 111, 116, 104, 105, 110, 103, 59, 10, 32, 32, 111, 110, 32, 49, 57, 48, 48, 45, 48, 49, 45, 49, 49, 32, 123, 10, 32, 32, 32, 32, 110, 111, 116, 104, 105, 110, 103, 10, 32, 32, 125, 10, 125]⟩
theorem print_lit {Wg : World} (hs : ShpAt Wg) (hp : PtsAt Wg) {x : Ct} {n : Nat} (hk : CKOk n x) (hz : x.size ≤ 3000) (hsm : ∃ d, d ≤ 90 ∧ CSm d x) (hc : chkC x = 0) {t : ByteArray} (ht : t.data.toList = rcT n x) (hl : t.size ≤ 20000)
    (w : World) (hb : Below Wg.heap.size Wg w) (cs : List Value) (hat : CtAt n w cs x) : Calls Tryd.prog 8 #[.agg cs.toArray] w (fun e w' => e = .returned (.tuple #[.string t, .int .i64 0]) ∧ Below w.heap.size w w') := by
  refine (pcprint_any n x cs w Wg hp ⟨hat, hk, hz, hsm, hs, hb⟩).mono ?_
  rintro e w' ⟨rfl, hb'⟩
  refine ⟨?_, hb'⟩
  have hts := ba_size ht
  have h1 : ¬ 20000 < (rcT n x).length := by omega
  have h2 : t = ⟨(rcT n x).toArray⟩ := ba_eq ht
  unfold prS prE
  rw [hc, h2]
  simp only [ne_eq, not_true_eq_false, if_false, if_neg h1]
theorem alC_ok : CKOk 4 alC ∧ alC.size ≤ 3000 ∧ ∃ d, d ≤ 90 ∧ CSm d alC := by
  refine ⟨?_, ?_, 10, by omega, ?_⟩
  · simp [CKOk, KOk, alC, alE, exM, exR, exNow, Ct.kind, Ct.expr, Ct.sub, Ex.kind, Ex.sub]
  · have : alC.size = 6 := by rw [Ct.size_is]; show 1 + alE.size + 0 = 6; rw [alE_size]
    omega
  · simp [CSm, SmX, alC, Ct.name, Ct.frm, Ct.too, Ct.dates, Ct.expr, Ct.sub, alE_size]
    simp [alE, exM, exR, exNow, Ex.name, Ex.rat, Ex.sub, eS]
    decide
theorem alD_ok : CKOk 4 alD ∧ alD.size ≤ 3000 ∧ ∃ d, d ≤ 90 ∧ CSm d alD := by
  refine ⟨?_, ?_, 10, by omega, ?_⟩
  · simp [CKOk, KOk, alD, alO, zeC, exB, Ct.kind, Ct.expr, Ct.sub, Ex.kind, Ex.sub]
  · simp [alD, alO, zeC, Ct.size_is, Ct.expr, Ct.sub, exB, Ex.size_is, Ex.sub]
  · simp [CSm, SmX, alD, alO, zeC, Ct.name, Ct.frm, Ct.too, Ct.dates, Ct.expr, Ct.sub, exB, Ex.name, Ex.rat, Ex.sub, Ex.size_is, eS]
    decide

set_option maxHeartbeats 2000000 in
set_option maxRecDepth 100000 in
theorem alive14 {Wg : World} (hs : ShpAt Wg) (hp : PtsAt Wg) (w : World) (hb : Below Wg.heap.size Wg w) : Calls Tryd.prog 6 #[] w (BelB w true) := by
  have HN := Lib.hid number_any
  have HPR := Lib.hid pair_any
  have HPC : Hid (∀ W cs, Below Wg.heap.size Wg W → CtAt 4 W cs alC → Calls Tryd.prog 8 #[.agg cs.toArray] W (fun e w' => e = .returned (.tuple #[.string alCs, .int .i64 0]) ∧ Below W.heap.size W w')) := fun W cs hW hat => print_lit hs hp alC_ok.1 alC_ok.2.1 alC_ok.2.2 alC_chk (by rw [alC_txt]; rfl) (by decide) W hW cs hat
  have HPD : Hid (∀ W cs, Below Wg.heap.size Wg W → CtAt 4 W cs alD → Calls Tryd.prog 8 #[.agg cs.toArray] W (fun e w' => e = .returned (.tuple #[.string alDs, .int .i64 0]) ∧ Below W.heap.size W w')) := fun W cs hW hat => print_lit hs hp alD_ok.1 alD_ok.2.1 alD_ok.2.2 alD_chk (by rw [alD_txt]; rfl) (by decide) W hW cs hat
  have HWG := Lib.hid hb
  obtain ⟨W0, hW0⟩ : ∃ W0, W0 = w.alloc (.cells #[.int .u8 3, .string ⟨#[]⟩, .string ⟨#[88]⟩, .int .i64 0, .slice none 0 0] 25) := ⟨_, rfl⟩
  have hB0 : Below w.heap.size w W0 := by rw [hW0]; exact own_below w _
  have hbx : W0.heap[w.heap.size]? = some (.cells #[.int .u8 3, .string ⟨#[]⟩, .string ⟨#[88]⟩, .int .i64 0, .slice none 0 0] 25) := by rw [hW0]; exact alloc_at _ _
  have SB : ∀ W, Below W0.heap.size W0 W → W.cell? ⟨w.heap.size, 0, none⟩ = some (.int .u8 3) ∧ W.cell? ⟨w.heap.size, 1, none⟩ = some (.string ⟨#[]⟩) ∧ W.cell? ⟨w.heap.size, 2, none⟩ = some (.string ⟨#[88]⟩) ∧ W.cell? ⟨w.heap.size, 3, none⟩ = some (.int .i64 0) ∧ W.cell? ⟨w.heap.size, 4, none⟩ = some (.slice none 0 0) := fun W hW => exCells ((hW.block _ (Array.getElem?_eq_some_iff.1 hbx).1).trans hbx)
  have HSB := Lib.hid SB
  have HB0 := Lib.hid hB0
  have HW0 := Lib.hid hW0
  have HC0 : Hid (Below W0.heap.size W0 W0) := Below.refl _ _
  have HC : Hid (Below W0.heap.size W0 W0.drew) := (Below.refl _ _).drew
  clear hb hW0 hB0 hbx SB
  go_enter Tryd.func6, Tryd.ntmps6
  go_wp2_with fail
  rw [← HW0.out]
  go_region_held3 (fun W => W.cell? ⟨w.heap.size, 0, none⟩ = some (.int .u8 3) ∧ W.cell? ⟨w.heap.size, 1, none⟩ = some (.string ⟨#[]⟩) ∧ W.cell? ⟨w.heap.size, 2, none⟩ = some (.string ⟨#[88]⟩) ∧ W.cell? ⟨w.heap.size, 3, none⟩ = some (.int .i64 0) ∧ W.cell? ⟨w.heap.size, 4, none⟩ = some (.slice none 0 0))
    ((first | with_reducible exact HSB.out _ HC.out | with_reducible exact HSB.out _ HC0.out))
    ((first
      | (go_at_call 11
         with_reducible refine (HN.out _ _).mono ?_
         rintro e u ⟨rfl, hb⟩
         have HC := Lib.hid (HC.out.trans (hb.mono HC.out.size))
         clear hb)
      | (go_at_call 14
         with_reducible refine (HPR.out 5 _ _ _ _ _ _ _ _ _ _ _).mono ?_
         rintro e u ⟨g1, rfl, hg1, hb⟩
         have HC := Lib.hid (HC.out.trans (hb.mono HC.out.size))
         have HG1 := Lib.hid hg1
         clear hb hg1)
      | (go_at_call 14
         with_reducible refine (HPR.out 6 _ _ _ _ _ _ _ _ _ _ _).mono ?_
         rintro e u ⟨g2, rfl, hg2, hb⟩
         have HC := Lib.hid (HC.out.trans (hb.mono HC.out.size))
         have HAT : Hid (CtAt 4 u [.int .u8 2, .string ⟨#[65]⟩, .string ⟨#[66]⟩, .string ⟨#[69, 85, 82]⟩, .int .u8 6, .string ⟨#[]⟩, .string ⟨#[]⟩, .int .i64 0, .slice (some ⟨g2, 0, none⟩) 2 2, .int .i64 0, .slice none 0 0, .slice none 0 0] alC) :=
           ctAt_expr (exAt_pair 6 hg2 (exAt_leaf 2 u 1 ⟨#[50]⟩ ⟨#[]⟩ 0) (exAt_pair 5 ((hb.block _ (Array.getElem?_eq_some_iff.1 HG1.out).1).trans HG1.out) (exAt_leaf 1 u 3 ⟨#[]⟩ ⟨#[88]⟩ 0) (exAt_leaf 1 u 1 ⟨#[45, 49]⟩ ⟨#[]⟩ 0))) ⟨rfl, rfl, rfl, rfl⟩ 2 0 ⟨#[65]⟩ ⟨#[66]⟩ ⟨#[69, 85, 82]⟩
         clear hb hg2)
      | (go_at_call 8
         with_reducible refine (HPC.out _ _ (HWG.out.trans ((HB0.out.trans (HC.out.mono HB0.out.size)).mono HWG.out.size)) HAT.out).mono ?_
         rintro e u ⟨rfl, hb⟩
         have HC := Lib.hid (HC.out.trans (hb.mono HC.out.size))
         clear hb)))
  obtain ⟨V2, hV2⟩ : ∃ V2, V2 = (u.alloc (.cells #[.int .u8 1, .string ⟨#[]⟩, .string ⟨#[]⟩, .string ⟨#[]⟩, .int .u8 0, .string ⟨#[]⟩, .string ⟨#[]⟩, .int .i64 0, .slice none 0 0, .int .i64 0, .slice none 0 0, .slice none 0 0] 29)).alloc (.cells #[.int .u8 1, .string ⟨#[]⟩, .string ⟨#[]⟩, .string ⟨#[]⟩, .int .u8 0, .string ⟨#[]⟩, .string ⟨#[]⟩, .int .i64 0, .slice none 0 0, .int .i64 0, .slice none 0 0, .slice none 0 0] 29) := ⟨_, rfl⟩
  have hs2 : V2.heap.size = u.heap.size + 1 + 1 := by rw [hV2]; simp
  have hi2 : V2.heap[u.heap.size + 1]? = some (.cells #[.int .u8 1, .string ⟨#[]⟩, .string ⟨#[]⟩, .string ⟨#[]⟩, .int .u8 0, .string ⟨#[]⟩, .string ⟨#[]⟩, .int .i64 0, .slice none 0 0, .int .i64 0, .slice none 0 0, .slice none 0 0] 29) := by
    rw [hV2]
    have := alloc_at (u.alloc (.cells #[.int .u8 1, .string ⟨#[]⟩, .string ⟨#[]⟩, .string ⟨#[]⟩, .int .u8 0, .string ⟨#[]⟩, .string ⟨#[]⟩, .int .i64 0, .slice none 0 0, .int .i64 0, .slice none 0 0, .slice none 0 0] 29)) (.cells #[.int .u8 1, .string ⟨#[]⟩, .string ⟨#[]⟩, .string ⟨#[]⟩, .int .u8 0, .string ⟨#[]⟩, .string ⟨#[]⟩, .int .i64 0, .slice none 0 0, .int .i64 0, .slice none 0 0, .slice none 0 0] 29)
    rwa [World.size_alloc] at this
  have hb2 : Below u.heap.size u V2 := by rw [hV2]; exact (own_below u _).alloc (by simp) _
  have hbo := own_below V2 (.cells #[.int .u8 1, .string ⟨#[]⟩, .string ⟨#[]⟩, .string ⟨#[]⟩, .int .u8 0, .string ⟨#[]⟩, .string ⟨#[]⟩, .int .i64 0, .slice none 0 0, .int .i64 0, .slice none 0 0, .slice none 0 0, .int .u8 6, .string ⟨#[]⟩, .string ⟨#[]⟩, .string ⟨#[]⟩, .int .u8 0, .string ⟨#[]⟩, .string ⟨#[]⟩, .int .i64 0, .slice none 0 0, .int .i64 10, .slice none 0 0, .slice (some ⟨u.heap.size + 1, 0, none⟩) 1 1] 29)
  have hgo := alloc_at V2 (.cells #[.int .u8 1, .string ⟨#[]⟩, .string ⟨#[]⟩, .string ⟨#[]⟩, .int .u8 0, .string ⟨#[]⟩, .string ⟨#[]⟩, .int .i64 0, .slice none 0 0, .int .i64 0, .slice none 0 0, .slice none 0 0, .int .u8 6, .string ⟨#[]⟩, .string ⟨#[]⟩, .string ⟨#[]⟩, .int .u8 0, .string ⟨#[]⟩, .string ⟨#[]⟩, .int .i64 0, .slice none 0 0, .int .i64 10, .slice none 0 0, .slice (some ⟨u.heap.size + 1, 0, none⟩) 1 1] 29)
  rw [hs2] at hgo
  have hgi := (hbo.block _ (Array.getElem?_eq_some_iff.1 hi2).1).trans hi2
  have HAT2 := Lib.hid (ctAt_two (y := zeC) (z := alO) hgo (ctAt_bare 2 _ 1 0 eS eS eS) (ctAt_one (y := zeC) hgi (ctAt_bare 1 _ 1 0 eS eS eS) 6 10 eS eS eS) 3 0 eS eS eS)
  have HBO := Lib.hid (hb2.trans (hbo.mono hb2.size))
  have HV2 := Lib.hid hV2
  have HCU := HC
  clear hV2 hs2 hi2 hb2 hbo hgo hgi
  go_wp2_with fail
  rw [← HV2.out]
  with_reducible refine (HPD.out _ _ (HWG.out.trans ((HB0.out.trans ((HCU.out.trans (HBO.out.mono HCU.out.size)).mono HB0.out.size)).mono HWG.out.size)) HAT2.out).mono ?_
  rintro e u2 ⟨rfl, hb⟩
  have HF := Lib.hid (HB0.out.trans (((HCU.out.trans (HBO.out.mono HCU.out.size)).trans (hb.mono (HCU.out.trans (HBO.out.mono HCU.out.size)).size)).mono HB0.out.size))
  clear hb
  have qC : (alCs.toList == [65, 32, 112, 97, 121, 115, 32, 50, 32, 42, 32, 40, 88, 64, 110, 111, 119, 32, 45, 32, 45, 49, 41, 32, 69, 85, 82, 32, 116, 111, 32, 66]) = true := by rw [toList_data]; rfl
  have qD : (alDs.toList == [98, 111, 116, 104, 32, 123, 10, 32, 32, 110, 111, 116, 104, 105, 110, 103, 59, 10, 32, 32, 111, 110, 32, 49, 57, 48, 48, 45, 48, 49, 45, 49, 49, 32, 123, 10, 32, 32, 32, 32, 110, 111, 116, 104, 105, 110, 103, 10, 32, 32, 125, 10, 125]) = true := by rw [toList_data]; rfl
  go_wp2_with fail
  go_ret
  exact ⟨rfl, HF.out⟩

end Go.Proofs.YtijkefflpojmhaaDoor

namespace Go.Proofs.YtijkefflpojmhaaDoor
open Go.RowKit

/-- Between two bytes: braces that are open, blanks in front, whether the line has begun, the last byte. -/
structure LnS where
  op : Int
  fr : Int
  bg : Bool
  last : UInt8
def badB (b : UInt8) : Bool := (decide (b.toNat < 32) && b != 10) || decide (126 < b.toNat) || b == 35
def lnB (s : LnS) (b : UInt8) : Option LnS :=
  if badB b = true then none
  else if b = 10 then (if s.bg = false ∨ s.last = 32 then none else some ⟨s.op, 0, false, b⟩)
  else if b = 32 ∧ s.bg = false then some ⟨s.op, s.fr + 1, s.bg, b⟩
  else if s.bg = false ∧ s.fr ≠ 2 * (if b = 125 then s.op - 1 else s.op) then none
  else some ⟨if b = 123 then (if b = 125 then s.op - 1 else s.op) + 1 else (if b = 125 then s.op - 1 else s.op), s.fr, true, b⟩
def lnR (s : LnS) (l : List UInt8) : Option LnS := l.foldlM lnB s
theorem lnR_nil (s : LnS) : lnR s [] = some s := rfl
theorem lnR_cons (s : LnS) (b : UInt8) (l : List UInt8) : lnR s (b :: l) = (lnB s b).bind fun t => lnR t l := by
  unfold lnR; rw [List.foldlM_cons]; rfl
theorem lnR_app {s t : LnS} {a : List UInt8} (h : lnR s a = some t) (b : List UInt8) : lnR s (a ++ b) = lnR t b := by
  unfold lnR at h ⊢
  rw [List.foldlM_append, h]; rfl
theorem pr_bad {b : UInt8} (h : prB b = true) : badB b = false ∧ b ≠ 10 ∧ b ≠ 123 ∧ b ≠ 125 := by
  unfold prB at h
  simp only [decide_eq_true_eq] at h
  obtain ⟨h1, h2, h3⟩ := h
  have e : ∀ c : UInt8, b.toNat ≠ c.toNat → b ≠ c := fun c h q => h (by rw [q])
  refine ⟨?_, e 10 (by show b.toNat ≠ 10; omega), e 123 (by show b.toNat ≠ 123; omega), e 125 (by show b.toNat ≠ 125; omega)⟩
  unfold badB
  have h35 : (b == 35) = false := by rw [beq_eq_false_iff_ne]; exact e 35 (by show b.toNat ≠ 35; omega)
  rw [h35, decide_eq_false (by omega), decide_eq_false (by omega)]; rfl
theorem lnB_on {o f : Int} {z b : UInt8} (h : prB b = true) : lnB ⟨o, f, true, z⟩ b = some ⟨o, f, true, b⟩ := by
  obtain ⟨h1, h2, h3, h4⟩ := pr_bad h
  unfold lnB
  rw [if_neg (by rw [h1]; decide), if_neg h2, if_neg (by simp), if_neg (by simp), if_neg h3, if_neg h4]
theorem lnB_first {o : Int} {z b : UInt8} (h : prB b = true) (h32 : b ≠ 32) : lnB ⟨o, 2 * o, false, z⟩ b = some ⟨o, 2 * o, true, b⟩ := by
  obtain ⟨h1, h2, h3, h4⟩ := pr_bad h
  unfold lnB
  rw [if_neg (by rw [h1]; decide), if_neg h2, if_neg (by simp [h32]), if_neg h4, if_neg (by simp), if_neg h3]
theorem gl_snoc (l : List UInt8) (c a : UInt8) : (l ++ [c]).getLastD a = c := by
  rw [List.getLastD_eq_getLast?, List.getLast?_append]; rfl
/-- A leaf within a line. -/
theorem lnR_on {l : List UInt8} (h : Prn l) : ∀ (o f : Int) (z : UInt8), lnR ⟨o, f, true, z⟩ l = some ⟨o, f, true, l.getLastD z⟩ := by
  induction l with
  | nil => intro o f z; rfl
  | cons b l ih =>
    intro o f z
    rw [lnR_cons, lnB_on (h b (List.mem_cons_self ..))]
    show lnR ⟨o, f, true, b⟩ l = _
    rw [ih fun c hc => h c (List.mem_cons_of_mem _ hc)]
    cases l <;> rfl
/-- A leaf that begins a line. -/
theorem lnR_first {b : UInt8} {l : List UInt8} (h : Prn (b :: l)) (h32 : b ≠ 32) (o : Int) (z : UInt8) : lnR ⟨o, 2 * o, false, z⟩ (b :: l) = some ⟨o, 2 * o, true, l.getLastD b⟩ := by
  rw [lnR_cons, lnB_first (h b (List.mem_cons_self ..)) h32]
  exact lnR_on (fun c hc => h c (List.mem_cons_of_mem _ hc)) _ _ _
theorem lnR_sp (o : Int) : ∀ (k : Nat) (f : Int) (z : UInt8), ∃ y, lnR ⟨o, f, false, z⟩ (List.replicate k 32) = some ⟨o, f + k, false, y⟩ := by
  intro k
  induction k with
  | zero => intro f z; exact ⟨z, by simp [lnR_nil]⟩
  | succ k ih =>
    intro f z
    obtain ⟨y, hy⟩ := ih (f + 1) 32
    refine ⟨y, ?_⟩
    rw [List.replicate_succ, lnR_cons]
    have e : lnB ⟨o, f, false, z⟩ 32 = some ⟨o, f + 1, false, 32⟩ := by
      unfold lnB
      rw [if_neg (by decide), if_neg (by decide), if_pos ⟨rfl, rfl⟩]
    rw [e]
    show lnR ⟨o, f + 1, false, 32⟩ _ = _
    rw [hy]
    congr 2
    omega
theorem lnB_lf {o f : Int} {z : UInt8} (h : z ≠ 32) : lnB ⟨o, f, true, z⟩ 10 = some ⟨o, 0, false, 10⟩ := by
  unfold lnB
  rw [if_neg (by decide), if_pos rfl, if_neg (by simp [h])]
theorem lnB_open {o f : Int} {z : UInt8} : lnB ⟨o, f, true, z⟩ 123 = some ⟨o + 1, f, true, 123⟩ := by
  unfold lnB
  rw [if_neg (by decide), if_neg (by decide), if_neg (by simp), if_neg (by simp), if_pos rfl, if_neg (by decide)]
theorem lnB_shut {o : Int} {z : UInt8} : lnB ⟨o + 1, 2 * o, false, z⟩ 125 = some ⟨o, 2 * o, true, 125⟩ := by
  unfold lnB
  have e : o + 1 - 1 = o := by omega
  rw [if_neg (by decide), if_neg (by decide), if_neg (by simp), if_pos rfl, e, if_neg (by simp), if_neg (by decide)]
/-- A text whose lines are right where so many braces are open. -/
def LnOk (o : Nat) (t : List UInt8) : Prop := ∀ a, ∃ z, z ≠ 32 ∧ lnR ⟨o, 2 * o, false, a⟩ t = some ⟨o, 2 * o, true, z⟩
/-- A line feed, blanks, a text. -/
theorem lnR_line {o : Nat} {f : Int} {z : UInt8} (hz : z ≠ 32) {t : List UInt8} (h : LnOk o t) : ∃ y, y ≠ 32 ∧ lnR ⟨o, f, true, z⟩ ([10] ++ spc o ++ t) = some ⟨o, 2 * o, true, y⟩ := by
  obtain ⟨a, ha⟩ := lnR_sp (o : Int) (2 * o) 0 10
  obtain ⟨y, hy, hr⟩ := h a
  refine ⟨y, hy, ?_⟩
  have e1 : lnR ⟨(o : Int), f, true, z⟩ [10] = some ⟨o, 0, false, 10⟩ := by rw [lnR_cons, lnB_lf hz]; rfl
  rw [List.append_assoc, lnR_app e1, lnR_app (t := ⟨(o : Int), 2 * o, false, a⟩) (by unfold spc; rw [ha]; congr 2; omega)]
  exact hr
theorem lnR_brM {o : Nat} {bt : List UInt8} (hb : bt = [] ∨ bt = [59]) : ∀ (ts : List (List UInt8)), (∀ t ∈ ts, LnOk (o + 1) t) → ∀ (f : Int) (z : UInt8), z ≠ 32 → ∃ y f', y ≠ 32 ∧
    lnR ⟨(o + 1 : Nat), f, true, z⟩ (ts.flatMap fun t => bt ++ [10] ++ spc (o + 1) ++ t) = some ⟨(o + 1 : Nat), f', true, y⟩ := by
  intro ts
  induction ts with
  | nil => intro _ f z hz; exact ⟨z, f, hz, rfl⟩
  | cons t ts ih =>
    intro h f z hz
    have ht := h t (List.mem_cons_self ..)
    obtain ⟨q, hq, hb1⟩ : ∃ q, q ≠ 32 ∧ lnR ⟨(o + 1 : Nat), f, true, z⟩ bt = some ⟨(o + 1 : Nat), f, true, q⟩ := by
      rcases hb with rfl | rfl
      · exact ⟨z, hz, rfl⟩
      · exact ⟨59, by decide, lnR_on (Prn.lit (by decide)) _ _ _⟩
    obtain ⟨y, hy, h1⟩ := lnR_line (f := f) hq ht
    obtain ⟨y2, f2, hy2, h2⟩ := ih (fun s hs => h s (List.mem_cons_of_mem _ hs)) (2 * (o + 1 : Nat)) y hy
    refine ⟨y2, f2, hy2, ?_⟩
    rw [List.flatMap_cons, show bt ++ [10] ++ spc (o + 1) ++ t = bt ++ ([10] ++ spc (o + 1) ++ t) by simp, List.append_assoc, lnR_app hb1, lnR_app h1]
    exact h2
/-- Braces. -/
theorem lnR_br {o : Nat} {bt : List UInt8} (hb : bt = [] ∨ bt = [59]) {ts : List (List UInt8)} (hne : ts ≠ []) (h : ∀ t ∈ ts, LnOk (o + 1) t) (f : Int) (z : UInt8) : lnR ⟨o, f, true, z⟩ (brT o bt ts) = some ⟨o, 2 * o, true, 125⟩ := by
  match ts, hne with
  | t :: ts, _ =>
  unfold brT brL
  have e1 : lnR ⟨(o : Int), f, true, z⟩ [123] = some ⟨(o + 1 : Nat), f, true, 123⟩ := by rw [lnR_cons, lnB_open]; rfl
  obtain ⟨y, hy, h1⟩ := lnR_line (f := f) (z := 123) (by decide) (h t (List.mem_cons_self ..))
  obtain ⟨y2, f2, hy2, h2⟩ := lnR_brM hb ts (fun s hs => h s (List.mem_cons_of_mem _ hs)) (2 * (o + 1 : Nat)) y hy
  obtain ⟨a, ha⟩ := lnR_sp ((o + 1 : Nat) : Int) (2 * o) 0 10
  have e2 : lnR ⟨((o + 1 : Nat) : Int), f2, true, y2⟩ [10] = some ⟨((o + 1 : Nat) : Int), 0, false, 10⟩ := by rw [lnR_cons, lnB_lf hy2]; rfl
  rw [List.append_assoc, List.append_assoc, lnR_app e1, List.append_assoc, lnR_app h1, lnR_app h2, List.append_assoc, lnR_app e2, lnR_app (t := ⟨((o : Nat) : Int) + 1, 2 * (o : Int), false, a⟩) (by unfold spc; rw [ha]; congr 2; omega), lnR_cons, lnB_shut]
  rfl
theorem lnR_subM {o : Nat} : ∀ (ts : List (List UInt8)), (∀ t ∈ ts, LnOk (o + 1) t) → lnR ⟨o, 2 * o, true, 125⟩ (ts.flatMap fun t => [32, 101, 108, 115, 101, 32] ++ brT o [] [t]) = some ⟨o, 2 * o, true, 125⟩ := by
  intro ts
  induction ts with
  | nil => intro _; rfl
  | cons t ts ih =>
    intro h
    rw [List.flatMap_cons, List.append_assoc, lnR_app (lnR_on (Prn.lit (by decide)) _ _ _), lnR_app (lnR_br (.inl rfl) (by simp) (fun s hs => by rw [List.mem_singleton.1 hs]; exact h t (List.mem_cons_self ..)) _ _)]
    exact ih fun s hs => h s (List.mem_cons_of_mem _ hs)
theorem lnR_sub {o : Nat} {ts : List (List UInt8)} (hne : ts ≠ []) (h : ∀ t ∈ ts, LnOk (o + 1) t) (f : Int) (z : UInt8) : lnR ⟨o, f, true, z⟩ (subT o ts) = some ⟨o, 2 * o, true, 125⟩ := by
  match ts, hne with
  | t :: ts, _ =>
  show lnR _ ([32] ++ brT o [] [t] ++ ts.flatMap fun t => [32, 101, 108, 115, 101, 32] ++ brT o [] [t]) = _
  rw [List.append_assoc, lnR_app (lnR_on (l := [32]) (Prn.lit (by decide)) _ _ _), lnR_app (lnR_br (.inl rfl) (by simp) (fun s hs => by rw [List.mem_singleton.1 hs]; exact h t (List.mem_cons_self ..)) _ _)]
  exact lnR_subM ts fun s hs => h s (List.mem_cons_of_mem _ hs)
/-- Names of payments. -/
def NmC : Nat → Ct → Prop
  | 0, _ => False
  | n + 1, x => (x.kind = 2 → nmB x.frm.data.toList = true ∧ nmB x.too.data.toList = true) ∧ ∀ y ∈ x.sub, NmC n y
theorem node_pay {x : Ct} (h : nodeX x = true) (k : x.kind = 2) : nmB x.frm.data.toList = true ∧ nmB x.too.data.toList = true := by
  unfold nodeX nodeB at h
  rw [k] at h
  simp only [Int.reduceEq, if_true, if_false, Bool.and_eq_true] at h
  obtain ⟨⟨⟨⟨⟨⟨⟨h0, h1⟩, h2⟩, _⟩, h3⟩, h4⟩, _⟩, _⟩ := h
  exact ⟨h1, h2⟩
theorem nmc_of : ∀ (n : Nat) {x : Ct}, OkC n x → formX x = true → NmC n x := by
  intro n
  induction n with
  | zero => intro x h; exact h.elim
  | succ n ih =>
    intro x h hf
    rw [formX_is, Bool.and_eq_true, List.all_eq_true] at hf
    exact ⟨fun k => node_pay hf.2 k, fun y hy => ih (h.2.2.2.2.2.2 y hy) (hf.1 y hy)⟩
theorem nm_ends {s : ByteArray} (h : nmB s.data.toList = true) : (∃ b l, (qn s).data.toList = b :: l ∧ b ≠ 32) ∧ ∃ l b, (qn s).data.toList = l ++ [b] ∧ b ≠ 32 := by
  have hp := h
  unfold nmB at h
  simp only [Bool.and_eq_true, decide_eq_true_eq, List.all_eq_true] at h
  obtain ⟨⟨⟨h1, _⟩, _⟩, hall⟩ := h
  have hne : ∀ b ∈ s.data.toList, b ≠ 32 := fun b hb e => by
    have := hall b hb
    rw [e] at this
    exact absurd this (by decide)
  unfold qn
  split
  · have e : (ByteArray.mk #[34] ++ s ++ ByteArray.mk #[34]).data.toList = 34 :: (s.data.toList ++ [34]) := by simp
    rw [e]
    exact ⟨⟨_, _, rfl, by decide⟩, 34 :: s.data.toList, 34, by simp, by decide⟩
  · obtain ⟨b, l, hl⟩ : ∃ b l, s.data.toList = b :: l := by
      cases hh : s.data.toList with
      | nil => rw [hh] at h1; simp at h1
      | cons b l => exact ⟨b, l, rfl⟩
    have hn : s.data.toList ≠ [] := by rw [hl]; simp
    refine ⟨⟨b, l, hl, hne b (by rw [hl]; exact List.mem_cons_self ..)⟩, s.data.toList.dropLast, s.data.toList.getLast hn, (List.dropLast_concat_getLast hn).symm, hne _ (List.getLast_mem hn)⟩
theorem head_first {n : Nat} {x : Ct} : ∃ b l, headT n x = b :: l ∧ b ≠ 32 := by
  unfold headT
  split
  · exact ⟨_, _, rfl, by decide⟩
  split
  · exact ⟨_, _, rfl, by decide⟩
  split
  · exact ⟨_, _, rfl, by decide⟩
  split
  · exact ⟨_, _, rfl, by decide⟩
  split
  · exact ⟨_, _, rfl, by decide⟩
  · unfold wUntil
    split
    · exact ⟨_, _, rfl, by decide⟩
    · exact ⟨_, _, rfl, by decide⟩
/-- The lines of a contract's text are right. -/
theorem pc_lines : ∀ (n : Nat) (x : Ct) (d : Nat), OkC n x → NmC n x → LnOk d (pcT n x d) := by
  intro n
  induction n with
  | zero => intro x d h; exact h.elim
  | succ n ih =>
    intro x d h hm a
    have hh := h
    obtain ⟨hk, hl, _, _, _, _, hs⟩ := h
    obtain ⟨hm1, hm2⟩ := hm
    rw [pcT]
    have hts : ∀ t ∈ x.sub.map (fun y => pcT n y (d + 1)), LnOk (d + 1) t := fun t ht => by
      obtain ⟨y, hy, rfl⟩ := List.mem_map.1 ht
      exact ih y (d + 1) (hs y hy) (hm2 y hy)
    by_cases h1 : x.kind = 1
    · rw [if_pos h1]
      exact ⟨103, by decide, lnR_first (Prn.lit (by decide)) (by decide) _ _⟩
    rw [if_neg h1]
    by_cases h2 : x.kind = 2
    · rw [if_pos h2]
      have hp := hh.pay h2
      obtain ⟨⟨b, l, hb, hb32⟩, _⟩ := nm_ends (hm1 h2).1
      obtain ⟨_, m, c, hc, hc32⟩ := nm_ends (hm1 h2).2
      have e : payT (n + 1) x = b :: (l ++ [32, 112, 97, 121, 115, 32] ++ rexT (n + 1) x.expr ++ [32] ++ (qn x.name).data.toList ++ [32, 116, 111, 32] ++ m ++ [c]) := by
        unfold payT; rw [hb, hc]; simp
      rw [e] at hp ⊢
      refine ⟨c, hc32, ?_⟩
      rw [lnR_first hp hb32, gl_snoc]
    rw [if_neg h2]
    by_cases h3 : x.kind = 3
    · rw [if_pos h3]
      have h2l : x.sub.length = 2 := by rw [hl, h3]; rfl
      refine ⟨125, by decide, ?_⟩
      rw [lnR_app (lnR_first (b := 98) (l := [111, 116, 104, 32]) (Prn.lit (by decide)) (by decide) _ _)]
      exact lnR_br (.inr rfl) (by intro e; have := congrArg List.length e; simp at this; rw [this] at h2l; simp at h2l) hts _ _
    rw [if_neg h3]
    have hp := hh.head (by omega)
    obtain ⟨b, l, hb, hb32⟩ := head_first (n := n + 1) (x := x)
    rw [hb] at hp ⊢
    refine ⟨125, by decide, ?_⟩
    rw [lnR_app (lnR_first hp hb32 _ _)]
    refine lnR_sub ?_ hts _ _
    intro e
    have := congrArg List.length e
    rw [List.length_map, hl] at this
    unfold nSub at this
    split at this
    · simp at this
    · rw [if_neg (by omega)] at this; simp at this
/-- .. the whole. -/
theorem rc_lines {n : Nat} {x : Ct} (h : OkC n x) (hm : NmC n x) : ∃ z, z ≠ 32 ∧ lnR ⟨0, 0, false, 10⟩ (rcT n x) = some ⟨0, 0, true, z⟩ := by
  have := pc_lines n x 0 h hm 10
  rw [pc_rc n x 0 h, Nat.mul_zero, ind_zero] at this
  exact this

end Go.Proofs.YtijkefflpojmhaaDoor

namespace Go.Proofs.YtijkefflpojmhaaDoor
open Go.RowKit

theorem lnR_split {s e : LnS} {a b : List UInt8} (h : lnR s (a ++ b) = some e) : ∃ t, lnR s a = some t ∧ lnR t b = some e := by
  unfold lnR at h
  rw [List.foldlM_append] at h
  obtain ⟨t, h1, h2⟩ := Option.bind_eq_some_iff.1 h
  exact ⟨t, h1, h2⟩
/-- What stands after a byte. -/
inductive LnWay (s : LnS) (b : UInt8) (t : LnS) : Prop
  | lf (hb : b = 10) (hg : s.bg = true) (hl : s.last ≠ 32) (ht : t = ⟨s.op, 0, false, 10⟩)
  | sp (hb : b = 32) (hg : s.bg = false) (ht : t = ⟨s.op, s.fr + 1, false, 32⟩)
  | shut (hb : b = 125) (hf : s.bg = true ∨ s.fr = 2 * (s.op - 1)) (ht : t = ⟨s.op - 1, s.fr, true, 125⟩)
  | opn (hb : b = 123) (hf : s.bg = true ∨ s.fr = 2 * s.op) (ht : t = ⟨s.op + 1, s.fr, true, 123⟩)
  | on (hb : b ≠ 10 ∧ b ≠ 125 ∧ b ≠ 123 ∧ 32 ≤ b.toNat ∧ b.toNat ≤ 126 ∧ b ≠ 35) (h32 : b = 32 → s.bg = true) (hf : s.bg = true ∨ s.fr = 2 * s.op) (ht : t = ⟨s.op, s.fr, true, b⟩)
theorem lnB_way {s t : LnS} {b : UInt8} (h : lnB s b = some t) : LnWay s b t := by
  unfold lnB at h
  split at h
  · cases h
  rename_i hbad
  split at h
  · rename_i h10
    subst h10
    split at h
    · cases h
    · rename_i hg
      refine .lf rfl ?_ (fun e => hg (.inr e)) (Option.some.inj h).symm
      cases hb : s.bg with
      | true => rfl
      | false => exact absurd (.inl hb) hg
  rename_i h10
  split at h
  · rename_i h32
    obtain ⟨rfl, hg⟩ := h32
    rw [hg] at h
    exact .sp rfl hg (Option.some.inj h).symm
  rename_i h32
  have hgf : ∀ {z : Int}, ¬ (s.bg = false ∧ s.fr ≠ z) → s.bg = true ∨ s.fr = z := fun q => by
    cases hb : s.bg with
    | true => exact .inl rfl
    | false => exact .inr (Decidable.byContradiction fun w => q ⟨hb, w⟩)
  by_cases h125 : b = 125
  · subst h125
    rw [if_pos rfl, if_neg (show ¬ (125 : UInt8) = 123 by decide)] at h
    by_cases hfr : s.bg = false ∧ s.fr ≠ 2 * (s.op - 1)
    · rw [if_pos hfr] at h; cases h
    · rw [if_neg hfr] at h
      exact .shut rfl (hgf hfr) (Option.some.inj h).symm
  rw [if_neg h125] at h
  by_cases hfr : s.bg = false ∧ s.fr ≠ 2 * s.op
  · rw [if_pos hfr] at h; cases h
  rw [if_neg hfr] at h
  by_cases h123 : b = 123
  · subst h123
    rw [if_pos rfl] at h
    exact .opn rfl (hgf hfr) (Option.some.inj h).symm
  rw [if_neg h123] at h
  unfold badB at hbad
  simp only [Bool.or_eq_true, Bool.and_eq_true, decide_eq_true_eq, bne_iff_ne, ne_eq, beq_iff_eq, not_or, not_and] at hbad
  obtain ⟨⟨p1, p2⟩, p3⟩ := hbad
  refine .on ⟨h10, h125, h123, ?_, by omega, p3⟩ (fun e => ?_) (hgf hfr) (Option.some.inj h).symm
  · rcases Nat.lt_or_ge b.toNat 32 with q | q
    · exact absurd h10 (p1 q)
    · exact q
  · cases hb : s.bg with
    | true => rfl
    | false => exact absurd ⟨e, hb⟩ h32
/-- How far the counts go. -/
theorem lnB_bd {s t : LnS} {b : UInt8} {k : Nat} (h : lnB s b = some t) (h1 : -(k : Int) ≤ s.op ∧ s.op ≤ k ∧ 0 ≤ s.fr ∧ s.fr ≤ k) : -((k + 1 : Nat) : Int) ≤ t.op ∧ t.op ≤ (k + 1 : Nat) ∧ 0 ≤ t.fr ∧ t.fr ≤ (k + 1 : Nat) := by
  rcases lnB_way h with ⟨_, _, _, rfl⟩ | ⟨_, _, rfl⟩ | ⟨_, _, rfl⟩ | ⟨_, _, rfl⟩ | ⟨_, _, _, rfl⟩ <;> simp only <;> omega
theorem lnR_bd {s : LnS} (hs : s.op = 0 ∧ s.fr = 0) (l : List UInt8) : ∀ (k : Nat) (t : LnS), k ≤ l.length → lnR s (l.take k) = some t → -(k : Int) ≤ t.op ∧ t.op ≤ k ∧ 0 ≤ t.fr ∧ t.fr ≤ k := by
  intro k
  induction k with
  | zero => intro t _ h; cases h; rw [hs.1, hs.2]; simp
  | succ k ih =>
    intro t hk h
    rw [List.take_succ_eq_append_getElem (by omega)] at h
    obtain ⟨u, h1, h2⟩ := lnR_split h
    have h3 : lnB u l[k] = some t := by
      rw [lnR_cons] at h2
      obtain ⟨v, hv, hv2⟩ := Option.bind_eq_some_iff.1 h2
      cases hv2
      exact hv
    exact lnB_bd h3 (ih u (by omega) h1)
/-- The state behind k bytes, and the step. -/
theorem lnR_take {e : LnS} {l : List UInt8} {s : LnS} (h : lnR s l = some e) (k : Nat) (hk : k < l.length) {t : LnS} (ht : lnR s (l.take k) = some t) : ∃ u, lnB t l[k] = some u ∧ lnR s (l.take (k + 1)) = some u := by
  have e1 : l = l.take k ++ l.drop k := (List.take_append_drop k l).symm
  rw [e1, lnR_app ht, List.drop_eq_getElem_cons hk, lnR_cons] at h
  obtain ⟨u, hu, _⟩ := Option.bind_eq_some_iff.1 h
  refine ⟨u, hu, ?_⟩
  rw [List.take_succ_eq_append_getElem hk, lnR_app ht, lnR_cons, hu]; rfl
/-- The last byte of a text that ends within a line. -/
theorem lnR_last {s e : LnS} {l : List UInt8} {b : UInt8} (h : lnR s (l ++ [b]) = some e) (hg : e.bg = true) : b ≠ 10 := by
  obtain ⟨u, _, h2⟩ := lnR_split h
  rw [lnR_cons] at h2
  obtain ⟨v, hv, hv2⟩ := Option.bind_eq_some_iff.1 h2
  cases hv2
  intro hb
  subst hb
  rcases lnB_way hv with ⟨_, _, _, rfl⟩ | ⟨h, _, _⟩ | ⟨h, _, _⟩ | ⟨h, _, _⟩ | ⟨h, _, _, _⟩
  · cases hg
  · exact absurd h (by decide)
  · exact absurd h (by decide)
  · exact absurd h (by decide)
  · exact h.1 rfl

end Go.Proofs.YtijkefflpojmhaaDoor
