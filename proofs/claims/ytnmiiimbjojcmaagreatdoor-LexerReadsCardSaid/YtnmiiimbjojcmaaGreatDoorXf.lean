/-
  A range over a function whose iterator reads a cell that the body writes: a law of its own, out of the kit's law of the statement. No condition. The lexer's iterator: starts. No condition.
-/
import Derived.Test.YtnmiiimbjojcmaaGreatDoorXe
import Derived.RangeFuncNested
import Derived.RangeFuncBound
import Derived.RangeFuncCalls
import Derived.RangeFuncLeaves
import Derived.RangeFuncBox
import Derived.Shelf.Abstract
import Derived.WalkKit
import Derived.OwnWalkIn
import Derived.TacticsInMore
import Derived.LoopNIn
import Derived.LoopIn
import Derived.Deep.RegionHeld3
namespace Go.Proofs.YtnmiiimbjojcmaaGreatDoor
open Go.RowKit Go.Shelf
attribute [local go_sem] Oper.semAt_some

/-- What stays when new blocks are laid. -/
def Stays (J : Nat → World → Prop) : Prop := ∀ s W W', J s W → W.grownBy W' none → J s W'
/-- An iterator: between two rounds it stands at a number; it reads that number anew behind each round. -/
def SeqAt (P : Program) (n gf : Nat) (lb : Array Value) (enc : Nat → Value) (E : Nat → World → Prop) (Go Fin : Nat → Prop) (w : World) : Prop :=
  ∀ (l : Nat) (J : Nat → World → Prop) (Jx : World → Prop) (W : World) (s0 : Nat), Stays J → (∀ W1 W2, Jx W1 → W1.grownBy W2 none → Jx W2) → (∀ s W1, J s W1 → E s W1) →
    (∀ s W1, J s W1 → Go s → YieldAt Fence.wide (n - 1) P l #[enc s] W1 fun e W2 => (e = .returned (.bool true) ∧ ∃ s2, s < s2 ∧ J s2 W2) ∨ (e = .returned (.bool false) ∧ Jx W2)) →
    Below w.heap.size w W → J s0 W → CallsIn Fence.wide n P gf (#[.func (.yield l) #[] #[]] ++ lb) W fun e W2 => (∃ v, e = .returned v) ∧ ((∃ s, Fin s ∧ J s W2) ∨ Jx W2)
/-- How a round may be left. -/
def RoundEnd (B s : Nat) (I : Nat → World → Prop) (Ix : World → Prop) (W : World) : Exit → Act → World → Prop
  | .normal, _, W2 => KeepsFrom B W W2 ∧ ∃ s2, s < s2 ∧ I s2 W2
  | .ret, _, W2 => KeepsFrom B W W2 ∧ Ix W2
  | _, _, _ => False
theorem keeps_none {W W2 : World} (h : W.grownBy W2 none) {k : Nat} {o : Obj} (hk : W.heap[k]? = some o) : W2.heap[k]? = some o :=
  (h.block k (Array.getElem?_eq_some_iff.1 hk).1 (by simp)).trans hk

theorem range_at {P : Program} {n : Nat} {g : Operand} {ps : Array Tmp} {assign body : Code} {Q : Exit → Act → World → Prop} {a : Act} {w : World} (h1 : 1 ≤ n) {gf : Nat} {lb : Array Value}
    (hg : a.eval g = .func (.func gf) #[] lb) (eg : ∀ args w, (callFunc gf args).run P w = .ok (.enter gf args) w) {enc : Nat → Value} {E : Nat → World → Prop} {Go Fin : Nat → Prop} {w0 : World}
    (hseq : SeqAt P (n - 1) gf lb enc E Go Fin w0) (hb0 : Below w0.heap.size w0 w) (hps : ps.size = 1)
    (I : Nat → World → Prop) (Ix : World → Prop) (hI : OwnFrom w.heap.size I) (hIx : OwnFrom w.heap.size (fun (_ : Unit) W => Ix W)) (hE : ∀ s W, I s W → E s W) (s0 : Nat) (h0 : I s0 w) (a₁ : Nat → Act)
    (hassign : ∀ (l s : Nat) (W : World) (K : Act → World → Prop), K (a₁ s) W → assign.wpIn (Fence.wide.inRound l) (n - 1 - 1) P (Exit.then K (fun _ _ _ => False)) { tmps := (ps.zip #[enc s]).foldl (fun t (p, v) => t.setIfInBounds p v) a.tmps, defers := [] } W)
    (hbody : ∀ (l s : Nat) (W : World), I s W → Go s → body.wpIn (Fence.wide.inRound l) (n - 1 - 1) P (RoundEnd w.heap.size s I Ix W) (a₁ s) W)
    (hdone : ∀ (D s : Nat) (W : World), w.heap.size ≤ D → Fin s → I s W → W.heap[D]? = some (.deferred (some [])) → Q .normal { a with defers := { target := .collected D, args := #[] } :: a.defers } W)
    (hstop : ∀ (D : Nat) (W : World), w.heap.size ≤ D → Ix W → W.heap[D]? = some (.deferred (some [])) → Code.ret.wpIn Fence.wide n P Q { a with defers := { target := .collected D, args := #[] } :: a.defers } W) :
    (Code.rangeFunc g ps assign body).wpIn Fence.wide n P Q a w := by
  refine wpIn_rangeFunc fun fn hfn => ?_
  -- the loop's record and the block behind it
  obtain ⟨L, hL⟩ : ∃ L : LoopState → Option Code → Loop, L = fun st pe => { state := st, pending := pe, fn, tmps := a.tmps, params := ps, assign, body, defers := w.heap.size } := ⟨_, rfl⟩
  obtain ⟨V, hV⟩ : ∃ V, V = (w.alloc (.deferred (some []))).alloc (.loop (L .ready none)) := ⟨_, rfl⟩
  have hloop : V.heap[w.heap.size + 1]? = some (.loop (L .ready none)) := by
    rw [hV]
    have := World.alloc_heap_new (w.alloc (.deferred (some []))) (.loop (L .ready none))
    rwa [World.size_alloc] at this
  have hdef : V.heap[w.heap.size]? = some (.deferred (some [])) := by
    rw [hV]; exact (Below.heap_alloc _ _ _ (by simp)).trans (World.alloc_heap_new w _)
  have hIV : I s0 V := by rw [hV]; exact hI.alloc _ (hI.alloc _ h0)
  have hbV : Below w0.heap.size w0 V := by
    rw [hV]; exact hb0.trans ((((Below.refl _ w).alloc (Nat.le_refl _) _).alloc (by simp) _).mono hb0.size)
  refine ⟨w.heap.size + 1, [{ target := .collected w.heap.size, args := #[] }], V, { target := .fn (.func gf) lb, args := #[.func (.yield (w.heap.size + 1)) #[] #[]] }, V, gf,
    #[.func (.yield (w.heap.size + 1)) #[] #[]] ++ lb, V, ?_, ?_, fun _ _ => trivial, ?_, fun _ => h1, ?_⟩
  · rw [hV, hL]; exact run_enterLoop_outer _ _ _ _ _
  · simp only [resolve, hg]
    simp [go_sem]
  · simp [invoke, go_sem, eg]
  -- the record's turns
  have turn : ∀ (W : World) (o o' : Obj), I = I → W.heap[w.heap.size + 1]? = some o → o.isCells = false → ∀ s, I s W → I s (W.putObj (w.heap.size + 1) o') := fun W o o' _ ho hc s hs => hI.putObj o' hs (by omega) ho hc
  have turnx : ∀ (W : World) (o o' : Obj), W.heap[w.heap.size + 1]? = some o → o.isCells = false → Ix W → Ix (W.putObj (w.heap.size + 1) o') := fun W o o' ho hc hs => hIx.putObj (s := ()) o' hs (by omega) ho hc
  have step := hseq (w.heap.size + 1) (fun s W => I s W ∧ W.heap[w.heap.size + 1]? = some (.loop (L .ready none)) ∧ W.heap[w.heap.size]? = some (.deferred (some [])))
    (fun W => Ix W ∧ W.heap[w.heap.size + 1]? = some (.loop (L .done (some .ret))) ∧ W.heap[w.heap.size]? = some (.deferred (some []))) V s0
    (fun s W W2 hs hgr => ⟨hI s W W2 none hs.1 hgr (fun r e => by cases e), keeps_none hgr hs.2.1, keeps_none hgr hs.2.2⟩)
    (fun W W2 hs hgr => ⟨hIx () W W2 none hs.1 hgr (fun r e => by cases e), keeps_none hgr hs.2.1, keeps_none hgr hs.2.2⟩)
    (fun s W hs => hE s W hs.1) ?_ hbV ⟨hIV, hloop, hdef⟩
  · refine step.mono ?_
    rintro e W2 ⟨⟨v, rfl⟩, (⟨s, hF, hi, hl, hk⟩ | ⟨hi, hl, hk⟩)⟩
    · have hend := run_endLoop (P := P) hl (by rw [hL]; simp)
      rw [hL] at hend
      exact ⟨none, _, hend, hdone _ s _ (Nat.le_refl _) hF (turn W2 _ _ rfl hl rfl s hi) ((World.putObj_heap_other (by omega)).trans hk)⟩
    · have hend := run_endLoop (P := P) hl (by rw [hL]; simp)
      rw [hL] at hend
      exact ⟨some .ret, _, hend, hstop _ _ (Nat.le_refl _) (turnx W2 _ _ hl rfl hi) ((World.putObj_heap_other (by omega)).trans hk)⟩
  · -- one round
    rintro s W ⟨hi, hl, hk⟩ hgo
    have hlt : w.heap.size + 1 < W.heap.size := (Array.getElem?_eq_some_iff.1 hl).1
    have hy := run_yield (P := P) (args := #[enc s]) hl (by rw [hL]; simp [hps])
    rw [hL] at hy
    refine ⟨fn, _, assign, body, hy, roundIn_of_wpIn hfn (hassign _ s W _ ⟨_, run_beginRound hl (by rw [hL]), ?_⟩)⟩
    have hl2 : (W.putObj (w.heap.size + 1) (.loop { L .ready none with state := .busy })).heap[w.heap.size + 1]? = some (.loop { L .ready none with state := .busy }) := World.putObj_heap_same hlt
    have hk2 : (W.putObj (w.heap.size + 1) (.loop { L .ready none with state := .busy })).heap[w.heap.size]? = some (.deferred (some [])) := (World.putObj_heap_other (by omega)).trans hk
    refine wpIn_mono (hbody _ s _ (turn W _ _ rfl hl rfl s hi) hgo) ?_
    intro e a3 W3 hp
    have shut : ∀ (jump : Option Code), KeepsFrom w.heap.size (W.putObj (w.heap.size + 1) (.loop { L .ready none with state := .busy })) W3 →
        W3.heap[w.heap.size + 1]? = some (.loop { L .ready none with state := .busy }) ∧
        (Instr.endRound (w.heap.size + 1) jump).run P W3 = .ok (.bool jump.isNone) (W3.putObj (w.heap.size + 1) (.loop (L (if jump.isNone then .ready else .done) jump))) ∧
        (W3.putObj (w.heap.size + 1) (.loop (L (if jump.isNone then .ready else .done) jump))).heap[w.heap.size + 1]? = some (.loop (L (if jump.isNone then .ready else .done) jump)) ∧
        (W3.putObj (w.heap.size + 1) (.loop (L (if jump.isNone then .ready else .done) jump))).heap[w.heap.size]? = some (.deferred (some [])) := fun jump hkf => by
      have hl3 := hkf.same _ _ (by omega) hl2 rfl
      have hd3 := hkf.same _ _ (Nat.le_refl _) hk2 rfl
      have he := run_endRound (P := P) jump hl3
      refine ⟨hl3, ?_, World.putObj_heap_same (Array.getElem?_eq_some_iff.1 hl3).1, (World.putObj_heap_other (by omega)).trans hd3⟩
      rw [hL] at he ⊢
      exact he
    cases e with
    | normal =>
      obtain ⟨hkf, s2, hlt2, hi2⟩ := hp
      obtain ⟨c1, c2, c3, c4⟩ := shut none hkf
      exact ⟨_, _, c2, .inl ⟨rfl, s2, hlt2, turn W3 _ _ rfl c1 rfl s2 hi2, c3, c4⟩⟩
    | ret =>
      obtain ⟨hkf, hi2⟩ := hp
      obtain ⟨c1, c2, c3, c4⟩ := shut (some .ret) hkf
      exact ⟨_, _, c2, .inr ⟨rfl, turnx W3 _ _ c1 rfl hi2, c3, c4⟩⟩
    | exit id => exact hp.elim
    | goto t => exact hp.elim
    | panic c => exact hp.elim
    | outgrown => exact hp.elim

end Go.Proofs.YtnmiiimbjojcmaaGreatDoor

namespace Go.Proofs.YtnmiiimbjojcmaaGreatDoor
open Go.RowKit Go.Shelf
attribute [local go_sem] Oper.semAt_some

theorem idx_gen {x : UInt8} {p : UInt8 → Bool} (hpc : ∀ c : UInt8, p c = true ↔ c ≠ x) (l : List UInt8) : Lib.indexByte l x = if spn p l < l.length then (spn p l : Int) else -1 := by
  induction l with
  | nil => rfl
  | cons c l ih =>
    unfold Lib.indexByte
    by_cases h : c = x
    · have e2 : spn p (c :: l) = 0 := by unfold spn; rw [if_neg (fun a => (hpc c).1 a h)]
      rw [e2, if_pos (by rw [h]; simp), if_pos (by simp)]
      rfl
    · have e2 : spn p (c :: l) = spn p l + 1 := by
        show (if p c = true then spn p l + 1 else 0) = _
        rw [if_pos ((hpc c).2 h)]
      have e3 : ¬ (c == x) = true := fun a => h (beq_iff_eq.1 a)
      rw [e2, if_neg e3, ih, List.length_cons]
      by_cases h2 : spn p l < l.length
      · have e4 : ¬ (((spn p l : Nat) : Int) == -1) = true := fun a => by have := beq_iff_eq.1 a; omega
        rw [if_pos h2, if_neg e4, if_pos (by omega)]
        omega
      · rw [if_neg h2, if_pos (by decide), if_neg (by omega)]
theorem skS_spn (l : List UInt8) : skS false l = spn blQ l + skS false (l.drop (spn blQ l)) := by
  induction l with
  | nil => rfl
  | cons c l ih =>
    by_cases h : blQ c = true
    · have e : spn blQ (c :: l) = spn blQ l + 1 := by show (if blQ c = true then _ else _) = _; rw [if_pos h]
      rw [skS_bl h, e, ih, List.drop_succ_cons]
      have := skS_spn_aux l
      omega
    · have e : spn blQ (c :: l) = 0 := by show (if blQ c = true then _ else _) = _; rw [if_neg h]
      rw [e, List.drop_zero, Nat.zero_add]
where
  skS_spn_aux (l : List UInt8) : True := trivial
def nlQ (c : UInt8) : Bool := !decide (c = 10)
theorem nlQ_iff (c : UInt8) : nlQ c = true ↔ c ≠ 10 := by unfold nlQ; simp
theorem skS_true (r : List UInt8) : skS true r = if spn nlQ r < r.length then spn nlQ r + 1 + skS false (r.drop (spn nlQ r + 1)) else r.length := by
  induction r with
  | nil => rfl
  | cons c r ih =>
    by_cases h : c = 10
    · have e : spn nlQ (c :: r) = 0 := by show (if nlQ c = true then _ else _) = _; rw [if_neg (fun a => (nlQ_iff c).1 a h)]
      rw [e, if_pos (by simp), skS_nl (by rw [h]; rfl)]
      show _ = 0 + 1 + skS false r
      omega
    · have e : spn nlQ (c :: r) = spn nlQ r + 1 := by show (if nlQ c = true then _ else _) = _; rw [if_pos ((nlQ_iff c).2 h)]
      rw [e, skS_in (by intro a; exact h (by rw [← UInt8.toNat_inj]; exact a)), ih, List.length_cons, List.drop_succ_cons]
      by_cases h2 : spn nlQ r < r.length
      · rw [if_pos h2, if_pos (by omega)]; omega
      · rw [if_neg h2, if_neg (by omega)]
/-- A remark: where its line ends, and how far it is skipped. -/
theorem hash_line {c : UInt8} {r : List UInt8} (h : c.toNat = 35) :
    (spn nlQ r < r.length ∧ Lib.indexByte (c :: r) 10 = ((spn nlQ r + 1 : Nat) : Int) ∧ skS false (c :: r) = spn nlQ r + 1 + skS false ((c :: r).drop (spn nlQ r + 1)) ∧ ((c :: r).drop (spn nlQ r + 1)).head? = some 10) ∨
    (Lib.indexByte (c :: r) 10 = -1 ∧ skS false (c :: r) = (c :: r).length) := by
  have hc : c ≠ 10 := by rintro rfl; exact absurd h (by decide)
  have e : spn nlQ (c :: r) = spn nlQ r + 1 := by show (if nlQ c = true then _ else _) = _; rw [if_pos ((nlQ_iff c).2 hc)]
  have hi := idx_gen nlQ_iff (c :: r)
  rw [e, List.length_cons] at hi
  have hs := skS_true r
  by_cases h2 : spn nlQ r < r.length
  · left
    rw [if_pos (by omega)] at hi
    rw [if_pos h2] at hs
    have hd : ∃ x t, r.drop (spn nlQ r) = x :: t ∧ nlQ x = false := by
      clear hi hs e
      induction r with
      | nil => simp at h2
      | cons x r ih =>
        by_cases hx : nlQ x = true
        · have e : spn nlQ (x :: r) = spn nlQ r + 1 := by show (if nlQ x = true then _ else _) = _; rw [if_pos hx]
          rw [e] at h2 ⊢
          rw [List.drop_succ_cons]
          exact ih (by simpa using h2)
        · have e : spn nlQ (x :: r) = 0 := by show (if nlQ x = true then _ else _) = _; rw [if_neg hx]
          rw [e]; exact ⟨x, r, rfl, by simpa using hx⟩
    obtain ⟨x, t, hd, hx⟩ := hd
    have hx10 : x = 10 := by
      cases hq : decide (x = 10) with
      | true => simpa using hq
      | false => unfold nlQ at hx; rw [hq] at hx; cases hx
    refine ⟨h2, hi, ?_, ?_⟩
    · rw [skS_hash h, hs, List.drop_succ_cons, hd, hx10, skS_bl (by decide)]
      have : r.drop (spn nlQ r + 1) = t := by rw [← List.drop_drop, hd]; rfl
      rw [this]; omega
    · rw [List.drop_succ_cons, hd, hx10]; rfl
  · right
    rw [if_neg (by omega)] at hi
    rw [if_neg h2] at hs
    exact ⟨hi, by rw [skS_hash h, hs, List.length_cons]⟩

theorem after_oneD (s : ByteArray) (i0 k : Nat) (hs : s.size ≤ 1000000) (hi : i0 ≤ s.size) (W : World) :
    Calls Tryz.prog 17 #[.string s, .int .i64 (i0 : Int), .slice (some ⟨W.heap.size, 0, none⟩) 1 1] (W.alloc (.cells #[.int .i64 (k : Int)] 3)).drew (RetI (W.alloc (.cells #[.int .i64 (k : Int)] 3)).drew ((i0 + spn (clsB [k]) (s.data.toList.drop i0) : Nat) : Int)) :=
  after_any s i0 1 1 _ [k] _ hs hi rfl (by omega) (Nums.drewN (fun j hj => ⟨W.heap.size, 0, rfl, by simp, by
    have hj0 : j = 0 := by simp at hj; exact hj
    subst hj0
    have := World.alloc_heap_new W (.cells #[.int .i64 (k : Int)] 3)
    show (match (W.alloc (.cells #[.int .i64 (k : Int)] 3)).heap[W.heap.size]? with | some (.cells c _ _) => c[0]? | _ => none) = _
    rw [this]; rfl⟩) 1)
theorem after_oneA (s : ByteArray) (i0 k : Nat) (hs : s.size ≤ 1000000) (hi : i0 ≤ s.size) (W : World) :
    Calls Tryz.prog 17 #[.string s, .int .i64 (i0 : Int), .slice (some ⟨W.heap.size, 0, none⟩) 1 1] (W.alloc (.cells #[.int .i64 (k : Int)] 3)) (RetI (W.alloc (.cells #[.int .i64 (k : Int)] 3)) ((i0 + spn (clsB [k]) (s.data.toList.drop i0) : Nat) : Int)) :=
  after_any s i0 1 1 _ [k] _ hs hi rfl (by omega) (fun j hj => ⟨W.heap.size, 0, rfl, by simp, by
    have hj0 : j = 0 := by simp at hj; exact hj
    subst hj0
    have := World.alloc_heap_new W (.cells #[.int .i64 (k : Int)] 3)
    show (match (W.alloc (.cells #[.int .i64 (k : Int)] 3)).heap[W.heap.size]? with | some (.cells c _ _) => c[0]? | _ => none) = _
    rw [this]; rfl⟩)
theorem spn_stop (s : ByteArray) (k : Nat) : ∀ c l, s.data.toList.drop (k + spn blQ (s.data.toList.drop k)) = c :: l → ¬ blQ c = true := by
  intro c l h
  rw [← List.drop_drop] at h
  generalize s.data.toList.drop k = m at h
  induction m with
  | nil => simp [spn] at h
  | cons x m ih =>
    by_cases hx : blQ x = true
    · have e : spn blQ (x :: m) = spn blQ m + 1 := by show (if blQ x = true then _ else _) = _; rw [if_pos hx]
      rw [e, List.drop_succ_cons] at h
      exact ih h
    · have e : spn blQ (x :: m) = 0 := by show (if blQ x = true then _ else _) = _; rw [if_neg hx]
      rw [e, List.drop_zero] at h
      injection h with h1 _; rw [← h1]; exact hx
theorem cls_bl : clsB [1] = blQ := by
  funext c
  obtain ⟨_, _, _, _, h, _⟩ := cls_parts c
  unfold clsB
  rw [Bool.eq_iff_iff, ← h]
  simp
/-- starts: what it captures. -/
theorem starts_any (s : ByteArray) (b : Nat) (w : World) : Calls Tryz.prog 10 #[.string s, .pointer (some ⟨b, 0, none⟩)] w fun e w' =>
    e = .returned (.func (.func 16) #[] #[.pointer (some ⟨w.heap.size, 0, none⟩), .pointer (some ⟨w.heap.size + 1, 0, none⟩)]) ∧ w' = (w.alloc (.cells #[.string s] 9)).alloc (.cells #[.pointer (some ⟨b, 0, none⟩)] 37) := by
  go_enter Tryz.func10, Tryz.ntmps10
  go_wp2_with fail
  go_ret
  exact ⟨rfl, rfl⟩

/-- Between two rounds: the boxes, the place that is read next. -/
def EndAt (s : ByteArray) (Bt Bp Be : Nat) (k : Nat) (W : World) : Prop :=
  k ≤ s.size ∧ Boxed W Bt 9 (.string s) ∧ Boxed W Bp 37 (.pointer (some ⟨Be, 0, none⟩)) ∧ Boxed W Be 3 (.int .i64 (k : Int))
def endOf (Be : Nat) (W : World) : Nat := match W.cell? ⟨Be, 0, none⟩ with
  | some (.int _ n) => n.toNat
  | _ => 0
theorem endOf_at {s : ByteArray} {Bt Bp Be k : Nat} {W : World} (h : EndAt s Bt Bp Be k W) : endOf Be W = k := by
  unfold endOf
  rw [h.2.2.2.cell]
  simp
def placeV (s : ByteArray) (k : Nat) : Value := .int .i64 ((k + skS false (s.data.toList.drop k) : Nat) : Int)

set_option maxRecDepth 100000 in
set_option maxHeartbeats 2000000 in
theorem starts_at (s : ByteArray) (hs : s.size ≤ 100000) (n Bt Bp Be : Nat) (hn : 2 ≤ n) (w : World) : SeqAt Tryz.prog n 16 #[.pointer (some ⟨Bt, 0, none⟩), .pointer (some ⟨Bp, 0, none⟩)] (placeV s) (EndAt s Bt Bp Be)
    (fun k => k + skS false (s.data.toList.drop k) < s.size) (fun k => k + skS false (s.data.toList.drop k) = s.size) w := by
  intro l J Jx W s0 hJ hJx hE hY hbel h0
  have hn1 : 1 ≤ n := by omega
  have hfw : ∀ f, Fence.wide.fn f := fun _ => trivial
  refine callsIn_of_wp Tryz.func16 rfl trivial ?_ rfl
  simp only [Tryz.ntmps16, List.size_toArray, List.length_cons, List.length_nil, Nat.reduceAdd, Nat.reduceSub, Array.replicate_succ, Array.replicate_zero, List.push_toArray, List.append_toArray, List.nil_append, List.cons_append]
  gi_wp2
  gi_loopw [4] (fun _ wr => ∃ k : Nat, J k wr) (fun _ wr => s.size - endOf Be wr)
  case atStart => exact ⟨s0, h0⟩
  case round =>
    obtain ⟨k, hk⟩ := hrel
    have hek := hE k wr hk
    obtain ⟨hks, hbt, hbp, hbe⟩ := hek
    have ct := hbt.cell
    have cp := hbp.cell
    have ce := hbe.cell
    have hlt1 := (hbt : Boxed _ _ _ _).lt
    have hlt2 := hbp.lt
    have hlt3 := hbe.lt
    obtain ⟨p, hp⟩ : ∃ p, p = k + spn blQ (s.data.toList.drop k) := ⟨_, rfl⟩
    have HAF : Hid (∀ W : World, Calls Tryz.prog 17 #[.string s, .int .i64 (k : Int), .slice (some ⟨W.heap.size, 0, none⟩) 1 1] (W.alloc (.cells #[.int .i64 1] 3)).drew (RetI (W.alloc (.cells #[.int .i64 1] 3)).drew (p : Int))) := fun W => by
      have := after_oneD s k 1 (by omega) hks W
      rw [cls_bl, ← hp] at this
      exact this
    have HALL : Hid (∀ W : World, Below wr.heap.size wr W → W.cell? ⟨Bt, 0, none⟩ = some (.string s) ∧ W.cell? ⟨Bp, 0, none⟩ = some (.pointer (some ⟨Be, 0, none⟩)) ∧ W.cell? ⟨Be, 0, none⟩ = some (.int .i64 (k : Int))) := fun W h => ⟨((bcell h).1 _ _ hlt1).trans ct, ((bcell h).1 _ _ hlt2).trans cp, ((bcell h).1 _ _ hlt3).trans ce⟩
    have HA0 : Hid (∀ O : Obj, Below wr.heap.size wr (wr.alloc O).drew) := fun O => (own_below wr O).drew
    have HD0 : Hid (Below wr.heap.size wr wr.drew) := (Below.refl _ wr).drew
    have HY := Lib.hid hY
    have HE := Lib.hid hE
    have HJ := Lib.hid hJ
    have HP := Lib.hid hp
    clear hY hE hJ hJx hp hbt hbp hbe
    gi_wp2
    refine wpIn_wide.2 ?_
    go_region_held3 (fun W => W.cell? ⟨Bt, 0, none⟩ = some (.string s) ∧ W.cell? ⟨Bp, 0, none⟩ = some (.pointer (some ⟨Be, 0, none⟩)) ∧ W.cell? ⟨Be, 0, none⟩ = some (.int .i64 (k : Int)))
      ((first | with_reducible exact HALL.out _ HD0.out | with_reducible exact HALL.out _ (HA0.out _)))
      ((first | (go_at_call 17; refine (HAF.out _).mono ?_; rintro e w' ⟨rfl, rfl⟩)))
    obtain ⟨U, hU⟩ : ∃ U, U = (wr.alloc (.cells #[.int .i64 1] 3)).drew := ⟨_, rfl⟩
    have hjU : J k U := by
      refine HJ.out k wr U hk ?_
      rw [hU]
      have g := World.grownBy_alloc wr (.cells #[.int .i64 1] 3) none
      exact ⟨g.os, g.tape, g.output, g.size, g.block⟩
    rw [← hU]
    obtain ⟨T, hT⟩ : ∃ T, T = k + skS false (s.data.toList.drop k) := ⟨_, rfl⟩
    have hpT : T = p + skS false (s.data.toList.drop p) := by
      rw [hT, skS_spn, HP.out, ← List.drop_drop]; omega
    have hps : p ≤ s.size := by
      have := spn_le blQ (s.data.toList.drop k)
      rw [List.length_drop, data_len] at this
      have := HP.out; omega
    have hnb : ∀ c l, s.data.toList.drop p = c :: l → ¬ blQ c = true := by
      rw [HP.out]; exact spn_stop s k
    have HT := Lib.hid hT
    have HTS : Hid (T ≤ s.size) := by
      show T ≤ s.size
      have := skS_le false (s.data.toList.drop k)
      rw [List.length_drop, data_len] at this
      omega
    have HST : Hid (p ≤ s.size ∧ T = p + skS false (s.data.toList.drop p) ∧ (∀ c l, s.data.toList.drop p = c :: l → ¬ blQ c = true) ∧ J k U) := ⟨hps, hpT, hnb, hjU⟩
    clear hU hT hpT hnb hjU ct cp ce HALL HA0 HD0
    have ek := endOf_at (HE.out k wr hk)
    have HEK := Lib.hid ek
    clear ek
    obtain ⟨W0x, hW0x⟩ : ∃ W0x : World, W0x = wr := ⟨_, rfl⟩
    gi_wp2
    gi_loopw [4, 5] (fun iv _ W => ∃ j : Nat, iv = .int .i64 (j : Int) ∧ j ≤ s.size ∧ T = j + skS false (s.data.toList.drop j) ∧ (∀ c l, s.data.toList.drop j = c :: l → ¬ blQ c = true) ∧ J k W) (fun iv _ _ => s.size - (intOf iv).toNat)
    case atStart => exact ⟨p, rfl, HST.out.1, HST.out.2.1, HST.out.2.2.1, HST.out.2.2.2⟩
    case round =>
      obtain ⟨j, rfl, hj, hTj, hnj, hJj⟩ := hrel
      obtain ⟨_, hbt, hbp, hbe⟩ := HE.out k _ hJj
      have ct := hbt.cell
      have hlt1 := hbt.lt
      obtain ⟨A, hA⟩ : ∃ A, A = atN (s.data.toList.drop j) := ⟨_, rfl⟩
      have HAT : Hid (∀ W, Calls Tryz.prog 18 #[.string s, .int .i64 (j : Int)] W (RetI W A)) := fun W => by rw [hA]; exact lat_any s j W
      clear hbp hbe hbt
      by_cases hA7 : A = 7
      · obtain ⟨c, r, hcr, hc35⟩ : ∃ c r, s.data.toList.drop j = c :: r ∧ c.toNat = 35 := by
          cases hd : s.data.toList.drop j with
          | nil => rw [hA7, hd] at hA; exact absurd hA (by decide)
          | cons c r =>
            rw [hA7, hd] at hA
            obtain ⟨_, _, _, _, _, h7, _⟩ := cls_parts c
            exact ⟨c, r, rfl, h7.1 hA.symm⟩
        have hlen : (c :: r).length = s.size - j := by rw [← hcr, List.length_drop, data_len]
        have hjs : j < s.size := by simp at hlen; omega
        subst hA7
        have HIXg : ∀ V, Lib.indexByte (c :: r) 10 = V → Hid (∀ W, Calls Tryz.prog 19 #[.string (s.extract j s.size), .int .u8 10] W fun e w' => e = .returned (.int .i64 V) ∧ W = w') := fun V hV W => by
          have := Tryz.strings_IndexByte (s.extract j s.size) 10 W
          rw [ext_list, List.take_of_length_le (by rw [List.length_drop, data_len]; exact Nat.le_refl _), hcr, show (Int.toNat 10).toUInt8 = 10 from rfl, hV] at this
          exact this.mono (fun _ _ h => ⟨h.1, h.2.symm⟩)
        rcases hash_line (r := r) hc35 with ⟨h1, h2, h3, h4⟩ | ⟨h2, h3⟩
        · have HIX := HIXg _ h2
          obtain ⟨q, hq⟩ : ∃ q, q = spn nlQ r + 1 := ⟨_, rfl⟩
          rw [← hq] at HIX h3 h4
          have hqb : j + q < s.size := by simp at hlen; omega
          have hqi : ((j : Int) + (q : Int)) = ((j + q : Nat) : Int) := by omega
          obtain ⟨p2, hp2⟩ : ∃ p2, p2 = j + q + spn blQ (s.data.toList.drop (j + q)) := ⟨_, rfl⟩
          have HAF2 : Hid (∀ W : World, Calls Tryz.prog 17 #[.string s, .int .i64 ((j : Int) + (q : Int)), .slice (some ⟨W.heap.size, 0, none⟩) 1 1] (W.alloc (.cells #[.int .i64 1] 3)) (RetI (W.alloc (.cells #[.int .i64 1] 3)) (p2 : Int))) := fun W => by
            have := after_oneA s (j + q) 1 (by omega) (by omega) W
            rw [cls_bl, ← hp2] at this
            rw [hqi]
            exact this
          have hNX : Hid (p2 ≤ s.size ∧ j < p2 ∧ T = p2 + skS false (s.data.toList.drop p2) ∧ (∀ c l, s.data.toList.drop p2 = c :: l → ¬ blQ c = true)) := by
            refine ⟨?_, by omega, ?_, ?_⟩
            · have := spn_le blQ (s.data.toList.drop (j + q))
              rw [List.length_drop, data_len] at this
              omega
            · rw [hTj, hcr, h3, ← hcr, List.drop_drop, skS_spn, hp2, List.drop_drop]
              omega
            · rw [hp2]; exact spn_stop s (j + q)
          clear hq h1 h2 h3 h4 hp2 HIXg hqi hA hTj hnj hlen
          gi_wp2_with (first | (gi_at_call 18; refine (callsIn_wide.2 (HAT.out _)).mono ?_; rintro e w' ⟨rfl, rfl⟩) | (gi_at_call 19; refine (callsIn_wide.2 (HIX.out _)).mono ?_; rintro e w' ⟨rfl, rfl⟩) | (gi_at_call 17; refine (callsIn_wide.2 (HAF2.out _)).mono ?_; rintro e w' ⟨rfl, rfl⟩))
          go_roundw
          case rel =>
            obtain ⟨n1, n2, n3, n4⟩ := hNX.out
            exact ⟨p2, rfl, n1, n3, n4, HJ.out k _ _ hJj (World.grownBy_alloc _ _ none)⟩
          case measure =>
            obtain ⟨n1, n2, n3, n4⟩ := hNX.out
            simp [intOf] <;> omega
        · have HIX := HIXg _ h2
          gi_wp2_with (first | (gi_at_call 18; refine (callsIn_wide.2 (HAT.out _)).mono ?_; rintro e w' ⟨rfl, rfl⟩) | (gi_at_call 19; refine (callsIn_wide.2 (HIX.out _)).mono ?_; rintro e w' ⟨rfl, rfl⟩))
          refine bodyPost_ret (results_none rfl _ _ _) rfl ?_
          refine ⟨⟨_, rfl⟩, .inl ⟨k, ?_, hJj⟩⟩
          rw [← HT.out, hTj, hcr, h3, hlen]; omega
      · have hAb : (A == 7) = false := by rw [beq_eq_false_iff_ne]; exact hA7
        by_cases hjs : j < s.size
        · have hTj2 : T = j := by
            have e := data_drop s j hjs
            rw [hTj, e, skS_tok (hnj _ _ e) (by
              intro h35
              obtain ⟨_, _, _, _, _, h7, _⟩ := cls_parts s[j]
              exact hA7 (by rw [hA, e]; exact h7.2 h35))]
            omega
          have hTk : placeV s k = .int .i64 (j : Int) := by unfold placeV; rw [← HT.out, hTj2]
          obtain ⟨fn, tmps, assign, body, hy, hR⟩ := HY.out k wr hJj (by rw [← HT.out, hTj2]; exact hjs)
          rw [hTk] at hy
          have HJJ := Lib.hid hJj
          clear hTk hTj2 hA hTj hnj hJj
          gi_wp2_with (first | (gi_at_call 18; refine (callsIn_wide.2 (HAT.out _)).mono ?_; rintro e w' ⟨rfl, rfl⟩))
          refine hR.mono ?_
          rintro ee W3 (⟨rfl, s2, hs2, hJ3⟩ | ⟨rfl, hJx3⟩)
          · gi_wp2
            go_roundw
            case rel => exact ⟨s2, hJ3⟩
            case measure =>
              have e1 := endOf_at (HE.out s2 W3 hJ3)
              have e2 := (HE.out s2 W3 hJ3).1
              have e3 := HEK.out
              rw [e1, e3]; omega
          · gi_wp2
            refine bodyPost_ret (results_none rfl _ _ _) rfl ?_
            exact ⟨⟨_, rfl⟩, .inr hJx3⟩
        · gi_wp2_with (first | (gi_at_call 18; refine (callsIn_wide.2 (HAT.out _)).mono ?_; rintro e w' ⟨rfl, rfl⟩))
          refine bodyPost_ret (results_none rfl _ _ _) rfl ?_
          refine ⟨⟨_, rfl⟩, .inl ⟨k, ?_, hJj⟩⟩
          rw [← HT.out, hTj, List.drop_eq_nil_of_le (by rw [data_len]; omega)]
          show j + 0 = _
          omega

end Go.Proofs.YtnmiiimbjojcmaaGreatDoor
