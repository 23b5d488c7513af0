/-
  The map of the parts as it is laid. No condition. Days and contracts compared by the reference: SameDays, Same of two equal contracts. No condition but the size. The reference's Twin of a contract: a tree of its own, equal. No condition but the size. The reference's Twin of a contract: the plain part of the walk (a copy of days, one step of the loop, the end). The reference's Twin of a contract, walked. No condition but the size. A node that is well-formed: the program's node, walked. No condition but the size. A node that is well-formed: the program's node, walked. No condition but the size.
-/
import Derived.Test.YtijkefflpojmhaaDoorZaf
import Derived.Test.YtijkefflpojmhaaDoorZad
import Derived.Deep.AppendSrc
import Derived.Lib.AppendZeros
import Derived.Laws.EntriesVeiled
namespace Go.Proofs.YtijkefflpojmhaaDoor
open Go.RowKit Go.ChangeShapes Go.WideShapes Go.Deep

/-- The parts that a kind has. -/
def ptsL (k : Int) : Option Int :=
  if k = 1 then some 0 else if k = 2 then some 15 else if k = 3 then some 256 else if k = 4 then some 136 else if k = 5 then some 272 else if k = 6 then some 160 else if k = 7 then some 261 else if k = 8 then some 197 else if k = 9 then some 208 else if k = 10 then some 208 else none
/-- What a look-up among the parts yields, in every later world. -/
def PtsAt (w : World) : Prop := ∃ bm, w.cell? ⟨0, 0, none⟩ = some (.map (some bm)) ∧ ∀ k : Int, 0 ≤ k → k ≤ 255 →
  (ptsL k = none → ∀ W, Below w.heap.size w W → (Instr.lookup 81 (.map (some bm)) (.int .u8 k) true).run Tryd.prog W = .ok (.tuple #[.int .i64 0, .bool false]) W) ∧
  (∀ p, ptsL k = some p → ∀ W, Below w.heap.size w W → (Instr.lookup 81 (.map (some bm)) (.int .u8 k) true).run Tryd.prog W = .ok (.tuple #[.int .i64 p, .bool true]) W)
theorem PtsAt.below {w w' : World} (h : PtsAt w) (hb : Below w.heap.size w w') : PtsAt w' := by
  obtain ⟨bm, hc, hk⟩ := h
  exact ⟨bm, ((bcell hb).1 _ _ (cell_lt (a := ⟨_, 0, none⟩) hc)).trans hc, fun k h0 h1 => ⟨fun hs W hW => (hk k h0 h1).1 hs W (hb.trans (hW.mono hb.size)), fun p hs W hW => (hk k h0 h1).2 p hs W (hb.trans (hW.mono hb.size))⟩⟩
theorem gParts : Tryd.prog.globalNamed "novation/contract.parts" = some 0 := by kernel_rfl
theorem tParts : (Tryd.prog.globals[0]?).map (·.type) = some 81 := by kernel_rfl
set_option maxRecDepth 100000 in
theorem pts_key {H : Type} (k : Int) : (ptsL k = none → (Rows.laid_novation_contract_parts (H := H)).atKey (.int .u8 k) .nil = .nil) ∧ (∀ p, ptsL k = some p → (Rows.laid_novation_contract_parts (H := H)).atKey (.int .u8 k) .nil = .lit (.int .i64 p)) := by
  by_cases h1 : k = 1
  · subst h1
    exact ⟨fun h => by simp [ptsL] at h, fun p h => by simp [ptsL] at h; subst h; rfl⟩
  by_cases h2 : k = 2
  · subst h2
    exact ⟨fun h => by simp [ptsL] at h, fun p h => by simp [ptsL] at h; subst h; rfl⟩
  by_cases h3 : k = 3
  · subst h3
    exact ⟨fun h => by simp [ptsL] at h, fun p h => by simp [ptsL] at h; subst h; rfl⟩
  by_cases h4 : k = 4
  · subst h4
    exact ⟨fun h => by simp [ptsL] at h, fun p h => by simp [ptsL] at h; subst h; rfl⟩
  by_cases h5 : k = 5
  · subst h5
    exact ⟨fun h => by simp [ptsL] at h, fun p h => by simp [ptsL] at h; subst h; rfl⟩
  by_cases h6 : k = 6
  · subst h6
    exact ⟨fun h => by simp [ptsL] at h, fun p h => by simp [ptsL] at h; subst h; rfl⟩
  by_cases h7 : k = 7
  · subst h7
    exact ⟨fun h => by simp [ptsL] at h, fun p h => by simp [ptsL] at h; subst h; rfl⟩
  by_cases h8 : k = 8
  · subst h8
    exact ⟨fun h => by simp [ptsL] at h, fun p h => by simp [ptsL] at h; subst h; rfl⟩
  by_cases h9 : k = 9
  · subst h9
    exact ⟨fun h => by simp [ptsL] at h, fun p h => by simp [ptsL] at h; subst h; rfl⟩
  by_cases h10 : k = 10
  · subst h10
    exact ⟨fun h => by simp [ptsL] at h, fun p h => by simp [ptsL] at h; subst h; rfl⟩
  refine ⟨fun _ => ?_, fun p h => ?_⟩
  · simp [Rows.laid_novation_contract_parts, DataW.atKey, Lit.sameKey, Ne.symm h1, Ne.symm h2, Ne.symm h3, Ne.symm h4, Ne.symm h5, Ne.symm h6, Ne.symm h7, Ne.symm h8, Ne.symm h9, Ne.symm h10]
  · unfold ptsL at h
    rw [if_neg h1, if_neg h2, if_neg h3, if_neg h4, if_neg h5, if_neg h6, if_neg h7, if_neg h8, if_neg h9, if_neg h10] at h
    cases h
set_option maxRecDepth 100000 in
theorem int_formed {v : Value} {k : Int} (hl : v.cells.toList = [.int .i64 k]) (hf : v.formed Tryd.prog 3 = true) : v = .int .i64 k := by
  unfold Value.formed at hf
  rw [Tryd.underlying3] at hf
  have hl2 : ∀ u : Value, u.cells.toList = [.int .i64 k] → u.cells = #[u] → u = .int .i64 k := fun u h1 h2 => by
    rw [h2] at h1
    simpa using h1
  cases v <;> first | exact hl2 _ hl rfl | simp at hf
theorem zeroPts (w : World) : (zeroValue 3).run Tryd.prog w = .ok (.int .i64 0) w := by kernel_rfl
set_option maxRecDepth 100000 in
theorem laidPts {laid rest : List (String × DataW Unit)} (hl : laid = ("novation/contract.parts", Rows.laid_novation_contract_parts) :: rest) {W : World} (h : laidMet Tryd.prog laid W) : PtsAt W := by
  subst hl
  obtain ⟨ps, ⟨g0, t0, cs0, f0, p0, q0, hg0, ht0, hv0, hd0, _, _⟩, _, _⟩ := h
  obtain rfl := Option.some.inj (gParts.symm.trans hg0)
  obtain rfl := Option.some.inj (tParts.symm.trans ht0)
  rcases Go.WideElems.open_map Tryd.underlying81 hd0 with ⟨_, hx⟩ | ⟨bm, es, clock, m, rfl, hcs, hb, _, F, hx⟩
  · simp [Rows.laid_novation_contract_parts] at hx
  simp only [Prod.mk.injEq] at hx
  have hcell : W.cell? ⟨0, 0, none⟩ = some (.map (some bm)) := by
    have := World.var?_cell hg0 hv0 0
    rw [Array.eq_one_of_toList hcs] at this
    simpa using this
  have hbl : bm < W.heap.size := (Array.getElem?_eq_some_iff.1 hb).1
  refine ⟨bm, hcell, fun k hk0 hk1 => ?_⟩
  have hkey : keyOf Tryd.prog 5 (.int .u8 k) = some (.int .u8 k) := Maps.keyOf_int_mk Tryd.underlying5 (by
    have h0 : IntKind.u8.min = 0 := rfl
    have h1 : IntKind.u8.max = 255 := rfl
    simp [Lit.wf]; omega)
  have look : ∀ W', Below W.heap.size W W' → _ := fun W' hW' => Maps.fit_look (w := W') true (Maps.int_keyed Tryd.underlying5) Tryd.underlying81 (zeroPts W') ((hW'.block _ hbl).trans hb) F hkey
  refine ⟨fun hs W' hW' => ?_, fun p hs W' hW' => ?_⟩
  · rcases look W' hW' with ⟨hr, _, _⟩ | ⟨e0, y, _, _, _, hR, hat, _⟩
    · simpa using hr
    · have h2 := hat .nil
      rw [← hx.1, (pts_key k).1 hs] at h2
      unfold Go.WideElems.elemAt at hR
      split at hR
      · obtain ⟨n, e1, e2, _⟩ := DataW.trod_int Tryd.underlying3 hR
        rw [e2] at h2
        cases h2
      · cases hR
  · rcases look W' hW' with ⟨_, _, hat⟩ | ⟨e0, y, hm0, hk0', hr, hR, hat, _⟩
    · have h2 := hat .nil
      rw [← hx.1, (pts_key k).2 p hs] at h2
      cases h2
    · have h2 := hat .nil
      rw [← hx.1, (pts_key k).2 p hs] at h2
      unfold Go.WideElems.elemAt at hR
      split at hR
      · rename_i hfm
        obtain ⟨n, e1, e2, _⟩ := DataW.trod_int Tryd.underlying3 hR
        rw [e2] at h2
        simp only [DataW.lit.injEq, Lit.int.injEq, true_and] at h2
        subst h2
        have hval : e0.val = .int .i64 p := int_formed e1 hfm
        rw [hval] at hr
        simpa using hr
      · cases hR

end Go.Proofs.YtijkefflpojmhaaDoor

namespace Go.Proofs.YtijkefflpojmhaaDoor
open Go.RowKit

end Go.Proofs.YtijkefflpojmhaaDoor

namespace Go.Proofs.YtijkefflpojmhaaDoor
open Go.RowKit

def DaysOn (S : Nat → Prop) (w : World) (da : Option Addr) (dl : Nat) (l : List Int) : Prop :=
  l.length = dl ∧ (dl = 0 ∨ ∃ g, da = some ⟨g, 0, none⟩ ∧ S g ∧ ∀ i, i < dl → w.cell? ⟨g, i, none⟩ = some (.int .i64 (l[i]?.getD 0)))
/-- The cells of a contract whose parts lie in blocks of a kind. -/
def CtOn (S : Nat → Prop) : Nat → World → List Value → Ct → Prop
  | 0, _, _, _ => False
  | n + 1, w, cs, x => ∃ ea el ec da dl dc a len cap, cs = ctCells x ea el ec da dl dc a len cap ∧
      ExOn S (n + 1) w [.int .u8 x.expr.kind, .string x.expr.rat, .string x.expr.name, .int .i64 x.expr.date, .slice ea el ec] x.expr ∧ DaysOn S w da dl x.dates ∧ x.sub.length = len ∧
      (len = 0 ∨ ∃ g, a = some ⟨g, 0, none⟩ ∧ S g ∧ ∀ i (hi : i < x.sub.length), ∃ cs', (∀ j, j < 12 → w.cell? ⟨g, i * 12 + j, none⟩ = cs'[j]?) ∧ CtOn S n w cs' x.sub[i])
theorem CtOn.mono {S S' : Nat → Prop} (hS : ∀ g, S g → S' g) : ∀ {n : Nat} {w : World} {cs : List Value} {x : Ct}, CtOn S n w cs x → CtOn S' n w cs x
  | 0, _, _, _, h => h
  | n + 1, w, cs, x, ⟨ea, el, ec, da, dl, dc, a, len, cap, h1, he, hd, h2, h3⟩ => ⟨ea, el, ec, da, dl, dc, a, len, cap, h1, he.mono hS, ⟨hd.1, hd.2.imp id fun ⟨g, ha, hg, hi⟩ => ⟨g, ha, hS g hg, hi⟩⟩, h2, h3.imp id fun ⟨g, ha, hg, hi⟩ => ⟨g, ha, hS g hg, fun i h => by
      obtain ⟨cs', hc, hx⟩ := hi i h
      exact ⟨cs', hc, CtOn.mono hS hx⟩⟩⟩
theorem CtOn.keep {S : Nat → Prop} {w w' : World} (hw : ∀ g, S g → w'.heap[g]? = w.heap[g]?) : ∀ {n : Nat} {cs : List Value} {x : Ct}, CtOn S n w cs x → CtOn S n w' cs x
  | 0, _, _, h => h
  | n + 1, cs, x, ⟨ea, el, ec, da, dl, dc, a, len, cap, h1, he, hd, h2, h3⟩ => ⟨ea, el, ec, da, dl, dc, a, len, cap, h1, he.keep hw, ⟨hd.1, hd.2.imp id fun ⟨g, ha, hg, hi⟩ => ⟨g, ha, hg, fun i h => (World.cell?_of_block (w := w) (w' := w') (a := ⟨g, i, none⟩) (hw g hg)).trans (hi i h)⟩⟩, h2, h3.imp id fun ⟨g, ha, hg, hi⟩ => ⟨g, ha, hg, fun i h => by
      obtain ⟨cs', hc, hx⟩ := hi i h
      exact ⟨cs', fun j hj => (World.cell?_of_block (w := w) (w' := w') (a := ⟨g, i * 12 + j, none⟩) (hw g hg)).trans (hc j hj), CtOn.keep hw hx⟩⟩⟩
theorem CtOn.at {S : Nat → Prop} {w : World} (hS : ∀ g, S g → g < w.heap.size) : ∀ {n : Nat} {cs : List Value} {x : Ct}, CtOn S n w cs x → CtAt n w cs x
  | 0, _, _, h => h
  | n + 1, cs, x, ⟨ea, el, ec, da, dl, dc, a, len, cap, h1, he, hd, h2, h3⟩ => ⟨ea, el, ec, da, dl, dc, a, len, cap, h1, ExOn.at hS he, ⟨hd.1, hd.2.imp id fun ⟨g, ha, hg, hi⟩ => ⟨g, 0, ha, hS g hg, fun i h => by rw [Nat.zero_add]; exact hi i h⟩⟩, h2, h3.imp id fun ⟨g, ha, hg, hi⟩ => ⟨g, 0, ha, hS g hg, fun i h => by
      obtain ⟨cs', hc, hx⟩ := hi i h
      exact ⟨cs', fun j hj => by rw [Nat.zero_add]; exact hc j hj, CtOn.at hS hx⟩⟩⟩
theorem CtOn.shape {S : Nat → Prop} : ∀ {n : Nat} {w : World} {cs : List Value} {x : Ct}, CtOn S n w cs x → ∃ ea el ec da dl dc a len cap, cs = ctCells x ea el ec da dl dc a len cap
  | 0, _, _, _, h => h.elim
  | _ + 1, _, _, _, ⟨ea, el, ec, da, dl, dc, a, len, cap, h1, _⟩ => ⟨ea, el, ec, da, dl, dc, a, len, cap, h1⟩
/-- What Twin returns. -/
def CTwP (n : Nat) (x : Ct) (w : World) (e : Ending) (w' : World) : Prop :=
  ∃ ea el ec da dl dc a len cap, e = .returned (.agg #[.int .u8 x.kind, .string x.frm, .string x.too, .string x.name, .int .u8 x.expr.kind, .string x.expr.rat, .string x.expr.name, .int .i64 x.expr.date, .slice ea el ec, .int .i64 x.date, .slice da dl dc, .slice a len cap]) ∧ CtOn (fun g => w.heap.size ≤ g ∧ g < w'.heap.size) n w' [.int .u8 x.kind, .string x.frm, .string x.too, .string x.name, .int .u8 x.expr.kind, .string x.expr.rat, .string x.expr.name, .int .i64 x.expr.date, .slice ea el ec, .int .i64 x.date, .slice da dl dc, .slice a len cap] x ∧ Below w.heap.size w w'
def zeroCt : Value := .agg #[.int .u8 0, .string ⟨#[]⟩, .string ⟨#[]⟩, .string ⟨#[]⟩, .int .u8 0, .string ⟨#[]⟩, .string ⟨#[]⟩, .int .i64 0, .slice none 0 0, .int .i64 0, .slice none 0 0, .slice none 0 0]
theorem infoCt : (Tryd.prog.info? 29).map (fun i => (i.zero, i.size, i.bytes)) = some (some zeroCt, 12, 184) := by kernel_rfl
/-- The parts that are copied so far: the row of the copies, their trees elsewhere. -/
def CTwR (n B : Nat) (l : List Ct) (k : Nat) (v : Value) (xs : List Value) (wr : World) : Prop :=
  ∃ css : List (List Value), css.flatten = xs ∧ css.length = k ∧ (∀ c ∈ css, c.length = 12) ∧ wr.ownsRow B 29 12 v k xs ∧
    ∀ i (h : i < css.length) (h2 : i < l.length), CtOn (fun g => B ≤ g ∧ g < wr.heap.size ∧ v.ownBlock ≠ some g) n wr css[i] l[i]
theorem CTwR.nil (n B : Nat) (l : List Ct) (wr : World) : CTwR n B l 0 (.slice none 0 0) [] wr :=
  ⟨[], rfl, rfl, by simp, ⟨by simp, .inl ⟨rfl, rfl⟩⟩, fun i h => absurd h (Nat.not_lt_zero _)⟩
/-- A store below. -/
theorem CTwR.set {n B : Nat} {l : List Ct} {k : Nat} {v : Value} {xs : List Value} {w1 : World} (h : CTwR n B l k v xs w1) {p : Addr} (hp : p.block < B) (u : Value) : CTwR n B l k v xs (w1.setCell p u) := by
  obtain ⟨css, h0, h1, h2, h3, h4⟩ := h
  refine ⟨css, h0, h1, h2, ownsRow_setCell_below h3 hp u, fun i hi hi2 => ((h4 i hi hi2).keep (w' := w1.setCell p u) fun g ⟨g1, _, _⟩ => Below.heap_setCell _ _ _ _ (by omega)).mono fun g ⟨g1, g2, g3⟩ => ⟨g1, by simpa [World.setCell] using g2, g3⟩⟩
/-- One more. -/
theorem CTwR.snoc {n B : Nat} {l : List Ct} {k : Nat} {v v' : Value} {xs : List Value} {w1 w2 w3 : World} {y : Ct} {cs : List Value} (h : CTwR n B l k v xs w1) (hk : k < l.length) (hy : y = l[k]) (hB : B ≤ w1.heap.size)
    (hb : Below w1.heap.size w1 w2) (hx : CtOn (fun g => w1.heap.size ≤ g ∧ g < w2.heap.size) n w2 cs y) (hg : w2.grownBy w3 v.ownBlock) (hv : v'.ownBlock = v.ownBlock ∨ v'.ownBlock = some w2.heap.size)
    (hown : w3.ownsRow B 29 12 v' (k + 1) (xs ++ cs)) : CTwR n B l (k + 1) v' (xs ++ cs) w3 := by
  obtain ⟨css, h0, h1, h2, h3, h4⟩ := h
  have hvl : ∀ g, v.ownBlock = some g → g < w1.heap.size := fun g e => (h3.lt g e).2
  have hn : ∀ g, (v'.ownBlock = some g) → g < w2.heap.size → v.ownBlock = some g := fun g e hl => by
    rcases hv with hv | hv
    · rw [← hv]; exact e
    · rw [hv] at e; injection e with e; omega
  obtain ⟨ea, el, ec, da, dl, dc, a, len, cap, hcs⟩ := hx.shape
  refine ⟨css ++ [cs], by rw [List.flatten_append, List.flatten_singleton, h0], by simp [h1], fun c hc => ?_, hown, fun i hi hi2 => ?_⟩
  · rcases List.mem_append.1 hc with hc | hc
    · exact h2 c hc
    · rw [List.mem_singleton.1 hc, hcs]; rfl
  · by_cases hik : i < css.length
    · have e1 : (css ++ [cs])[i] = css[i] := List.getElem_append_left hik
      rw [e1]
      refine ((h4 i hik hi2).keep (w' := w3) fun g ⟨_, g2, g3⟩ => ?_).mono fun g ⟨g1, g2, g3⟩ => ⟨g1, Nat.lt_of_lt_of_le g2 (Nat.le_trans hb.size hg.size), fun e => g3 (hn g e (Nat.lt_of_lt_of_le g2 hb.size))⟩
      rw [hg.block g (Nat.lt_of_lt_of_le g2 hb.size) (fun e => g3 e.symm), hb.block g g2]
    · have hie : i = k := by simp at hi; omega
      subst hie
      have e1 : (css ++ [cs])[i]'hi = cs := by rw [List.getElem_append_right (by omega)]; simp
      rw [e1, ← hy]
      refine (hx.keep (w' := w3) fun g ⟨g1, g2⟩ => ?_).mono fun g ⟨g1, g2⟩ => ⟨by omega, Nat.lt_of_lt_of_le g2 hg.size, fun e => by have := hvl g (hn g e g2); omega⟩
      exact hg.block g g2 (fun e => by have := hvl g e.symm; omega)
theorem CTwR.owns {n B : Nat} {l : List Ct} {k : Nat} {v : Value} {xs : List Value} {w1 : World} (h : CTwR n B l k v xs w1) : w1.ownsRow B 29 12 v k xs := by
  obtain ⟨_, _, _, _, h3, _⟩ := h; exact h3
theorem flat12 : ∀ (L : List (List Value)), (∀ c ∈ L, c.length = 12) → ∀ i (hi : i < L.length) j, j < 12 → L.flatten[i * 12 + j]? = L[i][j]? := by
  intro L
  induction L with
  | nil => intro _ i hi; exact absurd hi (Nat.not_lt_zero _)
  | cons c L ih =>
    intro hL i hi j hj
    have hc5 : c.length = 12 := hL c (List.mem_cons_self ..)
    rw [List.flatten_cons]
    match i, hi with
    | 0, _ => rw [Nat.zero_mul, Nat.zero_add, List.getElem?_append_left (by omega)]; rfl
    | i + 1, hi =>
      rw [List.getElem?_append_right (by omega), show (i + 1) * 12 + j - c.length = i * 12 + j by omega, ih (fun c hc => hL c (List.mem_cons_of_mem _ hc)) i (by simpa using hi) j hj]
      rfl
/-- The parts, whole. -/
theorem CTwR.done {n B : Nat} {l : List Ct} {k : Nat} {v : Value} {xs : List Value} {wr : World} (h : CTwR n B l k v xs wr) (hk : l.length = k) :
    ∃ a len cap, v = .slice a len cap ∧ l.length = len ∧ (len = 0 ∨ ∃ g, a = some ⟨g, 0, none⟩ ∧ (B ≤ g ∧ g < wr.heap.size) ∧ ∀ i (hi : i < l.length), ∃ cs', (∀ j, j < 12 → wr.cell? ⟨g, i * 12 + j, none⟩ = cs'[j]?) ∧ CtOn (fun g => B ≤ g ∧ g < wr.heap.size) n wr cs' l[i]) := by
  obtain ⟨css, h0, h1, h2, h3, h4⟩ := h
  rcases h3.2 with ⟨rfl, h0⟩ | ⟨g, cap, cur, rfl, hg, hc, hle, hm, hcs, ht⟩
  · exact ⟨none, 0, 0, rfl, by omega, .inl rfl⟩
  · have hgl : g < wr.heap.size := (Array.getElem?_eq_some_iff.1 hc).1
    refine ⟨some ⟨g, 0, none⟩, k, cap, rfl, hk, .inr ⟨g, rfl, ⟨by omega, hgl⟩, fun i hi => ⟨css[i], fun j hj => ?_, (h4 i (by omega) hi).mono fun g ⟨g1, g2, _⟩ => ⟨g1, g2⟩⟩⟩⟩
    rw [← flat12 css h2 i (by omega) j hj, h0, ← ht, List.getElem?_take_of_lt (by
      have : i * 12 + j < k * 12 := by omega
      exact this)]
    simp [World.cell?, hc]

end Go.Proofs.YtijkefflpojmhaaDoor

namespace Go.Proofs.YtijkefflpojmhaaDoor
open Go.RowKit

theorem infoCInt : (Tryd.prog.info? 3).map (fun i => (i.zero, i.size, i.bytes)) = some (some (.int .i64 0), 1, 8) := by kernel_rfl
/-- append([]int{}, days...). -/
theorem days_copy {w : World} {da : Option Addr} {dl dc b : Nat} {l : List Int} (h : DaysAt w da dl l) (hl : dl ≤ 1000) (hb : w.heap[b]? = some (.cells #[] 3)) :
    ∃ da2 dc2 w', (Builtin.append_ #[26, 26] 26 #[.slice (some ⟨b, 0, none⟩) 0 0, .slice da dl dc]).run Tryd.prog w = .ok (.slice da2 dl dc2) w' ∧
      DaysOn (fun g => b ≤ g ∧ g < w'.heap.size) w' da2 dl l ∧ Below b w w' := by
  obtain ⟨i, hi, hz0, hz1, hz2⟩ := info_parts infoCInt
  have hbl : b < w.heap.size := (Array.getElem?_eq_some_iff.1 hb).1
  have hown : w.ownsRow b 3 1 (.slice (some ⟨b, 0, none⟩) 0 0) 0 [] := ⟨rfl, .inr ⟨b, 0, #[], rfl, Nat.le_refl _, hb, Nat.le_refl _, Nat.zero_le _, rfl, rfl⟩⟩
  have go : ∀ (a : Addr), (∀ j u, (l.map fun k => Value.int .i64 k)[j]? = some u → w.cell? (a.add j) = some u) →
      ∃ da2 dc2 w', (Builtin.append_ #[26, 26] 26 #[.slice (some ⟨b, 0, none⟩) 0 0, .slice (some a) dl dc]).run Tryd.prog w = .ok (.slice da2 dl dc2) w' ∧
        DaysOn (fun g => b ≤ g ∧ g < w'.heap.size) w' da2 dl l ∧ Below b w w' := fun a hn => by
    have hll := h.1
    obtain ⟨v', w', hr, ho, hg, _, _⟩ := run_append_own_at (P := Tryd.prog) w b 26 26 3 i (.int .i64 0) 1 8 Tryd.underlying26 hi hz0 hz1 hz2 rfl (by decide) _ 0 [] hown a dl dc (l.map fun k => Value.int .i64 k)
      (by rw [Nat.mul_one, List.length_map, hll]) hn (fun u hu => by
        obtain ⟨k, _, rfl⟩ := List.mem_map.1 hu
        rfl) (by unfold maxLen; omega) (by omega) (by omega)
    have hbw : Below b w w' := (Below.refl b w).grown hg (by omega) (fun q e => by
      have : b = q := by simpa [Value.ownBlock] using e
      omega)
    rcases ho.2 with ⟨rfl, h0⟩ | ⟨g, cap, cur, rfl, hgb, hc, hle, hm, hcs, ht⟩
    · exact ⟨none, 0, w', by rw [hr, show dl = 0 by omega], ⟨hll, .inl (by omega)⟩, hbw⟩
    · refine ⟨some ⟨g, 0, none⟩, cap, w', by rw [hr, Nat.zero_add], ⟨hll, .inr ⟨g, rfl, ⟨hgb, (Array.getElem?_eq_some_iff.1 hc).1⟩, fun j hj => ?_⟩⟩, hbw⟩
      have hj2 : j < l.length := by omega
      have e : (cur.toList.take ((0 + dl) * 1))[j]? = some (Value.int .i64 (l[j]?.getD 0)) := by
        rw [ht, List.nil_append, List.getElem?_map, List.getElem?_eq_getElem hj2]; rfl
      rw [List.getElem?_take_of_lt (by omega)] at e
      rw [← e]
      simp [World.cell?, hc]
  cases da with
  | some a =>
    rcases h.2 with h0 | ⟨g, o, ha, hg, hel⟩
    · subst h0
      have hll := h.1
      exact go a (fun j u hu => by
        have : l = [] := List.eq_nil_of_length_eq_zero hll
        rw [this] at hu; simp at hu)
    · injection ha with ha
      subst ha
      have hll := h.1
      exact go _ (fun j u hu => by
        rw [List.getElem?_map, Option.map_eq_some_iff] at hu
        obtain ⟨k, hk, rfl⟩ := hu
        have hj : j < l.length := by
          rcases Nat.lt_or_ge j l.length with h | h
          · exact h
          · rw [List.getElem?_eq_none h] at hk; cases hk
        have := hel j (by omega)
        rw [hk] at this
        rw [addrX]
        exact this)
  | none =>
    have h0 : dl = 0 := by
      rcases h.2 with h | ⟨_, _, h, _⟩
      · exact h
      · cases h
    subst h0
    have hs : Src Tryd.prog i.size 26 (.slice none 0 dc) 0 [] w := Src.ofNil w (e' := 3) Tryd.underlying26 dc
    refine ⟨_, _, _, run_append_room_src w 26 26 26 3 i Tryd.underlying26 hi b 0 0 0 _ 0 [] hs (by omega) (by simp) (by simp), ⟨h.1, .inl rfl⟩, ?_⟩
    exact Below.refl _ w
/-- The operation, for the walk. -/
theorem wpList_append_days {ops : Array Oper} {rest : List Oper} {o : Oper} {a : Act} {Q : Exit → Act → World → Prop} {w : World} {b : Nat} {da : Option Addr} {dl dc : Nat} {l : List Int} (hgd : o.guard = none) (s x : Operand)
    (ho : o.op = .call { callee := .builtin .append, args := #[s, x], argTypes := #[26, 26] }) (hty : o.type = 26) (hs : a.eval s = .slice (some ⟨b, 0, none⟩) 0 0) (hx : a.eval x = .slice da dl dc)
    (hb : w.heap[b]? = some (.cells #[] 3)) (hd : DaysAt w da dl l) (hl : dl ≤ 1000)
    (h : ∀ da2 dc2 w', DaysOn (fun g => b ≤ g ∧ g < w'.heap.size) w' da2 dl l → Below b w w' → wpList Tryd.prog ops Q rest (a.put o.dst (.slice da2 dl dc2)) w') : wpList Tryd.prog ops Q (o :: rest) a w := by
  obtain ⟨da2, dc2, w', hr, h1, h2⟩ := days_copy (dc := dc) hd hl hb
  exact Lib.wpList_append_run w hgd s x 26 26 ho _ _ hs hx _ w' (by rw [hty]; exact hr) (h da2 dc2 w' h1 h2)

theorem ct_own {w1 u : World} {base : Nat} {v : Value} {k : Nat} {xs : List Value} (h : w1.ownsRow base 29 12 v k xs) (hb : Below w1.heap.size w1.drew u) (o : Obj) : (u.alloc o).ownsRow base 29 12 v k xs :=
  World.ownsRow.alloc (World.ownsRow.kept (w := w1) h ⟨hb.os, hb.tape, hb.output, hb.size, fun i hi _ => hb.block i hi⟩ (row := none) (by cases v.ownBlock <;> simp)) o
theorem ct_ne {w1 : World} {base : Nat} {v : Value} {k q : Nat} {xs : List Value} (h : w1.ownsRow base 29 12 v k xs) (hq : q < base) : some q ≠ v.ownBlock := fun e => by
  have := (h.lt q e.symm).1; omega
theorem one_twelve (x : Ct) (ea : Option Addr) (el ec : Nat) (da : Option Addr) (dl dc : Nat) (a : Option Addr) (len cap : Nat) : ∀ u ∈ ([.int .u8 x.kind, .string x.frm, .string x.too, .string x.name, .int .u8 x.expr.kind, .string x.expr.rat, .string x.expr.name, .int .i64 x.expr.date, .slice ea el ec, .int .i64 x.date, .slice da dl dc, .slice a len cap] : List Value), u.oneCell' = true := by
  intro u hu
  simp only [List.mem_cons, List.not_mem_nil, or_false] at hu
  rcases hu with rfl | rfl | rfl | rfl | rfl | rfl | rfl | rfl | rfl | rfl | rfl | rfl <;> rfl
def zeroCtCells : Array Value := #[.int .u8 0, .string ⟨#[]⟩, .string ⟨#[]⟩, .string ⟨#[]⟩, .int .u8 0, .string ⟨#[]⟩, .string ⟨#[]⟩, .int .i64 0, .slice none 0 0, .int .i64 0, .slice none 0 0, .slice none 0 0]
/-- The three blocks of a call. -/
def CTwB (x : Ct) (B : Nat) (ea : Option Addr) (el ec : Nat) (da : Option Addr) (dl dc : Nat) (a : Option Addr) (len cap : Nat) (ea2 : Option Addr) (el2 ec2 : Nat) (da2 : Option Addr) (dl2 dc2 : Nat) (v : Value) (w : World) : Prop :=
  w.heap[B]? = some (.cells #[.int .u8 x.kind, .string x.frm, .string x.too, .string x.name, .int .u8 x.expr.kind, .string x.expr.rat, .string x.expr.name, .int .i64 x.expr.date, .slice ea el ec, .int .i64 x.date, .slice da dl dc, .slice a len cap] 29) ∧ w.heap[B + 1]? = some (.cells zeroCtCells 29) ∧
    w.heap[B + 1 + 1]? = some (.cells #[.int .u8 x.kind, .string x.frm, .string x.too, .string x.name, .int .u8 x.expr.kind, .string x.expr.rat, .string x.expr.name, .int .i64 x.expr.date, .slice ea2 el2 ec2, .int .i64 x.date, .slice da2 dl2 dc2, v] 29) ∧ B + 3 ≤ w.heap.size

theorem ct_step {n B D k ga ca : Nat} {x y : Ct} {ea da a : Option Addr} {el ec dl dc len cap : Nat} {ea2 da2 : Option Addr} {el2 ec2 dl2 dc2 : Nat} {eap dap ap : Option Addr} {elp ecp dlp dcp lenp capp : Nat} {v : Value} {xs : List Value} {w w1 u w3 : World}
    (hT : CTwB x B ea el ec da dl dc a len cap ea2 el2 ec2 da2 dl2 dc2 v w1) (hD : B + 3 ≤ D) (hz : D ≤ w1.heap.size)
    (hr : CTwR n D x.sub k v xs w1) (hb : Below B w w1) (hu : Below w1.drew.heap.size w1.drew u)
    (hx : CtOn (fun g => w1.drew.heap.size ≤ g ∧ g < u.heap.size) n u [.int .u8 y.kind, .string y.frm, .string y.too, .string y.name, .int .u8 y.expr.kind, .string y.expr.rat, .string y.expr.name, .int .i64 y.expr.date, .slice eap elp ecp, .int .i64 y.date, .slice dap dlp dcp, .slice ap lenp capp] y)
    (hg : (u.alloc (.cells #[.int .u8 y.kind, .string y.frm, .string y.too, .string y.name, .int .u8 y.expr.kind, .string y.expr.rat, .string y.expr.name, .int .i64 y.expr.date, .slice eap elp ecp, .int .i64 y.date, .slice dap dlp dcp, .slice ap lenp capp] 29)).grownBy w3 v.ownBlock)
    (hown : w3.ownsRow D 29 12 (.slice (some ⟨ga, 0, none⟩) (k + 1) ca) (k + 1) (xs ++ [.int .u8 y.kind, .string y.frm, .string y.too, .string y.name, .int .u8 y.expr.kind, .string y.expr.rat, .string y.expr.name, .int .i64 y.expr.date, .slice eap elp ecp, .int .i64 y.date, .slice dap dlp dcp, .slice ap lenp capp]))
    (hat : v.ownBlock = some ga ∨ ga = (u.alloc (.cells #[.int .u8 y.kind, .string y.frm, .string y.too, .string y.name, .int .u8 y.expr.kind, .string y.expr.rat, .string y.expr.name, .int .i64 y.expr.date, .slice eap elp ecp, .int .i64 y.date, .slice dap dlp dcp, .slice ap lenp capp] 29)).heap.size) (hk : k < x.sub.length) (hy : y = x.sub[k]) :
    CTwB x B ea el ec da dl dc a len cap ea2 el2 ec2 da2 dl2 dc2 (.slice (some ⟨ga, 0, none⟩) (k + 1) ca) (w3.setCell ⟨B + 1 + 1, 11, none⟩ (.slice (some ⟨ga, 0, none⟩) (k + 1) ca)) ∧
      CTwR n D x.sub (k + 1) (.slice (some ⟨ga, 0, none⟩) (k + 1) ca) (xs ++ [.int .u8 y.kind, .string y.frm, .string y.too, .string y.name, .int .u8 y.expr.kind, .string y.expr.rat, .string y.expr.name, .int .i64 y.expr.date, .slice eap elp ecp, .int .i64 y.date, .slice dap dlp dcp, .slice ap lenp capp]) (w3.setCell ⟨B + 1 + 1, 11, none⟩ (.slice (some ⟨ga, 0, none⟩) (k + 1) ca)) ∧
      Below B w (w3.setCell ⟨B + 1 + 1, 11, none⟩ (.slice (some ⟨ga, 0, none⟩) (k + 1) ca)) ∧ D ≤ (w3.setCell ⟨B + 1 + 1, 11, none⟩ (.slice (some ⟨ga, 0, none⟩) (k + 1) ca)).heap.size ∧
      ∀ q, B + 3 ≤ q → q < D → (w3.setCell ⟨B + 1 + 1, 11, none⟩ (.slice (some ⟨ga, 0, none⟩) (k + 1) ca)).heap[q]? = w1.heap[q]? := by
  obtain ⟨h0, h1, h2, _⟩ := hT
  obtain ⟨u2, hu2⟩ : ∃ u2, u2 = u.alloc (.cells #[.int .u8 y.kind, .string y.frm, .string y.too, .string y.name, .int .u8 y.expr.kind, .string y.expr.rat, .string y.expr.name, .int .i64 y.expr.date, .slice eap elp ecp, .int .i64 y.date, .slice dap dlp dcp, .slice ap lenp capp] 29) := ⟨_, rfl⟩
  rw [← hu2] at hg hat
  have hbu : Below w1.heap.size w1 u := ⟨hu.os, hu.tape, hu.output, hu.size, hu.block⟩
  have hb2 : Below w1.heap.size w1 u2 := by rw [hu2]; exact hbu.alloc hbu.size _
  have hzu : u.heap.size ≤ u2.heap.size := by rw [hu2]; simp
  have hvb : ∀ g, v.ownBlock = some g → D ≤ g := fun g e => (hr.owns.lt g e).1
  have keep : ∀ q, q < D → w3.heap[q]? = w1.heap[q]? := fun q hq => by
    rw [hg.block q (Nat.lt_of_lt_of_le (by omega) hb2.size) (fun e => by have := hvb q e.symm; omega), hb2.block q (by omega)]
  have hx2 : CtOn (fun g => w1.heap.size ≤ g ∧ g < u2.heap.size) n u2 [.int .u8 y.kind, .string y.frm, .string y.too, .string y.name, .int .u8 y.expr.kind, .string y.expr.rat, .string y.expr.name, .int .i64 y.expr.date, .slice eap elp ecp, .int .i64 y.date, .slice dap dlp dcp, .slice ap lenp capp] y :=
    (hx.keep (w' := u2) fun g ⟨_, g2⟩ => by rw [hu2]; exact Below.heap_alloc u _ g g2).mono fun g ⟨g1, g2⟩ => ⟨g1, by omega⟩
  have hs := hr.snoc hk hy hz hb2 hx2 hg (v' := .slice (some ⟨ga, 0, none⟩) (k + 1) ca) (by
    rcases hat with h | h
    · exact .inl h.symm
    · right; rw [h]; rfl) hown
  refine ⟨⟨?_, ?_, ?_, ?_⟩, hs.set (p := ⟨B + 1 + 1, 11, none⟩) (by show B + 1 + 1 < D; omega) _, ?_, ?_, fun q hq1 hq2 => ?_⟩
  · rw [Below.heap_setCell _ _ _ _ (by show B ≠ B + 1 + 1; omega), keep _ (by omega)]; exact h0
  · rw [Below.heap_setCell _ _ _ _ (by show B + 1 ≠ B + 1 + 1; omega), keep _ (by omega)]; exact h1
  · have := (keep (B + 1 + 1) (by omega)).trans h2
    simp [World.setCell, Array.getElem?_modify, this]
  · have := hg.size; have := hb2.size
    simp [World.setCell]; omega
  · refine (((hb.trans (hb2.mono (by omega))).grown hg (by have := hb2.size; omega) (fun q e => by have := hvb q e; omega))).setCell (p := ⟨B + 1 + 1, 11, none⟩) (by show B ≤ B + 1 + 1; omega) _
  · have := hg.size; have := hb2.size
    simp [World.setCell]; omega
  · rw [Below.heap_setCell _ _ _ _ (by show q ≠ B + 1 + 1; omega)]
    exact keep q hq2

/-- All twelve cells stored. -/
def ctStored (B : Nat) (x : Ct) (ea : Option Addr) (el ec : Nat) (da : Option Addr) (dl dc : Nat) (a : Option Addr) (len cap : Nat) (W : World) : World := ((((((((((((W).setCell ⟨B + 1, 0, none⟩ (.int .u8 x.kind)).setCell ⟨B + 1, 1, none⟩ (.string x.frm)).setCell ⟨B + 1, 2, none⟩ (.string x.too)).setCell ⟨B + 1, 3, none⟩ (.string x.name)).setCell ⟨B + 1, 4, none⟩ (.int .u8 x.expr.kind)).setCell ⟨B + 1, 5, none⟩ (.string x.expr.rat)).setCell ⟨B + 1, 6, none⟩ (.string x.expr.name)).setCell ⟨B + 1, 7, none⟩ (.int .i64 x.expr.date)).setCell ⟨B + 1, 8, none⟩ (.slice ea el ec)).setCell ⟨B + 1, 9, none⟩ (.int .i64 x.date)).setCell ⟨B + 1, 10, none⟩ (.slice da dl dc)).setCell ⟨B + 1, 11, none⟩ (.slice a len cap)
theorem ct_end {n B : Nat} {x : Ct} {ea2 da2 a2 : Option Addr} {el2 ec2 dl2 dc2 len2 cap2 : Nat} {w w1 : World}
    (h1 : w1.heap[B + 1]? = some (.cells zeroCtCells 29)) (hb : Below B w w1)
    (hx : CtOn (fun g => B + 3 ≤ g ∧ g < w1.heap.size) (n + 1) w1 [.int .u8 x.kind, .string x.frm, .string x.too, .string x.name, .int .u8 x.expr.kind, .string x.expr.rat, .string x.expr.name, .int .i64 x.expr.date, .slice ea2 el2 ec2, .int .i64 x.date, .slice da2 dl2 dc2, .slice a2 len2 cap2] x) :
    ∃ W', W' = ctStored B x ea2 el2 ec2 da2 dl2 dc2 a2 len2 cap2 w1 ∧ W'.heap[B + 1]? = some (.cells #[.int .u8 x.kind, .string x.frm, .string x.too, .string x.name, .int .u8 x.expr.kind, .string x.expr.rat, .string x.expr.name, .int .i64 x.expr.date, .slice ea2 el2 ec2, .int .i64 x.date, .slice da2 dl2 dc2, .slice a2 len2 cap2] 29) ∧
      CtOn (fun g => B ≤ g ∧ g < W'.heap.size) (n + 1) W' [.int .u8 x.kind, .string x.frm, .string x.too, .string x.name, .int .u8 x.expr.kind, .string x.expr.rat, .string x.expr.name, .int .i64 x.expr.date, .slice ea2 el2 ec2, .int .i64 x.date, .slice da2 dl2 dc2, .slice a2 len2 cap2] x ∧ Below B w W' := by
  have hs : ∀ g, g ≠ B + 1 → (ctStored B x ea2 el2 ec2 da2 dl2 dc2 a2 len2 cap2 w1).heap[g]? = w1.heap[g]? := fun g hg => by
    unfold ctStored
    simp only [Below.heap_setCell _ _ _ _ (show g ≠ (Addr.mk (B + 1) _ _).block from hg)]
  refine ⟨_, rfl, ?_, ?_, ?_⟩
  · simp [ctStored, World.setCell, Array.getElem?_modify, h1, zeroCtCells]
  · refine (hx.keep fun g ⟨g1, _⟩ => hs g (by omega)).mono fun g ⟨g1, g2⟩ => ⟨by omega, by simpa [ctStored, World.setCell] using g2⟩
  · unfold ctStored
    exact ((((((((((((((((((((((((hb).setCell (p := ⟨B + 1, 0, none⟩) (by show B ≤ B + 1; omega) _)).setCell (p := ⟨B + 1, 1, none⟩) (by show B ≤ B + 1; omega) _)).setCell (p := ⟨B + 1, 2, none⟩) (by show B ≤ B + 1; omega) _)).setCell (p := ⟨B + 1, 3, none⟩) (by show B ≤ B + 1; omega) _)).setCell (p := ⟨B + 1, 4, none⟩) (by show B ≤ B + 1; omega) _)).setCell (p := ⟨B + 1, 5, none⟩) (by show B ≤ B + 1; omega) _)).setCell (p := ⟨B + 1, 6, none⟩) (by show B ≤ B + 1; omega) _)).setCell (p := ⟨B + 1, 7, none⟩) (by show B ≤ B + 1; omega) _)).setCell (p := ⟨B + 1, 8, none⟩) (by show B ≤ B + 1; omega) _)).setCell (p := ⟨B + 1, 9, none⟩) (by show B ≤ B + 1; omega) _)).setCell (p := ⟨B + 1, 10, none⟩) (by show B ≤ B + 1; omega) _)).setCell (p := ⟨B + 1, 11, none⟩) (by show B ≤ B + 1; omega) _)

end Go.Proofs.YtijkefflpojmhaaDoor

namespace Go.Proofs.YtijkefflpojmhaaDoor
open Go.RowKit

theorem three_blocks (w : World) (o1 o2 o3 : Obj) : (((w.alloc o1).alloc o2).alloc o3).heap[w.heap.size]? = some o1 ∧ (((w.alloc o1).alloc o2).alloc o3).heap[w.heap.size + 1]? = some o2 ∧ (((w.alloc o1).alloc o2).alloc o3).heap[w.heap.size + 1 + 1]? = some o3 := by
  refine ⟨?_, ?_, ?_⟩
  · show (((w.heap.push _).push _).push _)[w.heap.size]? = _
    rw [Array.getElem?_push, if_neg (by simp; omega), Array.getElem?_push, if_neg (by simp), Array.getElem?_push, if_pos rfl]
  · show (((w.heap.push _).push _).push _)[w.heap.size + 1]? = _
    rw [Array.getElem?_push, if_neg (by simp), Array.getElem?_push, if_pos (by simp)]
  · show (((w.heap.push _).push _).push _)[w.heap.size + 1 + 1]? = _
    rw [Array.getElem?_push, if_pos (by simp)]
/-- Behind the copy of the expression and of the days. -/
theorem ct_begin {n B : Nat} {x : Ct} {ea da a : Option Addr} {el ec dl dc len cap : Nat} {ea2 : Option Addr} {el2 ec2 : Nat} {w u W : World} {da2 : Option Addr} {dc2 : Nat}
    (h0 : u.heap[B]? = some (.cells #[.int .u8 x.kind, .string x.frm, .string x.too, .string x.name, .int .u8 x.expr.kind, .string x.expr.rat, .string x.expr.name, .int .i64 x.expr.date, .slice ea el ec, .int .i64 x.date, .slice da dl dc, .slice a len cap] 29)) (h1 : u.heap[B + 1]? = some (.cells zeroCtCells 29))
    (h2 : u.heap[B + 1 + 1]? = some (.cells #[.int .u8 x.kind, .string x.frm, .string x.too, .string x.name, .int .u8 0, .string ⟨#[]⟩, .string ⟨#[]⟩, .int .i64 0, .slice none 0 0, .int .i64 x.date, .slice none 0 0, .slice none 0 0] 29))
    (hz : B + 3 ≤ u.heap.size) (hb : Below B w u) (hx : ExOn (fun g => B + 3 ≤ g ∧ g < u.heap.size) (n + 1) u [.int .u8 x.expr.kind, .string x.expr.rat, .string x.expr.name, .int .i64 x.expr.date, .slice ea2 el2 ec2] x.expr)
    (hd : DaysOn (fun g => u.heap.size ≤ g ∧ g < W.heap.size) W da2 dl x.dates) (hW : Below u.heap.size ((((((u.setCell ⟨B + 1 + 1, 4, none⟩ (.int .u8 x.expr.kind)).setCell ⟨B + 1 + 1, 5, none⟩ (.string x.expr.rat)).setCell ⟨B + 1 + 1, 6, none⟩ (.string x.expr.name)).setCell ⟨B + 1 + 1, 7, none⟩ (.int .i64 x.expr.date)).setCell ⟨B + 1 + 1, 8, none⟩ (.slice ea2 el2 ec2)).alloc (.cells #[] 3)) W) :
    ∃ V, V = W.setCell ⟨B + 1 + 1, 10, none⟩ (.slice da2 dl dc2) ∧ CTwB x B ea el ec da dl dc a len cap ea2 el2 ec2 da2 dl dc2 (.slice none 0 0) V ∧ Below B w V ∧
      ExOn (fun g => B + 3 ≤ g ∧ g < V.heap.size) (n + 1) V [.int .u8 x.expr.kind, .string x.expr.rat, .string x.expr.name, .int .i64 x.expr.date, .slice ea2 el2 ec2] x.expr ∧ DaysOn (fun g => B + 3 ≤ g ∧ g < V.heap.size) V da2 dl x.dates := by
  obtain ⟨U, hU⟩ : ∃ U, U = ((((((u.setCell ⟨B + 1 + 1, 4, none⟩ (.int .u8 x.expr.kind)).setCell ⟨B + 1 + 1, 5, none⟩ (.string x.expr.rat)).setCell ⟨B + 1 + 1, 6, none⟩ (.string x.expr.name)).setCell ⟨B + 1 + 1, 7, none⟩ (.int .i64 x.expr.date)).setCell ⟨B + 1 + 1, 8, none⟩ (.slice ea2 el2 ec2)).alloc (.cells #[] 3)) := ⟨_, rfl⟩
  rw [← hU] at hW
  have hUs : U.heap.size = u.heap.size + 1 := by rw [hU]; simp [World.setCell, World.alloc]
  have hUo : ∀ g, g < u.heap.size → g ≠ B + 1 + 1 → U.heap[g]? = u.heap[g]? := fun g hg hne => by
    rw [hU, Below.heap_alloc _ _ g (by simp [World.setCell]; omega)]
    simp only [Below.heap_setCell _ _ _ _ (show g ≠ (Addr.mk (B + 1 + 1) _ _).block from hne)]
  have hU2 : U.heap[B + 1 + 1]? = some (.cells #[.int .u8 x.kind, .string x.frm, .string x.too, .string x.name, .int .u8 x.expr.kind, .string x.expr.rat, .string x.expr.name, .int .i64 x.expr.date, .slice ea2 el2 ec2, .int .i64 x.date, .slice none 0 0, .slice none 0 0] 29) := by
    rw [hU, Below.heap_alloc _ _ _ (by simp [World.setCell]; omega)]
    simp [World.setCell, Array.getElem?_modify, h2]
  have hWo : ∀ g, g < u.heap.size → g ≠ B + 1 + 1 → W.heap[g]? = u.heap[g]? := fun g hg hne => (hW.block g hg).trans (hUo g hg hne)
  have hbU : Below B w U := by
    rw [hU]
    exact (((((hb.setCell (p := ⟨B + 1 + 1, 4, none⟩) (by show B ≤ B + 1 + 1; omega) _).setCell (p := ⟨B + 1 + 1, 5, none⟩) (by show B ≤ B + 1 + 1; omega) _).setCell (p := ⟨B + 1 + 1, 6, none⟩) (by show B ≤ B + 1 + 1; omega) _).setCell (p := ⟨B + 1 + 1, 7, none⟩) (by show B ≤ B + 1 + 1; omega) _).setCell (p := ⟨B + 1 + 1, 8, none⟩) (by show B ≤ B + 1 + 1; omega) _).alloc (by simp [World.setCell]; omega) _
  have hWs := hW.size
  refine ⟨_, rfl, ⟨?_, ?_, ?_, ?_⟩, (hbU.trans (hW.mono (by omega))).setCell (p := ⟨B + 1 + 1, 10, none⟩) (by show B ≤ B + 1 + 1; omega) _, ?_, ?_⟩
  · rw [Below.heap_setCell _ _ _ _ (by show B ≠ B + 1 + 1; omega), hWo _ (by omega) (by omega)]; exact h0
  · rw [Below.heap_setCell _ _ _ _ (by show B + 1 ≠ B + 1 + 1; omega), hWo _ (by omega) (by omega)]; exact h1
  · have := (hW.block (B + 1 + 1) (by omega)).trans hU2
    simp [World.setCell, Array.getElem?_modify, this]
  · simp [World.setCell]; omega
  · refine (hx.keep fun g ⟨g1, g2⟩ => ?_).mono fun g ⟨g1, g2⟩ => ⟨g1, by simp [World.setCell]; omega⟩
    rw [Below.heap_setCell _ _ _ _ (by show g ≠ B + 1 + 1; omega)]
    exact hWo g g2 (by omega)
  · refine ⟨hd.1, hd.2.imp id fun ⟨g, ha, hg, hi⟩ => ⟨g, ha, ⟨by omega, by simp [World.setCell]; omega⟩, fun i h => ?_⟩⟩
    rw [World.cell?_of_block (Below.heap_setCell _ _ _ _ (by show g ≠ B + 1 + 1; omega))]
    exact hi i h
theorem alloc_new (U : World) (o : Obj) (k : Nat) (h : U.heap.size = k) : (U.alloc o).heap[k]? = some o := by
  subst h
  show (U.heap.push o)[U.heap.size]? = _
  rw [Array.getElem?_push, if_pos rfl]
theorem ct_mid {B : Nat} {x : Ct} {ea2 : Option Addr} {el2 ec2 : Nat} {u W : World}
    (h2 : u.heap[B + 1 + 1]? = some (.cells #[.int .u8 x.kind, .string x.frm, .string x.too, .string x.name, .int .u8 0, .string ⟨#[]⟩, .string ⟨#[]⟩, .int .i64 0, .slice none 0 0, .int .i64 x.date, .slice none 0 0, .slice none 0 0] 29))
    (hz : B + 3 ≤ u.heap.size) (hW : Below u.heap.size ((((((u.setCell ⟨B + 1 + 1, 4, none⟩ (.int .u8 x.expr.kind)).setCell ⟨B + 1 + 1, 5, none⟩ (.string x.expr.rat)).setCell ⟨B + 1 + 1, 6, none⟩ (.string x.expr.name)).setCell ⟨B + 1 + 1, 7, none⟩ (.int .i64 x.expr.date)).setCell ⟨B + 1 + 1, 8, none⟩ (.slice ea2 el2 ec2)).alloc (.cells #[] 3)) W) :
    W.heap[B + 1 + 1]? = some (.cells #[.int .u8 x.kind, .string x.frm, .string x.too, .string x.name, .int .u8 x.expr.kind, .string x.expr.rat, .string x.expr.name, .int .i64 x.expr.date, .slice ea2 el2 ec2, .int .i64 x.date, .slice none 0 0, .slice none 0 0] 29) := by
  rw [hW.block (B + 1 + 1) (by omega), Below.heap_alloc _ _ _ (by simp [World.setCell]; omega)]
  simp [World.setCell, Array.getElem?_modify, h2]
theorem ct_mid1 {B : Nat} {x : Ct} {ea2 : Option Addr} {el2 ec2 : Nat} {w u : World} (hz : B + 3 ≤ u.heap.size) (hb : Below B w u) :
    ((((((u.setCell ⟨B + 1 + 1, 4, none⟩ (.int .u8 x.expr.kind)).setCell ⟨B + 1 + 1, 5, none⟩ (.string x.expr.rat)).setCell ⟨B + 1 + 1, 6, none⟩ (.string x.expr.name)).setCell ⟨B + 1 + 1, 7, none⟩ (.int .i64 x.expr.date)).setCell ⟨B + 1 + 1, 8, none⟩ (.slice ea2 el2 ec2)).alloc (.cells #[] 3)).heap[u.heap.size]? = some (.cells #[] 3) ∧ Below B w ((((((u.setCell ⟨B + 1 + 1, 4, none⟩ (.int .u8 x.expr.kind)).setCell ⟨B + 1 + 1, 5, none⟩ (.string x.expr.rat)).setCell ⟨B + 1 + 1, 6, none⟩ (.string x.expr.name)).setCell ⟨B + 1 + 1, 7, none⟩ (.int .i64 x.expr.date)).setCell ⟨B + 1 + 1, 8, none⟩ (.slice ea2 el2 ec2)).alloc (.cells #[] 3)) := by
  refine ⟨?_, (((((hb.setCell (p := ⟨B + 1 + 1, 4, none⟩) (by show B ≤ B + 1 + 1; omega) _).setCell (p := ⟨B + 1 + 1, 5, none⟩) (by show B ≤ B + 1 + 1; omega) _).setCell (p := ⟨B + 1 + 1, 6, none⟩) (by show B ≤ B + 1 + 1; omega) _).setCell (p := ⟨B + 1 + 1, 7, none⟩) (by show B ≤ B + 1 + 1; omega) _).setCell (p := ⟨B + 1 + 1, 8, none⟩) (by show B ≤ B + 1 + 1; omega) _).alloc (by simp [World.setCell]; omega) _⟩
  exact alloc_new _ _ _ (by simp [World.setCell])
/-- The whole, at the loop's end. -/
theorem ct_whole {n B D k dl : Nat} {x : Ct} {ea2 : Option Addr} {el2 ec2 : Nat} {da2 : Option Addr} {dc2 : Nat} {v : Value} {xs : List Value} {V wr : World} (hD : B + 3 ≤ D) (hVD : V.heap.size = D)
    (hx : ExOn (fun g => B + 3 ≤ g ∧ g < V.heap.size) (n + 1) V [.int .u8 x.expr.kind, .string x.expr.rat, .string x.expr.name, .int .i64 x.expr.date, .slice ea2 el2 ec2] x.expr) (hd : DaysOn (fun g => B + 3 ≤ g ∧ g < V.heap.size) V da2 dl x.dates)
    (hs : ∀ q, B + 3 ≤ q → q < D → wr.heap[q]? = V.heap[q]?) (hz : D ≤ wr.heap.size) (hr : CTwR n D x.sub k v xs wr) (hk : x.sub.length = k) :
    ∃ a2 len2 cap2, v = .slice a2 len2 cap2 ∧ CtOn (fun g => B + 3 ≤ g ∧ g < wr.heap.size) (n + 1) wr [.int .u8 x.kind, .string x.frm, .string x.too, .string x.name, .int .u8 x.expr.kind, .string x.expr.rat, .string x.expr.name, .int .i64 x.expr.date, .slice ea2 el2 ec2, .int .i64 x.date, .slice da2 dl dc2, .slice a2 len2 cap2] x := by
  obtain ⟨a2, len2, cap2, hv, hl, hp⟩ := hr.done hk
  refine ⟨a2, len2, cap2, hv, ea2, el2, ec2, da2, dl, dc2, a2, len2, cap2, rfl, (hx.keep fun g ⟨g1, g2⟩ => hs g g1 (by omega)).mono fun g ⟨g1, g2⟩ => ⟨g1, by omega⟩, ⟨hd.1, hd.2.imp id fun ⟨g, ha, hg, hi⟩ => ⟨g, ha, ⟨hg.1, by omega⟩, fun i h => (World.cell?_of_block (hs g hg.1 (by omega))).trans (hi i h)⟩⟩, hl, hp.imp id fun ⟨g, ha, hg, hi⟩ => ⟨g, ha, ⟨by omega, hg.2⟩, fun i h => ?_⟩⟩
  obtain ⟨cs', h1, h2⟩ := hi i h
  exact ⟨cs', h1, h2.mono fun g ⟨g1, g2⟩ => ⟨by omega, g2⟩⟩

end Go.Proofs.YtijkefflpojmhaaDoor

namespace Go.Proofs.YtijkefflpojmhaaDoor
open Go.RowKit

def hasB (p part : Int) : Bool := bits BinOp.and IntKind.i64 p part != 0
theorem has_b {p part : Int} {g : Nat} {w : World} {b : Bool} (h : w.cell? ⟨g, 0, none⟩ = some (.int .i64 p)) (hb : hasB p part = b) : Calls Tryd.prog 47 #[.int .i64 part, .pointer (some ⟨g, 0, none⟩)] w (fun e w' => e = .returned (.bool b) ∧ w = w') := by
  subst hb
  go_enter Tryd.func47, Tryd.ntmps47
  go_wp2_with fail
  go_ret
  exact ⟨rfl, rfl⟩
set_option maxHeartbeats 1000000 in
theorem word_b {p part : Int} {g h : Nat} {s : ByteArray} {w : World} {b v : Bool} (hg : w.cell? ⟨g, 0, none⟩ = some (.int .i64 p)) (hh : w.cell? ⟨h, 0, none⟩ = some (.func (.func 47) #[] #[.pointer (some ⟨g, 0, none⟩)])) (hb : hasB p part = b)
    (hv : v = if b then nmB s.data.toList else s.toList.isEmpty) : Calls Tryd.prog 48 #[.int .i64 part, .string s, .pointer (some ⟨h, 0, none⟩)] w (fun e w' => e = .returned (.bool v) ∧ w = w') := by
  have HB := Lib.hid hb
  have HNM : Hid (∀ W, Calls Tryd.prog 24 #[.string s] W (fun e w' => e = .returned (.bool (nmB s.data.toList)) ∧ W = w')) := fun W => name_any s W
  obtain ⟨nb, hnb⟩ : ∃ z, z = nmB s.data.toList := ⟨_, rfl⟩
  obtain ⟨em, hem⟩ : ∃ z, s.toList.isEmpty = z := ⟨_, rfl⟩
  rw [← hnb] at HNM hv
  rw [hem] at hv
  clear hb hnb
  cases b with
  | true =>
    have hv2 : v = nb := hv
    subst hv2
    clear hv
    cases v with
    | true =>
      go_enter Tryd.func48, Tryd.ntmps48
      go_wp2_with fail
      refine (has_b hg HB.out).mono ?_
      rintro e w' ⟨rfl, rfl⟩
      go_wp2_with fail
      refine (HNM.out _).mono ?_
      rintro e w' ⟨rfl, rfl⟩
      go_wp2_with fail
      go_ret
      exact ⟨rfl, rfl⟩
    | false =>
      go_enter Tryd.func48, Tryd.ntmps48
      go_wp2_with fail
      refine (has_b hg HB.out).mono ?_
      rintro e w' ⟨rfl, rfl⟩
      go_wp2_with fail
      refine (HNM.out _).mono ?_
      rintro e w' ⟨rfl, rfl⟩
      go_wp2_with fail
      refine (has_b hg HB.out).mono ?_
      rintro e w' ⟨rfl, rfl⟩
      go_wp2_with fail
      go_ret
      exact ⟨rfl, rfl⟩
  | false =>
    have hv2 : v = em := hv
    subst hv2
    clear hv
    cases v with
    | true =>
      go_enter Tryd.func48, Tryd.ntmps48
      go_wp2_with fail
      refine (has_b hg HB.out).mono ?_
      rintro e w' ⟨rfl, rfl⟩
      go_wp2_with fail
      refine (has_b hg HB.out).mono ?_
      rintro e w' ⟨rfl, rfl⟩
      go_wp2_with fail
      go_ret
      exact ⟨rfl, rfl⟩
    | false =>
      go_enter Tryd.func48, Tryd.ntmps48
      go_wp2_with fail
      refine (has_b hg HB.out).mono ?_
      rintro e w' ⟨rfl, rfl⟩
      go_wp2_with fail
      refine (has_b hg HB.out).mono ?_
      rintro e w' ⟨rfl, rfl⟩
      go_wp2_with fail
      go_ret
      exact ⟨rfl, rfl⟩

end Go.Proofs.YtijkefflpojmhaaDoor

namespace Go.Proofs.YtijkefflpojmhaaDoor
open Go.RowKit

set_option maxHeartbeats 8000000 in
set_option maxRecDepth 100000 in
theorem pnode_none {Wg : World} (hpt : PtsAt Wg) (n : Nat) (x : Ct) (cs : List Value) (w : World) (h : CtIn n x cs w Wg) (hG : ptsL x.kind = none) : Calls Tryd.prog 30 #[.agg cs.toArray] w (BelB w (nodeX x)) := by
  cases n with
  | zero => exact h.at_.elim
  | succ n =>
    obtain ⟨ea, el, ec, da, dl, dc, a, len, cap, rfl, hex, hds, hlen, hsub⟩ := h.at_
    have hdl := hds.1
    have hd200 := h.dates
    have hlb : len ≤ 3000 := by have := h.len; omega
    have hel : x.expr.sub.length = el := by
      obtain ⟨a', l', c', he, hl, _⟩ := hex
      injection he with _ he; injection he with _ he; injection he with _ he; injection he with _ he; injection he with he _
      injection he with _ he _
      rw [hl, he]
    obtain ⟨⟨hk0, hk1⟩, _⟩ := h.kok
    obtain ⟨R, hR⟩ : ∃ R, R = nodeX x := ⟨_, rfl⟩
    rw [← hR]
    obtain ⟨W0, hW0⟩ : ∃ W0, W0 = w.alloc (.cells #[.int .u8 x.kind, .string x.frm, .string x.too, .string x.name, .int .u8 x.expr.kind, .string x.expr.rat, .string x.expr.name, .int .i64 x.expr.date, .slice ea el ec, .int .i64 x.date, .slice da dl dc, .slice a len cap] 29) := ⟨_, rfl⟩
    have hbx : W0.heap[w.heap.size]? = some (.cells #[.int .u8 x.kind, .string x.frm, .string x.too, .string x.name, .int .u8 x.expr.kind, .string x.expr.rat, .string x.expr.name, .int .i64 x.expr.date, .slice ea el ec, .int .i64 x.date, .slice da dl dc, .slice a len cap] 29) := by rw [hW0]; exact heap_alloc_new w _
    have hB0 : Below w.heap.size w W0 := by rw [hW0]; exact own_below w _
    have hsz : W0.heap.size = w.heap.size + 1 := by rw [hW0]; simp
    have HIN0 := Lib.hid (h.below hB0)
    have hbg : Below Wg.heap.size Wg W0 := h.old.trans (hB0.mono h.old.size)
    obtain ⟨bm, hc, hkk⟩ := hpt
    have hgc : W0.cell? ⟨0, 0, none⟩ = some (.map (some bm)) := ((bcell hbg).1 _ _ (cell_lt (a := ⟨_, 0, none⟩) hc)).trans hc
    have HKK := Lib.hid (hkk x.kind hk0 hk1)
    have HBG := Lib.hid hbg
    obtain ⟨nobody, qnobody⟩ : ∃ b, x.frm.toList.isEmpty = b := ⟨_, rfl⟩
    obtain ⟨noTo, qnoTo⟩ : ∃ b, x.too.toList.isEmpty = b := ⟨_, rfl⟩
    obtain ⟨noName, qnoName⟩ : ∃ b, x.name.toList.isEmpty = b := ⟨_, rfl⟩
    obtain ⟨noDate, qnoDate⟩ : ∃ b, (x.date == 0) = b := ⟨_, rfl⟩
    obtain ⟨noDays, qnoDays⟩ : ∃ b, ((dl : Int) == 0) = b := ⟨_, rfl⟩
    obtain ⟨n0, qn0⟩ : ∃ b, ((len : Int) == 0) = b := ⟨_, rfl⟩
    obtain ⟨n1, qn1⟩ : ∃ b, ((len : Int) == 1) = b := ⟨_, rfl⟩
    obtain ⟨n2, qn2⟩ : ∃ b, ((len : Int) == 2) = b := ⟨_, rfl⟩
    obtain ⟨eq, qeq⟩ : ∃ b, (x.frm.toList == x.too.toList) = b := ⟨_, rfl⟩
    obtain ⟨noExpr, qnoExpr⟩ : ∃ b, b = bareX x.expr := ⟨_, rfl⟩
    obtain ⟨days, qdays⟩ : ∃ b, b = daysX x.dates := ⟨_, rfl⟩
    obtain ⟨number, qnumber⟩ : ∃ b, b = numX x.expr := ⟨_, rfl⟩
    obtain ⟨truth, qtruth⟩ : ∃ b, b = truX x.expr := ⟨_, rfl⟩
    obtain ⟨party, qparty⟩ : ∃ b, b = nmB x.frm.data.toList := ⟨_, rfl⟩
    obtain ⟨word, qword⟩ : ∃ b, b = nmB x.name.data.toList := ⟨_, rfl⟩
    obtain ⟨nTo, qnTo⟩ : ∃ b, b = nmB x.too.data.toList := ⟨_, rfl⟩
    obtain ⟨day, qday⟩ : ∃ b, b = dayOk x.date := ⟨_, rfl⟩
    have HX2 : Hid (R = nodeB x.kind n0 n1 n2 party nTo (!eq) word nobody noTo noName noDate noDays noExpr days number truth day) := by
      show R = _
      rw [hR]
      unfold nodeX
      rw [qnobody, qnoTo, qnoName, qnoDate, hdl, hlen, qnoDays, qn0, qn1, qn2, qeq, ← qnoExpr, ← qdays, ← qnumber, ← qtruth, ← qparty, ← qword, ← qnTo, ← qday]
    have HBARE : Hid (∀ W, Calls Tryd.prog 43 #[.agg #[.int .u8 x.expr.kind, .string x.expr.rat, .string x.expr.name, .int .i64 x.expr.date, .slice ea el ec]] W (BelB W noExpr)) := fun W => by rw [qnoExpr]; exact pbare_any x.expr ea el ec W hel
    have HDAYS : Hid (∀ W, Below W0.heap.size W0 W → Calls Tryd.prog 52 #[.slice da dl dc] W (BelB W days)) := fun W hW => by rw [qdays]; exact pdays_any x.dates da dl dc W (hds.below (hB0.trans (hW.mono hB0.size))) (by omega)
    have HNUM : Hid (∀ W, Below W0.heap.size W0 W → Calls Tryd.prog 49 #[.agg #[.int .u8 x.expr.kind, .string x.expr.rat, .string x.expr.name, .int .i64 x.expr.date, .slice ea el ec]] W (BelB W number)) := fun W hW => by rw [qnumber]; exact pnumber_any (n + 1) x.expr _ W Wg (HIN0.out.below hW).expr
    have HTRU : Hid (∀ W, Below W0.heap.size W0 W → Calls Tryd.prog 50 #[.agg #[.int .u8 x.expr.kind, .string x.expr.rat, .string x.expr.name, .int .i64 x.expr.date, .slice ea el ec]] W (BelB W truth)) := fun W hW => by rw [qtruth]; exact ptruth_any (n + 1) x.expr _ W Wg (HIN0.out.below hW).expr
    have HDAY : Hid (∀ W, Calls Tryd.prog 51 #[.int .i64 x.date] W (fun e w' => e = .returned (.bool day) ∧ W = w')) := fun W => by rw [qday]; exact pcwithin_any x.date W
    have HQ : Hid (nobody = x.frm.toList.isEmpty ∧ noTo = x.too.toList.isEmpty ∧ noName = x.name.toList.isEmpty ∧ party = nmB x.frm.data.toList ∧ nTo = nmB x.too.data.toList ∧ word = nmB x.name.data.toList) := ⟨qnobody.symm, qnoTo.symm, qnoName.symm, qparty, qnTo, qword⟩
    obtain ⟨c0, c1, c2, c3, c4, c5, c6, c7, c8, c9, ca, cb⟩ := ctBox hbx
    have HW0 := Lib.hid hW0
    have HB0 := Lib.hid hB0
    have HBX := Lib.hid hbx
    clear qnoExpr qdays qnumber qtruth qparty qword qnTo qday qnobody qnoTo qnoName hR hW0 hbx hB0 hbg hc hkk hex hds hlen hsub h
    show Calls Tryd.prog 30 #[.agg #[.int .u8 x.kind, .string x.frm, .string x.too, .string x.name, .int .u8 x.expr.kind, .string x.expr.rat, .string x.expr.name, .int .i64 x.expr.date, .slice ea el ec, .int .i64 x.date, .slice da dl dc, .slice a len cap]] w _
    have hno := hG
    have hlook := HKK.out.1 hno W0 HBG.out
    have e : R = false := by
      rw [HX2.out]
      refine nodeB_no ?_ ..
      unfold ptsL at hno
      (repeat' split at hno) <;> first | omega | cases hno
    have E := Lib.hid e
    clear e HX2 HKK
    go_enter Tryd.func30, Tryd.ntmps30
    go_upto_region 1 with (fail)
    rw [← HW0.out]
    go_wp2_with fail
    go_ret
    exact ⟨by rw [E.out]; rfl, HB0.out.alloc HB0.out.size _⟩

end Go.Proofs.YtijkefflpojmhaaDoor
