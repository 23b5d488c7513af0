/-
  The sort of an expression (0: not well-formed; 1: a number; 2: a truth value). No program. The reference's Twin of an expression: a tree of its own, equal. No condition but lengths. The reference's Twin of an expression, walked. No condition but the size.
-/
import Derived.Test.YtdgmpgejemgbbaaGreatDoorOa
import Derived.Test.YtdgmpgejemgbbaaGreatDoorVn
import Derived.Test.YtdgmpgejemgbbaaGreatDoorVg
import Derived.Test.YtdgmpgejemgbbaaGreatDoorVd
import Derived.Deep.RegionLaw
import Derived.Deep.AppendLies
namespace Go.Proofs.YtdgmpgejemgbbaaGreatDoor
open Go.RowKit

/-- The sorts of the parts of a kind, and its own. -/
def shpL (k : Int) : Option (List Int × Int) :=
  if k = 4 ∨ k = 5 ∨ k = 6 ∨ k = 7 ∨ k = 8 then some ([1, 1], 1) else if k = 9 then some ([2, 1, 1], 1) else if k = 11 ∨ k = 12 then some ([1, 1], 2) else if k = 13 ∨ k = 14 then some ([2, 2], 2) else if k = 15 then some ([2], 2) else none
def bareB (r n : ByteArray) (d : Int) : Bool := r.data.toList.isEmpty && n.data.toList.isEmpty && d == 0
/-- The sort of a leaf without parts. -/
def leafV (k : Int) (r n : ByteArray) (d : Int) : Int :=
  if k = 1 then (if n.data.toList.isEmpty = true ∧ d = 0 ∧ chkR r.data.toList = 0 then 1 else 0)
  else if k = 2 then (if r.data.toList.isEmpty = true ∧ nmB n.data.toList = true ∧ 0 ≤ d ∧ d ≤ 99999 then 1 else 0)
  else if k = 3 then (if r.data.toList.isEmpty = true ∧ nmB n.data.toList = true ∧ d = 0 then 1 else 0)
  else 0
/-- .. of a kind, its cells and the sorts of its parts. -/
def srtP (k : Int) (r n : ByteArray) (d : Int) (l : List Int) : Int :=
  match shpL k with
  | some (ps, own) => if bareB r n d = true ∧ l = ps then own else 0
  | none => if l = [] then leafV k r n d else 0
def Ex.srt : Ex → Int
  | .mk k r n d l => srtP k r n d (l.attach.map fun x => x.1.srt)
termination_by x => SizeOf.sizeOf x
decreasing_by
  have := List.sizeOf_lt_of_mem x.2
  simp only [Ex.mk.sizeOf_spec]
  omega
theorem Ex.srt_is (x : Ex) : x.srt = srtP x.kind x.rat x.name x.date (x.sub.map Ex.srt) := by
  cases x with
  | mk k r n d l =>
    rw [Ex.srt]
    show _ = srtP k r n d (l.map Ex.srt)
    rw [show (l.attach.map fun x => x.1.srt) = l.map Ex.srt from List.attach_map_val (l := l) (f := Ex.srt)]
theorem leafV_01 (k : Int) (r n : ByteArray) (d : Int) : leafV k r n d = 0 ∨ leafV k r n d = 1 := by
  unfold leafV
  (repeat' split) <;> simp
theorem shpL_own {k : Int} {ps : List Int} {own : Int} (h : shpL k = some (ps, own)) : own = 1 ∨ own = 2 := by
  unfold shpL at h
  (repeat' split at h) <;> simp at h <;> omega
theorem srtP_012 (k : Int) (r n : ByteArray) (d : Int) (l : List Int) : srtP k r n d l = 0 ∨ srtP k r n d l = 1 ∨ srtP k r n d l = 2 := by
  unfold srtP
  split
  · rename_i h
    split
    · exact .inr (shpL_own h)
    · exact .inl rfl
  · split
    · rcases leafV_01 k r n d with h | h <;> rw [h] <;> simp
    · exact .inl rfl
theorem Ex.srt_012 (x : Ex) : x.srt = 0 ∨ x.srt = 1 ∨ x.srt = 2 := by rw [x.srt_is]; exact srtP_012 _ _ _ _ _
theorem mem_srt {ps : List Int} (h : ∀ p ∈ ps, p ≠ 0) {x : Ex} (hx : x.sub.map Ex.srt = ps) {y : Ex} (hy : y ∈ x.sub) : y.srt ≠ 0 := h _ (by rw [← hx]; exact List.mem_map_of_mem hy)
theorem shpL_pos {k : Int} {ps : List Int} {own : Int} (h : shpL k = some (ps, own)) : (∀ p ∈ ps, p ≠ 0) ∧ ps.length ≤ 3 := by
  unfold shpL at h
  (repeat' split at h) <;> simp at h <;> obtain ⟨rfl, _⟩ := h <;> simp

end Go.Proofs.YtdgmpgejemgbbaaGreatDoor

namespace Go.Proofs.YtdgmpgejemgbbaaGreatDoor
open Go.RowKit

/-- The cells of an expression whose parts lie in blocks of a kind. -/
def ExOn (S : Nat → Prop) : Nat → World → List Value → Ex → Prop
  | 0, _, _, _ => False
  | n + 1, w, cs, x => ∃ a len cap, cs = [.int .u8 x.kind, .string x.rat, .string x.name, .int .i64 x.date, .slice a len cap] ∧ x.sub.length = len ∧
      (len = 0 ∨ ∃ g, a = some ⟨g, 0, none⟩ ∧ S g ∧ ∀ i (hi : i < x.sub.length), ∃ cs', (∀ j, j < 5 → w.cell? ⟨g, i * 5 + j, none⟩ = cs'[j]?) ∧ ExOn S n w cs' x.sub[i])
theorem ExOn.mono {S S' : Nat → Prop} (hS : ∀ g, S g → S' g) : ∀ {n : Nat} {w : World} {cs : List Value} {x : Ex}, ExOn S n w cs x → ExOn S' n w cs x
  | 0, _, _, _, h => h
  | n + 1, w, cs, x, ⟨a, len, cap, h1, h2, h3⟩ => ⟨a, len, cap, h1, h2, h3.imp id fun ⟨g, ha, hg, hi⟩ => ⟨g, ha, hS g hg, fun i h => by
      obtain ⟨cs', hc, hx⟩ := hi i h
      exact ⟨cs', hc, ExOn.mono hS hx⟩⟩⟩
theorem ExOn.keep {S : Nat → Prop} {w w' : World} (hw : ∀ g, S g → w'.heap[g]? = w.heap[g]?) : ∀ {n : Nat} {cs : List Value} {x : Ex}, ExOn S n w cs x → ExOn S n w' cs x
  | 0, _, _, h => h
  | n + 1, cs, x, ⟨a, len, cap, h1, h2, h3⟩ => ⟨a, len, cap, h1, h2, h3.imp id fun ⟨g, ha, hg, hi⟩ => ⟨g, ha, hg, fun i h => by
      obtain ⟨cs', hc, hx⟩ := hi i h
      exact ⟨cs', fun j hj => (World.cell?_of_block (w := w) (w' := w') (a := ⟨g, i * 5 + j, none⟩) (hw g hg)).trans (hc j hj), ExOn.keep hw hx⟩⟩⟩
theorem ExOn.at {S : Nat → Prop} {w : World} (hS : ∀ g, S g → g < w.heap.size) : ∀ {n : Nat} {cs : List Value} {x : Ex}, ExOn S n w cs x → ExAt n w cs x
  | 0, _, _, h => h
  | n + 1, cs, x, ⟨a, len, cap, h1, h2, h3⟩ => ⟨a, len, cap, h1, h2, h3.imp id fun ⟨g, ha, hg, hi⟩ => ⟨g, 0, ha, hS g hg, fun i h => by
      obtain ⟨cs', hc, hx⟩ := hi i h
      exact ⟨cs', fun j hj => by rw [Nat.zero_add]; exact hc j hj, ExOn.at hS hx⟩⟩⟩
theorem ExOn.shape {S : Nat → Prop} : ∀ {n : Nat} {w : World} {cs : List Value} {x : Ex}, ExOn S n w cs x → ∃ a len cap, cs = [.int .u8 x.kind, .string x.rat, .string x.name, .int .i64 x.date, .slice a len cap]
  | 0, _, _, _, h => h.elim
  | _ + 1, _, _, _, ⟨a, len, cap, h1, _, _⟩ => ⟨a, len, cap, h1⟩
/-- What Twin returns. -/
def TwP (n : Nat) (x : Ex) (w : World) (e : Ending) (w' : World) : Prop :=
  ∃ a len cap, e = .returned (.agg #[.int .u8 x.kind, .string x.rat, .string x.name, .int .i64 x.date, .slice a len cap]) ∧ ExOn (fun g => w.heap.size ≤ g ∧ g < w'.heap.size) n w' [.int .u8 x.kind, .string x.rat, .string x.name, .int .i64 x.date, .slice a len cap] x ∧ Below w.heap.size w w'
def zeroEx : Value := .agg #[.int .u8 0, .string ⟨#[]⟩, .string ⟨#[]⟩, .int .i64 0, .slice none 0 0]
theorem infoEx : (Tryz.prog.info? 25).map (fun i => (i.zero, i.size, i.bytes)) = some (some zeroEx, 5, 72) := by kernel_rfl
/-- The parts that are copied so far: the row of the copies, their trees elsewhere. -/
def TwR (n B : Nat) (l : List Ex) (k : Nat) (v : Value) (xs : List Value) (wr : World) : Prop :=
  ∃ css : List (List Value), css.flatten = xs ∧ css.length = k ∧ (∀ c ∈ css, c.length = 5) ∧ wr.ownsRow B 25 5 v k xs ∧
    ∀ i (h : i < css.length) (h2 : i < l.length), ExOn (fun g => B ≤ g ∧ g < wr.heap.size ∧ v.ownBlock ≠ some g) n wr css[i] l[i]
theorem TwR.nil (n B : Nat) (l : List Ex) (wr : World) : TwR n B l 0 (.slice none 0 0) [] wr :=
  ⟨[], rfl, rfl, by simp, ⟨by simp, .inl ⟨rfl, rfl⟩⟩, fun i h => absurd h (Nat.not_lt_zero _)⟩
/-- A store below. -/
theorem TwR.set {n B : Nat} {l : List Ex} {k : Nat} {v : Value} {xs : List Value} {w1 : World} (h : TwR n B l k v xs w1) {p : Addr} (hp : p.block < B) (u : Value) : TwR n B l k v xs (w1.setCell p u) := by
  obtain ⟨css, h0, h1, h2, h3, h4⟩ := h
  refine ⟨css, h0, h1, h2, ownsRow_setCell_below h3 hp u, fun i hi hi2 => ((h4 i hi hi2).keep (w' := w1.setCell p u) fun g ⟨g1, _, _⟩ => Below.heap_setCell _ _ _ _ (by omega)).mono fun g ⟨g1, g2, g3⟩ => ⟨g1, by simpa [World.setCell] using g2, g3⟩⟩
/-- One more. -/
theorem TwR.snoc {n B : Nat} {l : List Ex} {k : Nat} {v v' : Value} {xs : List Value} {w1 w2 w3 : World} {y : Ex} {cs : List Value} (h : TwR n B l k v xs w1) (hk : k < l.length) (hy : y = l[k]) (hB : B ≤ w1.heap.size)
    (hb : Below w1.heap.size w1 w2) (hx : ExOn (fun g => w1.heap.size ≤ g ∧ g < w2.heap.size) n w2 cs y) (hg : w2.grownBy w3 v.ownBlock) (hv : v'.ownBlock = v.ownBlock ∨ v'.ownBlock = some w2.heap.size)
    (hown : w3.ownsRow B 25 5 v' (k + 1) (xs ++ cs)) : TwR n B l (k + 1) v' (xs ++ cs) w3 := by
  obtain ⟨css, h0, h1, h2, h3, h4⟩ := h
  have hvl : ∀ g, v.ownBlock = some g → g < w1.heap.size := fun g e => (h3.lt g e).2
  have hn : ∀ g, (v'.ownBlock = some g) → g < w2.heap.size → v.ownBlock = some g := fun g e hl => by
    rcases hv with hv | hv
    · rw [← hv]; exact e
    · rw [hv] at e; injection e with e; omega
  obtain ⟨a, len, cap, hcs⟩ := hx.shape
  refine ⟨css ++ [cs], by rw [List.flatten_append, List.flatten_singleton, h0], by simp [h1], fun c hc => ?_, hown, fun i hi hi2 => ?_⟩
  · rcases List.mem_append.1 hc with hc | hc
    · exact h2 c hc
    · rw [List.mem_singleton.1 hc, hcs]; rfl
  · by_cases hik : i < css.length
    · have e1 : (css ++ [cs])[i] = css[i] := List.getElem_append_left hik
      rw [e1]
      refine ((h4 i hik hi2).keep (w' := w3) fun g ⟨_, g2, g3⟩ => ?_).mono fun g ⟨g1, g2, g3⟩ => ⟨g1, Nat.lt_of_lt_of_le g2 (Nat.le_trans hb.size hg.size), fun e => g3 (hn g e (Nat.lt_of_lt_of_le g2 hb.size))⟩
      rw [hg.block g (Nat.lt_of_lt_of_le g2 hb.size) (fun e => g3 e.symm), hb.block g g2]
    · have hie : i = k := by simp at hi; omega
      subst hie
      have e1 : (css ++ [cs])[i]'hi = cs := by rw [List.getElem_append_right (by omega)]; simp
      rw [e1, ← hy]
      refine (hx.keep (w' := w3) fun g ⟨g1, g2⟩ => ?_).mono fun g ⟨g1, g2⟩ => ⟨by omega, Nat.lt_of_lt_of_le g2 hg.size, fun e => by have := hvl g (hn g e g2); omega⟩
      exact hg.block g g2 (fun e => by have := hvl g e.symm; omega)
theorem TwR.owns {n B : Nat} {l : List Ex} {k : Nat} {v : Value} {xs : List Value} {w1 : World} (h : TwR n B l k v xs w1) : w1.ownsRow B 25 5 v k xs := by
  obtain ⟨_, _, _, _, h3, _⟩ := h; exact h3
/-- The whole. -/
theorem TwR.done {n B : Nat} {x : Ex} {k : Nat} {v : Value} {xs : List Value} {wr : World} (h : TwR n B x.sub k v xs wr) (hk : x.sub.length = k) :
    ∃ a len cap, v = .slice a len cap ∧ ExOn (fun g => B ≤ g ∧ g < wr.heap.size) (n + 1) wr [.int .u8 x.kind, .string x.rat, .string x.name, .int .i64 x.date, .slice a len cap] x := by
  obtain ⟨css, h0, h1, h2, h3, h4⟩ := h
  rcases h3.2 with ⟨rfl, h0⟩ | ⟨g, cap, cur, rfl, hg, hc, hle, hm, hcs, ht⟩
  · exact ⟨none, 0, 0, rfl, none, 0, 0, rfl, by omega, .inl rfl⟩
  · have hgl : g < wr.heap.size := (Array.getElem?_eq_some_iff.1 hc).1
    refine ⟨_, _, _, rfl, some ⟨g, 0, none⟩, k, cap, rfl, hk, .inr ⟨g, rfl, ⟨by omega, hgl⟩, fun i hi => ⟨css[i], fun j hj => ?_, (h4 i (by omega) hi).mono fun g ⟨g1, g2, _⟩ => ⟨g1, g2⟩⟩⟩⟩
    have hfl : ∀ (L : List (List Value)), (∀ c ∈ L, c.length = 5) → ∀ i (hi : i < L.length) j, j < 5 → L.flatten[i * 5 + j]? = L[i][j]? := by
      intro L
      induction L with
      | nil => intro _ i hi; exact absurd hi (Nat.not_lt_zero _)
      | cons c L ih =>
        intro hL i hi j hj
        have hc5 : c.length = 5 := hL c (List.mem_cons_self ..)
        rw [List.flatten_cons]
        match i, hi with
        | 0, _ => rw [Nat.zero_mul, Nat.zero_add, List.getElem?_append_left (by omega)]; rfl
        | i + 1, hi =>
          rw [List.getElem?_append_right (by omega), show (i + 1) * 5 + j - c.length = i * 5 + j by omega, ih (fun c hc => hL c (List.mem_cons_of_mem _ hc)) i (by simpa using hi) j hj]
          rfl
    rw [← hfl css h2 i (by omega) j hj, h0, ← ht, List.getElem?_take_of_lt (by
      have : i * 5 + j < k * 5 := by omega
      exact this)]
    simp [World.cell?, hc]

end Go.Proofs.YtdgmpgejemgbbaaGreatDoor

namespace Go.Proofs.YtdgmpgejemgbbaaGreatDoor
open Go.RowKit

theorem tw_own {w1 u : World} {base : Nat} {v : Value} {k : Nat} {xs : List Value} (h : w1.ownsRow base 25 5 v k xs) (hb : Below w1.heap.size w1.drew u) (o : Obj) : (u.alloc o).ownsRow base 25 5 v k xs :=
  World.ownsRow.alloc (World.ownsRow.kept (w := w1) h ⟨hb.os, hb.tape, hb.output, hb.size, fun i hi _ => hb.block i hi⟩ (row := none) (by cases v.ownBlock <;> simp)) o
theorem tw_ne {w1 : World} {base : Nat} {v : Value} {k q : Nat} {xs : List Value} (h : w1.ownsRow base 25 5 v k xs) (hq : q < base) : some q ≠ v.ownBlock := fun e => by
  have := (h.lt q e.symm).1; omega
theorem one_five (k d : Int) (r n : ByteArray) (a : Option Addr) (l c : Nat) : ∀ u ∈ [Value.int .u8 k, .string r, .string n, .int .i64 d, .slice a l c], u.oneCell' = true := by
  intro u hu
  simp only [List.mem_cons, List.not_mem_nil, or_false] at hu
  rcases hu with rfl | rfl | rfl | rfl | rfl <;> rfl
/-- The three blocks of a call. -/
def TwB (x : Ex) (B : Nat) (a : Option Addr) (len cap : Nat) (v : Value) (w : World) : Prop :=
  w.heap[B]? = some (.cells #[.int .u8 x.kind, .string x.rat, .string x.name, .int .i64 x.date, .slice a len cap] 25) ∧ w.heap[B + 1]? = some (.cells #[.int .u8 0, .string ⟨#[]⟩, .string ⟨#[]⟩, .int .i64 0, .slice none 0 0] 25) ∧
    w.heap[B + 1 + 1]? = some (.cells #[.int .u8 x.kind, .string x.rat, .string x.name, .int .i64 x.date, v] 25) ∧ B + 3 ≤ w.heap.size

theorem tw_step {n B len cap k ga ca : Nat} {x y : Ex} {a pa : Option Addr} {pl pc : Nat} {v : Value} {xs : List Value} {w w1 u w3 : World}
    (h0 : w1.heap[B]? = some (.cells #[.int .u8 x.kind, .string x.rat, .string x.name, .int .i64 x.date, .slice a len cap] 25))
    (h1 : w1.heap[B + 1]? = some (.cells #[.int .u8 0, .string ⟨#[]⟩, .string ⟨#[]⟩, .int .i64 0, .slice none 0 0] 25))
    (h2 : w1.heap[B + 1 + 1]? = some (.cells #[.int .u8 x.kind, .string x.rat, .string x.name, .int .i64 x.date, v] 25)) (hz : B + 3 ≤ w1.heap.size)
    (hr : TwR n (B + 3) x.sub k v xs w1) (hb : Below B w w1) (hu : Below w1.drew.heap.size w1.drew u)
    (hx : ExOn (fun g => w1.drew.heap.size ≤ g ∧ g < u.heap.size) n u [.int .u8 y.kind, .string y.rat, .string y.name, .int .i64 y.date, .slice pa pl pc] y)
    (hg : (u.alloc (.cells #[.int .u8 y.kind, .string y.rat, .string y.name, .int .i64 y.date, .slice pa pl pc] 25)).grownBy w3 v.ownBlock)
    (hown : w3.ownsRow (B + 3) 25 5 (.slice (some ⟨ga, 0, none⟩) (k + 1) ca) (k + 1) (xs ++ [.int .u8 y.kind, .string y.rat, .string y.name, .int .i64 y.date, .slice pa pl pc]))
    (hat : v.ownBlock = some ga ∨ ga = (u.alloc (.cells #[.int .u8 y.kind, .string y.rat, .string y.name, .int .i64 y.date, .slice pa pl pc] 25)).heap.size) (hk : k < x.sub.length) (hy : y = x.sub[k]) :
    TwB x B a len cap (.slice (some ⟨ga, 0, none⟩) (k + 1) ca) (w3.setCell ⟨B + 1 + 1, 4, none⟩ (.slice (some ⟨ga, 0, none⟩) (k + 1) ca)) ∧
      TwR n (B + 3) x.sub (k + 1) (.slice (some ⟨ga, 0, none⟩) (k + 1) ca) (xs ++ [.int .u8 y.kind, .string y.rat, .string y.name, .int .i64 y.date, .slice pa pl pc]) (w3.setCell ⟨B + 1 + 1, 4, none⟩ (.slice (some ⟨ga, 0, none⟩) (k + 1) ca)) ∧
      Below B w (w3.setCell ⟨B + 1 + 1, 4, none⟩ (.slice (some ⟨ga, 0, none⟩) (k + 1) ca)) := by
  obtain ⟨u2, hu2⟩ : ∃ u2, u2 = u.alloc (.cells #[.int .u8 y.kind, .string y.rat, .string y.name, .int .i64 y.date, .slice pa pl pc] 25) := ⟨_, rfl⟩
  rw [← hu2] at hg hat
  have hbu : Below w1.heap.size w1 u := ⟨hu.os, hu.tape, hu.output, hu.size, hu.block⟩
  have hb2 : Below w1.heap.size w1 u2 := by rw [hu2]; exact hbu.alloc hbu.size _
  have hzu : u.heap.size ≤ u2.heap.size := by rw [hu2]; simp
  have hvb : ∀ g, v.ownBlock = some g → B + 3 ≤ g := fun g e => (hr.owns.lt g e).1
  have keep : ∀ q, q < B + 3 → w3.heap[q]? = w1.heap[q]? := fun q hq => by
    rw [hg.block q (Nat.lt_of_lt_of_le (by omega) hb2.size) (fun e => by have := hvb q e.symm; omega), hb2.block q (by omega)]
  have hx2 : ExOn (fun g => w1.heap.size ≤ g ∧ g < u2.heap.size) n u2 [.int .u8 y.kind, .string y.rat, .string y.name, .int .i64 y.date, .slice pa pl pc] y :=
    (hx.keep (w' := u2) fun g ⟨_, g2⟩ => by rw [hu2]; exact Below.heap_alloc u _ g g2).mono fun g ⟨g1, g2⟩ => ⟨g1, by omega⟩
  have hs := hr.snoc hk hy hz hb2 hx2 hg (v' := .slice (some ⟨ga, 0, none⟩) (k + 1) ca) (by
    rcases hat with h | h
    · exact .inl h.symm
    · right; rw [h]; rfl) hown
  refine ⟨⟨?_, ?_, ?_, ?_⟩, hs.set (p := ⟨B + 1 + 1, 4, none⟩) (by show B + 1 + 1 < B + 3; omega) _, ?_⟩
  · rw [Below.heap_setCell _ _ _ _ (by show B ≠ B + 1 + 1; omega), keep _ (by omega)]; exact h0
  · rw [Below.heap_setCell _ _ _ _ (by show B + 1 ≠ B + 1 + 1; omega), keep _ (by omega)]; exact h1
  · have := (keep (B + 1 + 1) (by omega)).trans h2
    simp [World.setCell, Array.getElem?_modify, this]
  · have := hg.size; have := hb2.size
    simp [World.setCell]; omega
  · refine (((hb.trans (hb2.mono (by omega))).grown hg (by have := hb2.size; omega) (fun q e => by have := hvb q e; omega))).setCell (p := ⟨B + 1 + 1, 4, none⟩) (by show B ≤ B + 1 + 1; omega) _

theorem tw_end {n B lv cv : Nat} {x : Ex} {av : Option Addr} {w w1 : World}
    (h1 : w1.heap[B + 1]? = some (.cells #[.int .u8 0, .string ⟨#[]⟩, .string ⟨#[]⟩, .int .i64 0, .slice none 0 0] 25)) (hb : Below B w w1)
    (hx : ExOn (fun g => B + 3 ≤ g ∧ g < w1.heap.size) (n + 1) w1 [.int .u8 x.kind, .string x.rat, .string x.name, .int .i64 x.date, .slice av lv cv] x) :
    ∃ W', W' = ((((w1.setCell ⟨B + 1, 0, none⟩ (.int .u8 x.kind)).setCell ⟨B + 1, 1, none⟩ (.string x.rat)).setCell ⟨B + 1, 2, none⟩ (.string x.name)).setCell ⟨B + 1, 3, none⟩ (.int .i64 x.date)).setCell ⟨B + 1, 4, none⟩ (.slice av lv cv) ∧
      W'.heap[B + 1]? = some (.cells #[.int .u8 x.kind, .string x.rat, .string x.name, .int .i64 x.date, .slice av lv cv] 25) ∧
      ExOn (fun g => B ≤ g ∧ g < W'.heap.size) (n + 1) W' [.int .u8 x.kind, .string x.rat, .string x.name, .int .i64 x.date, .slice av lv cv] x ∧ Below B w W' := by
  refine ⟨_, rfl, ?_, ?_, ?_⟩
  · simp [World.setCell, Array.getElem?_modify, h1]
  · refine (hx.keep fun g ⟨g1, _⟩ => ?_).mono fun g ⟨g1, g2⟩ => ⟨by omega, by simpa [World.setCell] using g2⟩
    rw [Below.heap_setCell _ _ _ _ (by show g ≠ B + 1; omega), Below.heap_setCell _ _ _ _ (by show g ≠ B + 1; omega), Below.heap_setCell _ _ _ _ (by show g ≠ B + 1; omega), Below.heap_setCell _ _ _ _ (by show g ≠ B + 1; omega), Below.heap_setCell _ _ _ _ (by show g ≠ B + 1; omega)]
  · exact ((((hb.setCell (p := ⟨B + 1, 0, none⟩) (by show B ≤ B + 1; omega) _).setCell (p := ⟨B + 1, 1, none⟩) (by show B ≤ B + 1; omega) _).setCell (p := ⟨B + 1, 2, none⟩) (by show B ≤ B + 1; omega) _).setCell (p := ⟨B + 1, 3, none⟩) (by show B ≤ B + 1; omega) _).setCell (p := ⟨B + 1, 4, none⟩) (by show B ≤ B + 1; omega) _

set_option maxHeartbeats 2000000 in
set_option maxRecDepth 100000 in
theorem twin_any : ∀ (n : Nat) (x : Ex) (cs : List Value) (w : World), ExAt n w cs x → x.size ≤ 1000 → Calls Tryz.prog 5 #[.agg cs.toArray] w (TwP n x w) := by
  intro n
  induction n with
  | zero => intro x cs w h; exact h.elim
  | succ n ih =>
    intro x cs w h hz
    obtain ⟨a, len, cap, rfl, hlen, hsub⟩ := h
    have hsl := x.sub_len
    have hlb : len ≤ 1000 := by omega
    obtain ⟨i0, hi, hz0, hz1, hz2⟩ := info_parts infoEx
    have HI := Lib.hid ih
    have HS := Lib.hid hsub
    have HLEN := Lib.hid hlen
    have HZ := Lib.hid hz
    have HI0 := Lib.hid hi
    have HI1 := Lib.hid hz0
    have HI2 := Lib.hid hz1
    have HI3 := Lib.hid hz2
    clear ih hsub hlen hz hsl hi hz0 hz1 hz2
    go_enter Tryz.func5, Tryz.ntmps5
    go_wp2_with fail
    obtain ⟨B, hBB⟩ : ∃ B, B = w.heap.size := ⟨_, rfl⟩
    obtain ⟨W0, hW0⟩ : ∃ W0, W0 = ((w.alloc (.cells #[.int .u8 x.kind, .string x.rat, .string x.name, .int .i64 x.date, .slice a len cap] 25)).alloc (.cells #[.int .u8 0, .string ⟨#[]⟩, .string ⟨#[]⟩, .int .i64 0, .slice none 0 0] 25)).alloc (.cells #[.int .u8 x.kind, .string x.rat, .string x.name, .int .i64 x.date, .slice none 0 0] 25) := ⟨_, rfl⟩
    have hT : TwB x B a len cap (.slice none 0 0) W0 := by
      rw [hW0, hBB]
      refine ⟨?_, ?_, ?_, ?_⟩
      · show (((w.heap.push _).push _).push _)[w.heap.size]? = _
        rw [Array.getElem?_push, if_neg (by simp; omega), Array.getElem?_push, if_neg (by simp), Array.getElem?_push, if_pos rfl]
      · show (((w.heap.push _).push _).push _)[w.heap.size + 1]? = _
        rw [Array.getElem?_push, if_neg (by simp), Array.getElem?_push, if_pos (by simp)]
      · show (((w.heap.push _).push _).push _)[w.heap.size + 1 + 1]? = _
        rw [Array.getElem?_push, if_pos (by simp)]
      · simp
    have hB0 : Below B w W0 := by rw [hW0, hBB]; exact ((own_below w _).alloc (by simp) _).alloc (by simp; omega) _
    rw [← hW0]
    rw [← hBB]
    have HT := Lib.hid hT
    have HB0 := Lib.hid hB0
    have HBB := Lib.hid hBB
    clear hT hB0 hW0 hBB
    go_loopw [4] (fun iv wr => ∃ (k : Nat) (v : Value) (xs : List Value), k ≤ len ∧ iv = .int .i64 (k : Int) ∧ TwB x B a len cap v wr ∧ TwR n (B + 3) x.sub k v xs wr ∧ Below B w wr) (fun iv _ => len - (intOf iv).toNat)
    case atStart => exact ⟨0, .slice none 0 0, [], Nat.zero_le _, rfl, HT.out, TwR.nil _ _ _ _, HB0.out⟩
    case round =>
      obtain ⟨w1, rfl⟩ : ∃ w1 : World, w1 = wr := ⟨_, rfl⟩
      obtain ⟨k, v, xs, hk, rfl, htb, htr, hb⟩ := hrel
      obtain ⟨d0, d1, d2, hz3⟩ := htb
      obtain ⟨a0, a1, a2, a3, a4⟩ := exCells d0
      obtain ⟨o0, o1, o2, o3, o4⟩ := exCells d2
      have HD0 := Lib.hid d0
      have HD1 := Lib.hid d1
      have HD2 := Lib.hid d2
      have HR := Lib.hid htr
      have HB := Lib.hid hb
      clear d0 d1 d2 htr hb
      by_cases hlt : k < len
      · have hlt2 : k < x.sub.length := by rw [HLEN.out]; exact hlt
        rcases HS.out with h0 | ⟨g, o, ha, hg, hel⟩
        · omega
        · subst ha
          have hBw : Below w.heap.size w w1 := by rw [← HBB.out]; exact HB.out
          obtain ⟨p1, l1, cc, ⟨e0, e1, e2, e3, e4⟩, hx1⟩ := ExAt.elem hg hBw hlt2 hel
          have hym : x.sub[k] ∈ x.sub := List.getElem_mem _
          have hys := Ex.sub_size hym
          obtain ⟨y, hy⟩ : ∃ y, y = x.sub[k] := ⟨_, rfl⟩
          rw [← hy] at e0 e1 e2 e3 hx1 hys
          have HC := Lib.hid (HI.out y _ w1.drew (ExAt.below (Below.refl _ w1).drew hx1) (by have := HZ.out; omega))
          have HY := Lib.hid hy
          have hk0 : (0 : Int) ≤ (k : Int) := by omega
          have hk1 : (k : Int) < (len : Int) := by omega
          have z3 : g < w1.heap.size := Nat.lt_of_lt_of_le hg hBw.size
          clear hx1 hy hym hys hel hBw o0 o1 o2 o3 a0 a1 a2 a3
          go_wp2_with fail
          go_region_law (first
            | (refine step_append_lies _ (by rfl) (.tmp 22) (.tmp 29) 23 (by rfl) (B + 3) 25 i0 zeroEx 5 72 Tryz.underlying23 HI0.out HI1.out HI2.out HI3.out rfl (by decide) v k xs (by rfl) HOW.out ⟨u.heap.size, 0, none⟩ 1 1 [.int .u8 y.kind, .string y.rat, .string y.name, .int .i64 y.date, .slice pa pl pc] (by rfl) rfl HNW.out HON.out (by decide) (by unfold maxLen; omega) (by omega) HBS.out _ rfl ?_; intro ga ca w3 hown hgr hat hltg; have HGR := Lib.hid hgr; have HOWN := Lib.hid hown; have HAT := Lib.hid hat; have hd2w := (hgr.block _ (show B + 1 + 1 < _ by rw [World.size_alloc]; omega) (tw_ne HR.out.owns (by omega))).trans ((Below.heap_alloc u _ _ zu).trans HD2u.out); have HD2w := Lib.hid hd2w; have o4w := (exCells hd2w).2.2.2.2; have f4w := Lib.frozen_of_heap hd2w 4; clear hown hgr hat hd2w)
            | (go_simp; go_at_call 5; refine HC.out.mono ?_; rintro e u ⟨pa, pl, pc, rfl, hx, hb⟩; have HX := Lib.hid hx; have HBU := Lib.hid hb; have hd2u := (hb.block _ (show B + 1 + 1 < w1.heap.size by omega)).trans HD2.out; have HD2u := Lib.hid hd2u; have o4u := (exCells hd2u).2.2.2.2; have zu : B + 1 + 1 < u.heap.size := Nat.lt_of_lt_of_le (show B + 1 + 1 < w1.heap.size by omega) hb.size; have HOW := Lib.hid (tw_own HR.out.owns hb (.cells #[.int .u8 y.kind, .string y.rat, .string y.name, .int .i64 y.date, .slice pa pl pc] 25)); have HNW := Lib.hid (World.news_of_block (heap_alloc_new u (.cells #[.int .u8 y.kind, .string y.rat, .string y.name, .int .i64 y.date, .slice pa pl pc] 25))); have HON := Lib.hid (one_five y.kind y.date y.rat y.name pa pl pc); have HBS := Lib.hid (show B + 3 ≤ (u.alloc (.cells #[.int .u8 y.kind, .string y.rat, .string y.name, .int .i64 y.date, .slice pa pl pc] 25)).heap.size by rw [World.size_alloc]; have := hb.size; have e : w1.drew.heap.size = w1.heap.size := rfl; omega); clear hx hb hd2u))
          all_goals
            have HNEW := Lib.hid (tw_step HD0.out HD1.out HD2.out hz3 HR.out HB.out HBU.out HX.out HGR.out HOWN.out HAT.out hlt2 HY.out)
            clear HX HGR HOWN HAT HOW HNW HON HBS HBU HD2u HD2w
            go_wp2_with fail
            go_roundw
            case rel => exact ⟨k + 1, _, _, by omega, by go_num, HNEW.out.1, HNEW.out.2.1, HNEW.out.2.2⟩
            case measure => simp [intOf] <;> omega
      · have hke : x.sub.length = k := by rw [HLEN.out]; omega
        obtain ⟨av, lv, cv, rfl, hon⟩ := TwR.done HR.out hke
        obtain ⟨q0, q1, q2, q3, q4⟩ := exCells HD1.out
        have z1 : B + 1 < w1.heap.size := by omega
        have fr : ∀ i, w1.frozen? ⟨B + 1, i, none⟩ = false := Lib.frozen_of_heap HD1.out
        have HON := Lib.hid hon
        clear hon
        have HFN := Lib.hid (tw_end HD1.out HB.out HON.out)
        clear HON
        go_wp2_with fail
        obtain ⟨W', hW', hc, hx, hbw⟩ := HFN.out
        rw [← hW']
        obtain ⟨c0, c1, c2, c3, c4⟩ := exCells hc
        rw [HBB.out] at hx hbw c0 c1 c2 c3 c4
        rw [HBB.out]
        exact bodyPost_ret (v := .agg #[.int .u8 x.kind, .string x.rat, .string x.name, .int .i64 x.date, .slice av lv cv]) (by simp [results, Tryz.results5, go_sem, c0, c1, c2, c3, c4]) rfl ⟨av, lv, cv, rfl, hx, hbw⟩

end Go.Proofs.YtdgmpgejemgbbaaGreatDoor
