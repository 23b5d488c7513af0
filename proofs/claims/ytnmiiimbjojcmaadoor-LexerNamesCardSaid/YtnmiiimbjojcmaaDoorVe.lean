/-
  The reference's digits: at, Greater, Zero, Minus. No condition. The reference's digits: Minus, Plus. No condition. The reference's division. No condition.
-/
import Derived.Test.YtnmiiimbjojcmaaDoorVd
import Derived.Laws.OwnMore
import Derived.Test.YtnmiiimbjojcmaaDoorVa
import Derived.Deep.OwnRows
import Derived.Deep.LoopGhost
import Derived.Deep.DeepCutAuto
namespace Go.Proofs.YtnmiiimbjojcmaaDoor
open Go.RowKit

/-- A slice of numbers of kind k, as it lies in memory. -/
def Nums (k : IntKind) (w : World) (a : Option Addr) (l : List Nat) : Prop :=
  ∀ i, i < l.length → ∃ g o, a = some ⟨g, o, none⟩ ∧ g < w.heap.size ∧ w.cell? ⟨g, o + i, none⟩ = some (.int k ((l.getD i 0 : Nat) : Int))
theorem Nums.below {k : IntKind} {w w' : World} {a : Option Addr} {l : List Nat} (h : Nums k w a l) (hb : Below w.heap.size w w') : Nums k w' a l := fun i hi => by
  obtain ⟨g, o, e, hg, hc⟩ := h i hi
  exact ⟨g, o, e, Nat.lt_of_lt_of_le hg hb.size, (hb.cell (p := ⟨g, o + i, none⟩) hg).trans hc⟩
theorem Nums.drewN {k : IntKind} {w : World} {a : Option Addr} {l : List Nat} (h : Nums k w a l) (n : Nat) : Nums k (w.drewN n) a l := h
theorem Nums.nil (k : IntKind) (w : World) (a : Option Addr) : Nums k w a [] := fun _ hi => absurd hi (Nat.not_lt_zero _)
theorem Nums.take {k : IntKind} {w : World} {a : Option Addr} {l : List Nat} (h : Nums k w a l) (n : Nat) : Nums k w a (l.take n) := fun i hi => by
  rw [List.length_take] at hi
  obtain ⟨g, o, e, hg, hc⟩ := h i (by omega)
  refine ⟨g, o, e, hg, hc.trans ?_⟩
  rw [List.getD_eq_getElem?_getD, List.getD_eq_getElem?_getD, List.getElem?_take_of_lt (by omega)]

theorem getD_out {l : List Nat} {i : Nat} (h : l.length ≤ i) : l.getD i 0 = 0 := by
  rw [List.getD_eq_getElem?_getD, List.getElem?_eq_none h]; rfl

/-- From the top down: what is above place i agrees. -/
def GrR (la lb : List Nat) (M : Nat) (i : Value) : Prop := ∃ k : Int, -1 ≤ k ∧ k < M ∧ i = .int .i64 k ∧ ∀ j : Nat, k < j → la.getD j 0 = lb.getD j 0
theorem grR_start (la lb : List Nat) (M : Nat) (h1 : la.length ≤ M) (h2 : lb.length ≤ M) : GrR la lb M (.int .i64 ((M : Int) - 1)) :=
  ⟨(M : Int) - 1, by omega, by omega, rfl, fun j hj => by rw [getD_out (by omega), getD_out (by omega)]⟩

end Go.Proofs.YtnmiiimbjojcmaaDoor

namespace Go.Proofs.YtnmiiimbjojcmaaDoor
open Go.RowKit

theorem infoInt : (Tryd.prog.info? 3).map (fun i => (i.zero, i.size, i.bytes)) = some (some (.int .i64 0), 1, 8) := by kernel_rfl
/-- Numbers as cells. -/
def nums (k : IntKind) (l : List Nat) : List Value := l.map fun x : Nat => Value.int k (x : Int)
theorem nums_length (k : IntKind) (l : List Nat) : (nums k l).length = l.length := by simp [nums]
theorem nums_snoc (k : IntKind) (l : List Nat) (x : Nat) : nums k l ++ [.int k (x : Int)] = nums k (l ++ [x]) := by simp [nums]
theorem nums_get (k : IntKind) (l : List Nat) (i : Nat) (h : i < l.length) : (nums k l)[i]? = some (.int k ((l.getD i 0 : Nat) : Int)) := by
  simp [nums, List.getElem?_eq_getElem h]
/-- A slice of the call's own that holds numbers. -/
theorem nums_of_owns {k : IntKind} {w : World} {B e : Nat} {v : Value} {n : Nat} {l : List Nat} (h : w.ownsRow B e 1 v n (nums k l)) :
    ∃ a c, v = .slice a n c ∧ l.length = n ∧ n ≤ c ∧ Nums k w a l := by
  have hn : l.length = n := by have := h.1; rw [nums_length] at this; omega
  rcases rowAt_of_owns h with ⟨rfl, rfl, _⟩ | ⟨g, c, rfl, _, hc, _, _, hr⟩
  · exact ⟨none, 0, rfl, hn, Nat.le_refl _, fun i hi => by omega⟩
  · refine ⟨_, c, rfl, hn, hc, fun i hi => ⟨g, 0, rfl, hr.lt, ?_⟩⟩
    rw [Nat.zero_add, hr.cell (by rw [nums_length]; exact hi), nums_get k l i hi]
/-- A new slice of numbers is handed back. -/
def NewNums (k : IntKind) (T : TypeId) (w : World) (P : List Nat → Prop) (e : Ending) (w' : World) : Prop :=
  ∃ v l, e = .returned v ∧ w'.ownsRow w.heap.size T 1 v l.length (nums k l) ∧ P l ∧ Below w.heap.size w w'

/-- The loop of the reference's subtraction. -/
def MinR (w : World) (la lb : List Nat) (n : Nat) (o b i : Value) (wr : World) : Prop :=
  ∃ (k br : Nat) (out : List Nat), k ≤ n ∧ i = .int .i64 k ∧ b = .int .i64 br ∧ wr.ownsRow w.heap.size 3 1 o k (nums .i64 out) ∧ DMinusAt la lb out k br ∧ Below w.heap.size w wr

end Go.Proofs.YtnmiiimbjojcmaaDoor

namespace Go.Proofs.YtnmiiimbjojcmaaDoor
open Go.RowKit

/-- The rest, as it lies in memory: beyond block gq. -/
def Rest (w : World) (gq : Nat) (v : Value) (r : List Nat) : Prop :=
  (v = .slice none 0 0 ∧ r = []) ∨
  ∃ g o c, v = .slice (some ⟨g, o, none⟩) r.length c ∧ 1 ≤ r.length ∧ r.length ≤ c ∧ gq < g ∧ g < w.heap.size ∧ ∀ i, i < r.length → w.cell? ⟨g, o + i, none⟩ = some (.int .i64 ((r.getD i 0 : Nat) : Int))
theorem Rest.read {w : World} {gq : Nat} {v : Value} {r : List Nat} (h : Rest w gq v r) : ∃ a c, v = .slice a r.length c ∧ r.length ≤ c ∧ Nums .i64 w a r := by
  rcases h with ⟨rfl, rfl⟩ | ⟨g, o, c, rfl, _, hc, _, hg, hcell⟩
  · exact ⟨none, 0, rfl, Nat.le_refl _, Nums.nil _ _ _⟩
  · exact ⟨_, c, rfl, hc, fun i hi => ⟨g, o, rfl, hg, hcell i hi⟩⟩
theorem Rest.of_owns {w : World} {gq B e : Nat} {v : Value} {n : Nat} {r : List Nat} (h : w.ownsRow B e 1 v n (nums .i64 r)) (hB : gq < B) (hn : 1 ≤ n) : Rest w gq v r := by
  have hl : r.length = n := by have := h.1; rw [nums_length] at this; omega
  rcases rowAt_of_owns h with ⟨rfl, h0, _⟩ | ⟨g, c, rfl, hb, hc, _, _, hr⟩
  · omega
  · refine .inr ⟨g, 0, c, by rw [hl], by omega, by omega, by omega, hr.lt, fun i hi => ?_⟩
    rw [Nat.zero_add, hr.cell (by rw [nums_length]; exact hi), nums_get _ r i hi]
theorem Rest.kept {w w' : World} {gq : Nat} {v : Value} {r : List Nat} (h : Rest w gq v r) (hg : w.grownBy w' (some gq)) : Rest w' gq v r := by
  rcases h with h | ⟨g, o, c, e, h1, hc, hq, hlt, hcell⟩
  · exact .inl h
  · refine .inr ⟨g, o, c, e, h1, hc, hq, Nat.lt_of_lt_of_le hlt hg.size, fun i hi => ?_⟩
    refine hg.cell (a := ⟨g, o + i, none⟩) (hcell i hi) ?_
    intro e
    injection e with e
    simp at e; omega

theorem nums_one (k : IntKind) (l : List Nat) : ∀ u ∈ nums k l, u.oneCell' = true := by
  intro u hu
  unfold nums at hu
  obtain ⟨x, _, rfl⟩ := List.mem_map.1 hu
  rfl
theorem add_plain (g o n : Nat) : (⟨g, o, none⟩ : Addr).add n = ⟨g, o + n, none⟩ := by
  unfold Addr.add
  split
  · rename_i h; subst h; rfl
  · rfl

theorem nums_set (k : IntKind) (l : List Nat) (i x : Nat) : (nums k l).set i (.int k (x : Int)) = nums k (l.set i x) := by simp [nums, List.map_set]

/-- The quotient and the rest are handed back. -/
def DivPost (w : World) (V n : Nat) (A : Nat) (e : Ending) (w' : World) : Prop :=
  ∃ a1 c1 q a2 c2 r, e = .returned (.tuple #[.slice a1 n c1, .slice a2 r.length c2]) ∧ n ≤ c1 ∧ r.length ≤ c2 ∧ q.length = n ∧ Nums .i64 w' a1 q ∧ Nums .i64 w' a2 r ∧
    (∀ x ∈ q, x < 10) ∧ (∀ x ∈ r, x < 10) ∧ dval q = A / V ∧ dval r = A % V ∧ r.length ≤ (decN V).length + 1 ∧ Below w.heap.size w w'

def TrimR (lb : List Nat) (m : Nat) (v : Value) : Prop := ∃ j : Nat, j + 1 ≤ m ∧ v = .int .i64 ((j : Int) + 1) ∧ dval (lb.take (j + 1)) = dval lb

/-- The outer loop: the places from i on are done. -/
def DivR (w : World) (gq k n : Nat) (la lb : List Nat) (rv iv : Value) (wr : World) : Prop :=
  ∃ (i : Nat) (q r : List Nat), i ≤ n ∧ iv = .int .i64 ((i : Int) - 1) ∧ Rest wr gq rv r ∧ RowAt wr gq 3 (nums .i64 q) ∧ DDivAt la lb q r i ∧ r.length ≤ k + 2 ∧ Below w.heap.size w wr
/-- The inner loop. -/
def DivI (w : World) (gq k : Nat) (la lb : List Nat) (i : Nat) (gk : Nat) (rv : Value) (wr : World) : Prop :=
  ∃ (c : Nat) (q r : List Nat), gk = dval r ∧ Rest wr gq rv r ∧ RowAt wr gq 3 (nums .i64 q) ∧ DDivIn la lb q r i c ∧ 1 ≤ r.length ∧ r.length ≤ k + 2 ∧ Below w.heap.size w wr

theorem nums_zeros (n : Nat) (w : World) (t : TypeId) : RowAt (w.alloc (.cells (madeCells #[.int .i64 0] n) t)) w.heap.size t (nums .i64 (List.replicate n 0)) := by
  refine rowAt_alloc rfl ?_
  apply List.ext_getElem
  · simp [nums, size_madeCells]
  · intro i h1 h2
    simp [nums, madeCells, Nat.mod_one]

/-- Behind the append of a digit. -/
def CutA (w : World) (x : Nat) (q r : List Nat) (v : Value) (wx : World) : Prop :=
  Rest wx w.heap.size v (x :: r) ∧ RowAt wx w.heap.size 3 (nums .i64 q) ∧ Below w.heap.size w wx
/-- Behind the cut of the rest. -/
def CutB (w : World) (la lb q : List Nat) (i j : Nat) (v : Value) (wx : World) : Prop :=
  ∃ r, Rest wx w.heap.size v r ∧ RowAt wx w.heap.size 3 (nums .i64 q) ∧ Below w.heap.size w wx ∧ DDivIn la lb q r i 0 ∧ 1 ≤ r.length ∧ r.length ≤ j + 2

end Go.Proofs.YtnmiiimbjojcmaaDoor
