/-
  The program's pair of rationals: keep, made. No condition. The program's pair of rationals: both. No condition. The program's Mul of rationals. No condition. The program's Round of rationals, walked. Condition: what the table away holds, as a hypothesis. The program's Round of rationals, by value. Condition: what the table away holds. A map of the call's own: its stores and its keys. No condition.
-/
import Derived.Test.YtnmiiimbjojcmaaGreatDoorVs
import Derived.Deep.RegionHeld3
import Derived.Test.YtnmiiimbjojcmaaGreatDoorRows
import Derived.Test.YtnmiiimbjojcmaaGreatDoorVa
import Derived.Maps.Own
import Derived.Maps.OwnSet
import Derived.StringKeys
namespace Go.Proofs.YtnmiiimbjojcmaaGreatDoor
open Go.RowKit Go.Shelf

def FunB (W : World) (b F : Nat) : Prop := W.heap[b]? = some (.cells #[.func (.func F) #[] #[]] 99 (0, 0))
theorem heap_cell {W : World} {g : Nat} {c : Array Value} {t : TypeId} (h : W.heap[g]? = some (.cells c t (0, 0))) (i : Nat) (v : Value) (hv : c[i]? = some v) : W.cell? ⟨g, i, none⟩ = some v := by
  simp [World.cell?, h, hv]
theorem heap_frozen {W : World} {g : Nat} {c : Array Value} {t : TypeId} (h : W.heap[g]? = some (.cells c t (0, 0))) (i : Nat) : W.frozen? ⟨g, i, none⟩ = false := by
  simp [World.frozen?, h]
theorem heap_lt {W : World} {g : Nat} {o : Obj} (h : W.heap[g]? = some o) : g < W.heap.size := (Array.getElem?_eq_some_iff.1 h).1
theorem heap_below {W W' : World} {g : Nat} {o : Obj} (h : W.heap[g]? = some o) (hb : Below W.heap.size W W') : W'.heap[g]? = some o := (hb.block _ (heap_lt h)).trans h
theorem heap_grown {W W' : World} {g : Nat} {o : Obj} {row : Option Nat} (h : W.heap[g]? = some o) (hb : W.grownBy W' row) (hne : some g ≠ row) : W'.heap[g]? = some o := (hb.block g (heap_lt h) hne).trans h
theorem heap_set {W : World} {g : Nat} {c : Array Value} {t : TypeId} (h : W.heap[g]? = some (.cells c t (0, 0))) (i : Nat) (v : Value) (_hi : i < c.size) : (W.setCell ⟨g, i, none⟩ v).heap[g]? = some (.cells (c.set! i v) t (0, 0)) := by
  show (W.heap.modify g _)[g]? = _
  rw [Array.getElem?_modify, if_pos rfl, h]
  rfl
end Go.Proofs.YtnmiiimbjojcmaaGreatDoor

namespace Go.Proofs.YtnmiiimbjojcmaaGreatDoor
open Go.RowKit Go.Shelf

end Go.Proofs.YtnmiiimbjojcmaaGreatDoor

namespace Go.Proofs.YtnmiiimbjojcmaaGreatDoor
open Go.RowKit Go.Shelf

end Go.Proofs.YtnmiiimbjojcmaaGreatDoor

namespace Go.Proofs.YtnmiiimbjojcmaaGreatDoor
open Go.RowKit Go.Shelf

theorem ret_se {a b : ByteArray} {c d : Int} (h1 : a = b) (h2 : c = d) : Ending.returned (.tuple #[.string a, .int .i64 c]) = .returned (.tuple #[.string b, .int .i64 d]) := by rw [h1, h2]
def rndUp (mode : Nat) (odd : Bool) (half : Int) : Bool :=
  match mode with
  | 0 => false
  | 1 => true
  | 2 => decide (0 ≤ half)
  | 3 => decide (0 < half) || (decide (half = 0) && odd)
  | _ => false
def RetBD (W : World) (b : Bool) (e : Ending) (w' : World) : Prop := e = .returned (.bool b) ∧ Below W.heap.size W w'
def CmE (W : World) (n : Int) (e : Ending) (w' : World) : Prop := e = .returned (.tuple #[.int .i64 n, .int .i64 0]) ∧ Below W.heap.size W w'
end Go.Proofs.YtnmiiimbjojcmaaGreatDoor

namespace Go.Proofs.YtnmiiimbjojcmaaGreatDoor
open Go.RowKit Go.Shelf

def rndB (mode Q : Nat) (R D : Nat) : Bool := decide (R ≠ 0) && rndUp mode (decide (Q % 2 = 1)) (cmpZ R ((D : Int) + -(R : Int)))
/-- A quotient, rounded away from zero or not. -/
def rndQ (mode : Nat) (n d : Nat) : Nat := if rndB mode (n / d) (n % d) d = true then n / d + 1 else n / d
/-- Round, by value. -/
def roundZ (mode : Nat) (n d : Int) : Int := if mode = 4 then n / d else if n < 0 then -(rndQ mode n.natAbs d.natAbs : Int) else rndQ mode n.natAbs d.natAbs
theorem txtN_last (Q : Nat) : ∃ A, txtN Q = A ++ [dgB (Q % 10)] := by
  by_cases h : Q < 10
  · exact ⟨[], by unfold txtN; rw [decN_small h, show Q % 10 = Q by omega]; rfl⟩
  · exact ⟨txtN (Q / 10), by unfold txtN; rw [decN_big (by omega)]; simp⟩
theorem last_at {b : ByteArray} {A : List UInt8} {c : UInt8} (h : b.data.toList = A ++ [c]) (h0 : 0 < b.size) : b[b.size - 1]'(by omega) = c := by
  have hl : A.length + 1 = b.size := by rw [← data_len, h]; simp
  have h1 := Lib.data_getElem? b (b.size - 1) (by omega)
  have h2 : (A ++ [c])[b.size - 1]? = some c := by rw [show b.size - 1 = A.length by omega]; simp
  rw [h, h2] at h1
  exact (Option.some.inj h1).symm
theorem bs_len (z : Int) (h : bigZ z = false) : (⟨(txtZ z).toArray⟩ : ByteArray).size ≤ 1001 := by
  rw [← data_len]
  have := bigZ_false h
  show (txtZ z).length ≤ _
  unfold txtZ
  split <;> simp [txtN_len] <;> omega
theorem bs_pos (z : Int) : 0 < (⟨(txtZ z).toArray⟩ : ByteArray).size := by
  rw [← data_len]
  show 0 < (txtZ z).length
  unfold txtZ
  split
  · simp
  · exact List.length_pos_iff.2 (txtN_ne _)
theorem bs_zero (z : Int) : ((⟨(txtZ z).toArray⟩ : ByteArray).toList == [48]) = decide (z = 0) := by
  rw [toList_data, Bool.eq_iff_iff, beq_iff_eq, decide_eq_true_eq]
  constructor
  · intro h
    have : txtZ z = txtZ 0 := h
    exact txtZ_inj this
  · intro h; rw [h]; rfl
theorem bs_minus (z : Int) : ((((⟨(txtZ z).toArray⟩ : ByteArray)[0]'(bs_pos z)).toNat : Int) == 45) = decide (z < 0) := by
  have hh := txtZ_head z
  have hd := data_head (⟨(txtZ z).toArray⟩ : ByteArray) (bs_pos z)
  have hd2 : (txtZ z).head? = some ((⟨(txtZ z).toArray⟩ : ByteArray)[0]'(bs_pos z)) := hd
  rw [hd2] at hh
  rw [Bool.eq_iff_iff, beq_iff_eq, decide_eq_true_eq, ← hh]
  constructor
  · intro h; rw [u8_eq (n := 45) h (by omega)]; rfl
  · intro h; injection h with h; rw [h]; rfl
theorem WritePost.ste {W : World} {z : Int} {e : Ending} {w' : World} (h : WritePost W z e w') : StE W (if bigZ z = true then ⟨#[]⟩ else ⟨(txtZ z).toArray⟩) (if bigZ z = true then 14 else 0) e w' := by
  rcases h with ⟨⟨h1, h2⟩ | ⟨h1, h2⟩, h3⟩
  · rw [if_pos h1, if_pos h1]; exact ⟨h2, h3⟩
  · rw [if_neg (by rw [h1]; decide), if_neg (by rw [h1]; decide)]; exact ⟨h2, h3⟩
theorem WritePost.of_ste {W : World} {z : Int} {r : ByteArray} {f : Int} {e : Ending} {w' : World} (h : StE W r f e w') (hr : r = if bigZ z = true then ⟨#[]⟩ else ⟨(txtZ z).toArray⟩) (hf : f = if bigZ z = true then 14 else 0) : WritePost W z e w' := by
  by_cases hb : bigZ z = true
  · rw [if_pos hb] at hr hf; subst hr hf; exact ⟨.inl ⟨hb, h.1⟩, h.2⟩
  · rw [if_neg hb] at hr hf; subst hr hf; exact ⟨.inr ⟨by simpa using hb, h.1⟩, h.2⟩
theorem bigZ_neg (z : Int) : bigZ (-z) = bigZ z := by unfold bigZ; rw [Int.natAbs_neg]


end Go.Proofs.YtnmiiimbjojcmaaGreatDoor

namespace Go.Proofs.YtnmiiimbjojcmaaGreatDoor
open Go.RowKit Go.Maps Go.WideElems Go.WideShapes Go.ChangeShapes Go.WideMaps

/-- 'm[k] = v' of a composite literal, at the operation. -/
theorem wpList_insert_own {H : Type} {P : Program} (w : World) {ops : Array Oper} {rest : List Oper} {o : Oper} {a : Act} {Q : Exit → Act → World → Prop}
    (hg : o.guard = none) (m x v : Operand) (t : TypeId) (hop : o.op = Op.insert t m x v)
    (k e : TypeId) (K : Keyed P k) (ht : P.underlying t = some (.map k e)) (R : Value → Option (DataW H × List MemPlace)) (b n : Nat) (D : DataW H)
    (hm : a.eval m = .map (some b)) (hown : w.ownsMap P k R b n D) (hn : n < maxLen) (key val : Value) (kl : Lit) (hx : a.eval x = key) (hv : a.eval v = val) (hkey : keyOf P k key = some kl)
    (d : DataW H) (ps : List MemPlace) (hval : R val = some (d, ps))
    (hK : ∀ w', w'.ownsMap P k R b (n + 1) (D.put kl d) → w.grownBy w' (some b) → wpList P ops Q rest (a.put o.dst undef) w') :
    wpList P ops Q (o :: rest) a w := by
  refine wpList_plain hg fun K' hK' => ?_
  obtain ⟨w', hrun, r1, r2⟩ := hown.update K ht hn hkey hval
  unfold Oper.wp
  simp [execOp, hop, hm, hx, hv, hrun, Result.andThen]
  exact hK' _ _ (hK w' r1 r2)

/-- How an element reads: as itself. -/
def selfR (v : Value) : Option (DataW Value × List MemPlace) := some (.held v, [])
theorem keyedS : Keyed Tryz.prog 9 := string_keyed Tryz.underlying9
theorem keyS (s : ByteArray) (h : s.size ≤ maxLen) : keyOf Tryz.prog 9 (.string s) = some (.string s.data.toList) := keyOf_string_mk Tryz.underlying9 h


end Go.Proofs.YtnmiiimbjojcmaaGreatDoor
