/-
  The reference's Digits. No condition. The reference's Text. No condition. The reference's Check, Both, Gcd. No condition.
-/
import Derived.Test.YtnmiiimbjojcmaaDoorVe
import Derived.Laws.IdiomStrings
namespace Go.Proofs.YtnmiiimbjojcmaaDoor
open Go.RowKit

theorem rdZ_pos {l : List UInt8} (h : l.head? ≠ some 45) (hc : CanN l) : rdZ l = some (dval (undig l) : Int) := by
  unfold rdZ; rw [if_neg h]
  unfold rdN; rw [if_pos ((rdN_test l).2 hc)]; rfl
theorem rdZ_neg {l : List UInt8} (h : l.head? = some 45) (hc : CanN l.tail) (h0 : l.tail.head? ≠ some 48) : ∃ z : Int, rdZ l = some z ∧ z < 0 ∧ z.natAbs = dval (undig l.tail) := by
  have e := txtN_undig _ hc
  unfold rdZ; rw [if_pos h]
  unfold rdN; rw [if_pos ((rdN_test l.tail).2 hc)]
  cases hd : dval (undig l.tail) with
  | zero =>
    rw [hd] at e
    exfalso; apply h0; rw [← e]; rfl
  | succ n => exact ⟨_, rfl, by omega, by omega⟩
theorem rdZ_no {l : List UInt8} (h : l.head? ≠ some 45) (hc : ¬ CanN l) : rdZ l = none := by
  unfold rdZ; rw [if_neg h, rdN_none hc]; rfl
theorem rdZ_nog {l : List UInt8} (h : l.head? = some 45) (hc : ¬ CanN l.tail) : rdZ l = none := by
  unfold rdZ; rw [if_pos h, rdN_none hc]
theorem rdZ_no0 {l : List UInt8} (h : l.head? = some 45) (h0 : l.tail.head? = some 48) : rdZ l = none := by
  unfold rdZ; rw [if_pos h]
  cases e : rdN l.tail with
  | none => rfl
  | some n =>
    cases n with
    | zero => rfl
    | succ n =>
      exfalso
      have e := rdN_some e
      have hh := canN_txtN (n + 1)
      rw [← e] at hh
      have h1 := hh.2.2 h0
      have h2 : l.tail = [48] := by
        match hl : l.tail, h1 with
        | [c], _ => rw [hl] at h0; simp at h0; rw [h0]
      have : txtN (n + 1) = txtN 0 := by rw [← e, h2]; rfl
      have := txtN_inj this
      omega
theorem undig_drop (l : List UInt8) (k : Nat) (c : UInt8) (h : l[k]? = some c) : undig (l.drop (k + 1)) ++ [c.toNat - 48] = undig (l.drop k) := by
  have hk : k < l.length := (List.getElem?_eq_some_iff.1 h).1
  rw [List.drop_eq_getElem_cons hk]
  have : l[k] = c := by rw [List.getElem?_eq_getElem hk] at h; injection h
  unfold undig
  rw [this]
  simp
theorem decN_undig {l : List UInt8} (h : CanN l) : decN (dval (undig l)) = undig l := by
  have := congrArg undig (txtN_undig l h)
  rwa [undig_txtN] at this

/-- What Digits hands back. -/
def DigPost (w : World) (l : List UInt8) (e : Ending) (w' : World) : Prop :=
  (∃ z a n c, rdZ l = some z ∧ e = .returned (.tuple #[.slice a n c, .bool (decide (z < 0)), .bool true]) ∧ (decN z.natAbs).length = n ∧ n ≤ c ∧ Nums .i64 w' a (decN z.natAbs) ∧ Below w.heap.size w w') ∨
  (rdZ l = none ∧ e = .returned (.tuple #[.slice none 0 0, .bool false, .bool false]) ∧ Below w.heap.size w w')
/-- The loop: the bytes behind place i have been taken. -/
def DgR (w : World) (t : ByteArray) (n : Nat) (o iv : Value) (wr : World) : Prop :=
  ∃ i : Nat, i ≤ n ∧ iv = .int .i64 ((i : Int) - 1) ∧ wr.ownsRow w.heap.size 3 1 o (n - i) (nums .i64 (undig (t.data.toList.drop i))) ∧ (∀ c ∈ t.data.toList.drop i, 48 ≤ c.toNat ∧ c.toNat ≤ 57) ∧ Below w.heap.size w wr
theorem dgR_start (w : World) (t : ByteArray) (n : Nat) (h : t.size = n) : DgR w t n (.slice none 0 0) (.int .i64 ((n : Int) - 1)) w := by
  refine ⟨n, Nat.le_refl _, rfl, ?_, ?_, Below.refl _ _⟩
  · rw [List.drop_eq_nil_of_le (by rw [data_len]; omega), Nat.sub_self]
    exact World.ownsRow_nil _ _ _ _
  · rw [List.drop_eq_nil_of_le (by rw [data_len]; omega)]; simp
theorem data_drop (s : ByteArray) (k : Nat) (h : k < s.size) : s.data.toList.drop k = s[k] :: s.data.toList.drop (k + 1) := by
  rw [List.drop_eq_getElem_cons (by rw [data_len]; exact h)]
  congr 1

end Go.Proofs.YtnmiiimbjojcmaaDoor

namespace Go.Proofs.YtnmiiimbjojcmaaDoor
open Go.RowKit

theorem txtZ_neg {n : Nat} (h : 0 < n) : txtZ (-(n : Int)) = 45 :: txtN n := by
  unfold txtZ; rw [if_pos (by omega), Int.natAbs_neg, Int.natAbs_natCast]
theorem txtZ_pos (n : Nat) : txtZ (n : Int) = txtN n := by
  unfold txtZ; rw [if_neg (by omega), Int.natAbs_natCast]
theorem top_dig (l : List Nat) (k : Nat) (hk : k + 1 ≤ l.length) (d : ∀ x ∈ l, x < 10) (h : dval (l.take (k + 1)) = dval l) (h0 : l.getD k 0 ≠ 0) : decN (dval l) = l.take (k + 1) ∧ 0 < dval l := by
  have hD : Dig (l.take (k + 1)) := by
    refine ⟨fun x hx => d x (List.mem_of_mem_take hx), ?_⟩
    rw [List.take_add_one, List.getElem?_eq_getElem (by omega)]
    simp only [Option.toList_some, List.getLast?_concat]
    rw [List.getD_eq_getElem?_getD, List.getElem?_eq_getElem (by omega)] at h0
    simpa using h0
  have e := decL_dval _ hD
  rw [h] at e
  have hne : dval l ≠ 0 := by
    intro hz
    rw [hz, decL_zero] at e
    have := congrArg List.length e
    rw [List.length_take] at this
    simp at this; omega
  exact ⟨by unfold decN; rw [if_neg hne, e], by omega⟩
/-- The bytes that Text lays: the sign, and the digits from the top down to place i. -/
def txtP (neg : Bool) (l : List Nat) (i : Nat) : List UInt8 := (if neg then [45] else []) ++ (l.drop i).reverse.map dgB
theorem txtP_start (neg : Bool) (l : List Nat) : txtP neg l l.length = if neg then [45] else [] := by simp [txtP]
theorem txtP_step (neg : Bool) (l : List Nat) (i : Nat) (h : i < l.length) : txtP neg l (i + 1) ++ [dgB (l.getD i 0)] = txtP neg l i := by
  unfold txtP
  have : l.drop i = l.getD i 0 :: l.drop (i + 1) := by
    rw [List.drop_eq_getElem_cons h, List.getD_eq_getElem?_getD, List.getElem?_eq_getElem h]; rfl
  rw [this]; simp
theorem txtP_end (neg : Bool) (V : Nat) (h : 0 < V) : txtP neg (decN V) 0 = txtZ (if neg then -(V : Int) else (V : Int)) := by
  unfold txtP
  cases neg
  · simp [txtZ_pos, txtN]
  · simp [txtZ_neg h, txtN]
theorem txtP_len (neg : Bool) (l : List Nat) (i : Nat) (h : i ≤ l.length) : (txtP neg l i).length ≤ l.length + 1 - i := by
  unfold txtP; cases neg <;> simp <;> omega

theorem infoU8 : (Tryd.prog.info? 5).map (fun i => (i.zero, i.size, i.bytes)) = some (some (.int .u8 0), 1, 1) := by kernel_rfl
/-- Bytes as cells. -/
def bytesV (l : List UInt8) : List Value := l.map fun b : UInt8 => Value.int .u8 (b.toNat : Int)
theorem bytesV_length (l : List UInt8) : (bytesV l).length = l.length := by simp [bytesV]
theorem bytesV_snoc (l : List UInt8) (b : UInt8) : bytesV l ++ [.int .u8 (b.toNat : Int)] = bytesV (l ++ [b]) := by simp [bytesV]
theorem bytesV_get (l : List UInt8) (i : Nat) (h : i < l.length) : (bytesV l)[i]? = some (.int .u8 (l[i].toNat : Int)) := by
  simp [bytesV, List.getElem?_eq_getElem h]
/-- string(b) of bytes that the call owns. -/
theorem conv_own {w : World} {B : Nat} {v : Value} {n : Nat} {l : List UInt8} (h : w.ownsRow B 5 1 v n (bytesV l)) (dst : TypeId) (hd : Tryd.prog.underlying dst = some .string) :
    (convert 43 dst v).run Tryd.prog w = .ok (.string ⟨l.toArray⟩) w := by
  have hn : l.length = n := by have := h.1; rw [bytesV_length] at this; omega
  rcases rowAt_of_owns h with ⟨rfl, hz, _⟩ | ⟨g, c, rfl, _, hc, _, _, hr⟩
  · rw [run_convert_bytes_nil w 43 5 Tryd.underlying43 Tryd.underlying5 0 0 dst hd]
    rw [List.eq_nil_of_length_eq_zero (hn.trans hz)]; rfl
  · have := run_convert_bytes_back (P := Tryd.prog) w 43 dst 5 ⟨g, 0, none⟩ c l Tryd.underlying43 Tryd.underlying5 hd (fun j hj => by
      rw [add_plain, Nat.zero_add, hr.cell (by rw [bytesV_length]; exact hj), bytesV_get l j hj])
    rw [hn] at this
    exact this

/-- A text is handed back. -/
def StrPost (w : World) (l : List UInt8) (e : Ending) (w' : World) : Prop := e = .returned (.string ⟨l.toArray⟩) ∧ Below w.heap.size w w'
def TrimT (la : List Nat) (n : Nat) (v : Value) : Prop := ∃ k : Nat, k ≤ n ∧ v = .int .i64 (k : Int) ∧ dval (la.take k) = dval la
def TxtR (w : World) (neg : Bool) (D : List Nat) (o iv : Value) (wr : World) : Prop :=
  ∃ i : Nat, i ≤ D.length ∧ iv = .int .i64 ((i : Int) - 1) ∧ wr.ownsRow w.heap.size 5 1 o (txtP neg D i).length (bytesV (txtP neg D i)) ∧ Below w.heap.size w wr

end Go.Proofs.YtnmiiimbjojcmaaDoor

namespace Go.Proofs.YtnmiiimbjojcmaaDoor
open Go.RowKit

theorem decN_mono {a b : Nat} (h : a ≤ b) : (decN a).length ≤ (decN b).length := by
  have h1 : 1 ≤ (decN b).length := List.length_pos_iff.2 (decN_ne b)
  exact (decN_len_le a _ h1).2 (Nat.lt_of_le_of_lt h ((decN_len_le b _ h1).1 (Nat.le_refl _)))

/-- An error is handed back. -/
def ErrPost (w : World) (n : Int) (e : Ending) (w' : World) : Prop := e = .returned (.int .i64 n) ∧ Below w.heap.size w w'

/-- The error of two integers. -/
def bothZ (a b : List UInt8) : Int := if chkZ a = 0 then chkZ b else chkZ a

/-- A text and an error are handed back. -/
def SEPost (w : World) (l : List UInt8) (n : Int) (e : Ending) (w' : World) : Prop := e = .returned (.tuple #[.string ⟨l.toArray⟩, .int .i64 n]) ∧ Below w.heap.size w w'

/-- Euclid's loop. -/
def GcR (w : World) (G : Nat) (gk : Nat) (xv yv : Value) (wr : World) : Prop :=
  ∃ (a b : Option Addr) (n m c d : Nat) (X Y : List Nat), gk = dval Y ∧ xv = .slice a n c ∧ yv = .slice b m d ∧ X.length = n ∧ Y.length = m ∧ n ≤ 5000 ∧ m ≤ 5000 ∧ n ≤ c ∧ m ≤ d ∧
    (∀ x ∈ X, x < 10) ∧ (∀ x ∈ Y, x < 10) ∧ Nums .i64 wr a X ∧ Nums .i64 wr b Y ∧ Nat.gcd (dval X) (dval Y) = G ∧ (decN (dval Y)).length ≤ 1000 ∧ Below w.heap.size w wr

end Go.Proofs.YtnmiiimbjojcmaaDoor
