/-
  The program's groups: an iterator over the groups of digits of a text. No condition.
-/
import Derived.RangeFuncBox
import Derived.RangeFuncLeaves
import Derived.RangeFuncWrites
import Derived.Shelf.Abstract
import Derived.OwnWalkIn
import Derived.TacticsInMore
import Derived.LoopNIn
import Derived.LoopIn
import Derived.Maps.AppendAt
import Derived.Test.YtnmiiimbjojcmaaNb
namespace Go.Proofs.Ytnmiiimbjojcmaa
open Go.RowKit Go.Shelf

attribute [local go_sem] Oper.semAt_some

/-- The k-th group of digits, the last one first. -/
def chunk (t : ByteArray) (k : Nat) : ByteArray := t.extract (t.size - 9 * (k + 1)) (t.size - 9 * k)
/-- What a round keeps for the iterator: the boxed text. -/
def KeepBox (B : Nat) (W W' : World) : Prop := W'.heap[B]? = W.heap[B]?
theorem keepBox_t {B : Nat} {W1 W2 W3 : World} (h : KeepBox B W1 W2) (k : KeepBox B W2 W3) : KeepBox B W1 W3 := k.trans h
theorem keepBox_b {B : Nat} {w : World} (hB : B < w.heap.size) (W : World) (l : Nat) (o o' : Obj) (hl : w.heap.size ≤ l) (h : W.heap[l]? = some o) (_ho : o.isCells = false) (_ : o.isWalk = false) : KeepBox B W (W.putObj l o') := by
  have hlt := (Array.getElem?_eq_some_iff.1 h).1
  by_cases hb : B < W.heap.size
  · exact (grownBy_putObj' W l o').block B hb (by intro e; injection e with e; omega)
  · unfold KeepBox
    rw [Array.getElem?_eq_none (by omega), Array.getElem?_eq_none (by have := (grownBy_putObj' W l o').size; omega)]
theorem range_succ' (k : Nat) : List.range k ++ [k] = List.range (k + 1) := List.range_succ.symm
theorem range_prefix {k m : Nat} (h : k ≤ m) : List.range k <+: List.range m := by
  refine ⟨(List.range' k (m - k)), ?_⟩
  rw [List.range_eq_range', List.range_eq_range']
  have := List.range'_append (s := 0) (m := k) (n := m - k) (step := 1)
  simp only [Nat.zero_add, Nat.one_mul] at this
  rw [this]; congr 1; omega

set_option maxRecDepth 100000 in
set_option maxHeartbeats 2000000 in
theorem groups1_in (F : Fence) (n : Nat) (hF : F.fn 76) (hro : F.round = none) (hn : 1 ≤ n) (l Bs m : Nat) (t : ByteArray) (hs : t.size ≤ 1000000) (hm1 : t.size ≤ 9 * m) (hm2 : 9 * m < t.size + 9) (J Jx : List Nat → World → Prop)
    (hY : ∀ pre x W, J pre W → pre.length < m → YieldAt F (n - 1) Try.prog l #[.string (chunk t x)] W fun e W' =>
      (e = .returned (.bool true) ∧ J (pre ++ [x]) W' ∧ KeepBox Bs W W') ∨ (e = .returned (.bool false) ∧ Jx (pre ++ [x]) W'))
    (W : World) (hBs : Boxed W Bs 9 (.string t)) (h0 : J [] W) :
    CallsIn F n Try.prog 76 #[.func (.yield l) #[] #[], .pointer (some ⟨Bs, 0, none⟩)] W fun e W' => (∃ v, e = .returned v) ∧
      ((∃ ys, ys = List.range m ∧ J ys W') ∨ (∃ pre, pre <+: List.range m ∧ Jx pre W')) := by
  refine callsIn_of_wp Try.func76 rfl hF ?_ hro
  simp only [Try.ntmps76, List.size_toArray, List.length_cons, List.length_nil, Nat.reduceAdd, Nat.reduceSub, Array.replicate_succ, Array.replicate_zero, List.push_toArray, List.append_toArray, List.nil_append, List.cons_append]
  have hc0 := hBs.cell
  gi_wp2
  clear hc0
  gi_loopw [3] (fun i wr => ∃ k : Nat, k ≤ m ∧ i = .int .i64 ((t.size : Int) - 9 * (k : Int)) ∧ J (List.range k) wr ∧ Boxed wr Bs 9 (.string t))
    (fun i _ => (intOf i + 9).toNat)
  case atStart => exact ⟨0, Nat.zero_le _, by simp, h0, hBs⟩
  case round =>
    obtain ⟨k, hk, rfl, hJs, hnx⟩ := hrel
    have hcx : wr.cell? ⟨Bs, 0, none⟩ = some (.string t) := hnx.cell
    by_cases hlt : k < m
    · obtain ⟨e, he⟩ : ∃ e, e = t.size - 9 * k := ⟨_, rfl⟩
      have he1 : 1 ≤ e := by omega
      have heI : ((t.size : Int) - 9 * (k : Int)) = (e : Int) := by omega
      have hes : e ≤ t.size := by omega
      obtain ⟨fn, tmps, assign, body, hy, hR⟩ := hY _ k wr hJs (by simpa using hlt)
      have hch : chunk t k = t.extract (e - 9) e := by unfold chunk; rw [he]; congr 1
      rw [hch] at hy
      rw [heI]
      have HCH := Lib.hid hch
      have HE := Lib.hid he
      have HEI := Lib.hid heI
      clear hch he heI hJs
      by_cases h9 : 10 ≤ e
      · obtain ⟨f, rfl⟩ : ∃ f, e = f + 9 := ⟨e - 9, by omega⟩
        rw [Nat.add_sub_cancel] at hy
        have hf : ((f + 9 : Nat) : Int) = (f : Int) + 9 := by omega
        have hf1 : 1 ≤ f := by omega
        rw [hf]
        clear hf h9
        gi_wp2
        refine hR.mono ?_
        rintro ee W3 (⟨rfl, hJ3, hk3⟩ | ⟨rfl, hJx3⟩)
        · gi_wp2
          go_roundw
          case rel => exact ⟨k + 1, by omega, by congr 1; have := HEI.out; omega, by rw [← range_succ']; exact hJ3, hk3.trans hnx⟩
          case measure => simp [intOf] <;> omega
        · gi_wp2
          refine bodyPost_ret (results_none rfl _ _ _) rfl ?_
          exact ⟨⟨_, rfl⟩, .inr ⟨_, by rw [range_succ']; exact range_prefix (by omega), hJx3⟩⟩
      · rw [show e - 9 = 0 by omega] at hy
        gi_wp2
        refine hR.mono ?_
        rintro ee W3 (⟨rfl, hJ3, hk3⟩ | ⟨rfl, hJx3⟩)
        · gi_wp2
          go_roundw
          case rel => exact ⟨k + 1, by omega, by congr 1; have := HEI.out; omega, by rw [← range_succ']; exact hJ3, hk3.trans hnx⟩
          case measure => simp [intOf] <;> omega
        · gi_wp2
          refine bodyPost_ret (results_none rfl _ _ _) rfl ?_
          exact ⟨⟨_, rfl⟩, .inr ⟨_, by rw [range_succ']; exact range_prefix (by omega), hJx3⟩⟩
    · obtain rfl : k = m := by omega
      have hle : ((t.size : Int) - 9 * (k : Int)) ≤ 0 := by omega
      gi_wp2
      go_end0
      exact ⟨⟨_, rfl⟩, .inl ⟨_, rfl, hJs⟩⟩

set_option maxHeartbeats 1000000 in
/-- groups(s): the text is boxed; the function value captures the box. -/
theorem groups_in (F : Fence) (n : Nat) (hF : F.fn 71) (hro : F.round = none) (t : ByteArray) (w : World) :
    CallsIn F n Try.prog 71 #[.string t] w fun e w' => e = .returned (.func (.func 76) #[] #[.pointer (some ⟨w.heap.size, 0, none⟩)]) ∧ w' = w.alloc (.cells #[.string t] 9) := by
  refine callsIn_of_wp Try.func71 rfl hF ?_ hro
  simp only [Try.ntmps71, List.size_toArray, List.length_cons, List.length_nil, Nat.reduceAdd, Nat.reduceSub, Array.replicate_succ, Array.replicate_zero, List.push_toArray, List.append_toArray, List.nil_append, List.cons_append]
  gi_wp2
  go_ret
  exact ⟨rfl, rfl⟩

/-- groups(s) hands back a value that yields the groups, one after the other. -/
theorem groups_stops (F : Fence) (n : Nat) (hF : F.fn 76) (hro : F.round = none) (hn : 1 ≤ n) (Bs m : Nat) (t : ByteArray) (hs : t.size ≤ 1000000) (hm1 : t.size ≤ 9 * m) (hm2 : 9 * m < t.size + 9) (w : World) (hc : Boxed w Bs 9 (.string t)) :
    SeqStopsK F n Try.prog 76 #[.pointer (some ⟨Bs, 0, none⟩)] (fun x : Nat => #[Value.string (chunk t x)]) (KeepBox Bs) (fun ys => ys = List.range m) (fun pre => pre <+: List.range m) m w := fun l J Jx W hW _ _ hY h0 =>
  groups1_in F n hF hro hn l Bs m t hs hm1 hm2 J Jx hY W ((hW.block Bs hc.lt).trans hc) h0

end Go.Proofs.Ytnmiiimbjojcmaa
