/-
  The reference's digits: Minus, Plus. No condition.
-/
import Derived.Test.YtnikhbdjlipcbaaDoorIb
import Derived.Laws.OwnMore
namespace Go.Proofs.YtnikhbdjlipcbaaDoor
open Go.RowKit

theorem infoInt : (Tryd.prog.info? 3).map (fun i => (i.zero, i.size, i.bytes)) = some (some (.int .i64 0), 1, 8) := by kernel_rfl
/-- Numbers as cells. -/
def nums (k : IntKind) (l : List Nat) : List Value := l.map fun x : Nat => Value.int k (x : Int)
theorem nums_length (k : IntKind) (l : List Nat) : (nums k l).length = l.length := by simp [nums]
theorem nums_snoc (k : IntKind) (l : List Nat) (x : Nat) : nums k l ++ [.int k (x : Int)] = nums k (l ++ [x]) := by simp [nums]
theorem nums_get (k : IntKind) (l : List Nat) (i : Nat) (h : i < l.length) : (nums k l)[i]? = some (.int k ((l.getD i 0 : Nat) : Int)) := by
  simp [nums, List.getElem?_eq_getElem h]
/-- A slice of the call's own that holds numbers. -/
theorem nums_of_owns {k : IntKind} {w : World} {B e : Nat} {v : Value} {n : Nat} {l : List Nat} (h : w.ownsRow B e 1 v n (nums k l)) :
    ∃ a c, v = .slice a n c ∧ l.length = n ∧ n ≤ c ∧ Nums k w a l := by
  have hn : l.length = n := by have := h.1; rw [nums_length] at this; omega
  rcases rowAt_of_owns h with ⟨rfl, rfl, _⟩ | ⟨g, c, rfl, _, hc, _, _, hr⟩
  · exact ⟨none, 0, rfl, hn, Nat.le_refl _, fun i hi => by omega⟩
  · refine ⟨_, c, rfl, hn, hc, fun i hi => ⟨g, 0, rfl, hr.lt, ?_⟩⟩
    rw [Nat.zero_add, hr.cell (by rw [nums_length]; exact hi), nums_get k l i hi]
/-- A new slice of numbers is handed back. -/
def NewNums (k : IntKind) (T : TypeId) (w : World) (P : List Nat → Prop) (e : Ending) (w' : World) : Prop :=
  ∃ v l, e = .returned v ∧ w'.ownsRow w.heap.size T 1 v l.length (nums k l) ∧ P l ∧ Below w.heap.size w w'

/-- The loop of the reference's subtraction. -/
def MinR (w : World) (la lb : List Nat) (n : Nat) (o b i : Value) (wr : World) : Prop :=
  ∃ (k br : Nat) (out : List Nat), k ≤ n ∧ i = .int .i64 k ∧ b = .int .i64 br ∧ wr.ownsRow w.heap.size 3 1 o k (nums .i64 out) ∧ DMinusAt la lb out k br ∧ Below w.heap.size w wr

set_option maxHeartbeats 1000000 in
set_option maxRecDepth 100000 in
theorem dminus_any (a b : Option Addr) (n m c d : Nat) (la lb : List Nat) (w : World) (hla : la.length = n) (hlb : lb.length = m) (hn : n ≤ 1000000) (hm : m ≤ 1000000)
    (da : ∀ x ∈ la, x < 10) (db : ∀ x ∈ lb, x < 10) (hle : dval lb ≤ dval la) (ha : Nums .i64 w a la) (hb : Nums .i64 w b lb) :
    Calls Tryd.prog 106 #[.slice a n c, .slice b m d] w (NewNums .i64 3 w fun l => l.length = n ∧ (∀ x ∈ l, x < 10) ∧ dval l = dval la - dval lb) := by
  obtain ⟨i0, hi, hz0, hz1, hz2⟩ := info_parts infoInt
  have HLA := Lib.hid hla
  have HA := Lib.hid ha
  have HB := Lib.hid hb
  have DA := Lib.hid da
  have DB := Lib.hid db
  have HLE := Lib.hid hle
  have HLB := Lib.hid hlb
  clear hla hlb ha hb da db hle
  go_enter Tryd.func106, Tryd.ntmps106
  go_wp2_with fail
  go_loopw [5, 6, 7] (MinR w la lb n) (fun _ _ i _ => n - (intOf i).toNat)
  case atStart => exact ⟨0, 0, [], Nat.zero_le _, rfl, rfl, World.ownsRow_nil _ _ _ _, dminus_start _ _, Below.refl _ _⟩
  case round =>
    obtain ⟨k, br, out, hk, rfl, rfl, ho, hat, hbl⟩ := hrel
    have HO := Lib.hid ho
    have HT := Lib.hid hat
    have HBL := Lib.hid hbl
    clear ho hat hbl
    by_cases hlt : k < n
    · obtain ⟨x, hx⟩ : ∃ x, x = la.getD k 0 := ⟨_, rfl⟩
      obtain ⟨y, hy⟩ : ∃ y, y = lb.getD k 0 := ⟨_, rfl⟩
      obtain ⟨g, og, rfl, hg, hc⟩ := HA.out.below HBL.out k (by have := HLA.out; omega)
      have cB := fun q => at_any b m d k lb (wr.drewN q) HLB.out hm ((HB.out.below HBL.out).drewN q)
      rw [← hx] at hc
      rw [← hy] at cB
      have hx10 : x < 10 := by rw [hx]; exact digD_lt la k DA.out
      have hy10 : y < 10 := by rw [hy]; exact digD_lt lb k DB.out
      have hbr : br ≤ 1 := HT.out.2.2.1
      have CB := Lib.hid cB
      have HX := Lib.hid hx
      have HY := Lib.hid hy
      clear hx hy cB
      have w1 : IntKind.i64.wrap ((x : Int) - (y : Int)) = (x : Int) - (y : Int) := by rw [IntKind.wrap_i64]; omega
      have w2 : IntKind.i64.wrap ((x : Int) - (y : Int) - (br : Int)) = (x : Int) - (y : Int) - (br : Int) := by rw [IntKind.wrap_i64]; omega
      go_wp2_with fail
      go_quiet ((go_at_call 107; exact quiet_left (CB.out _)))
      clear w1 w2
      by_cases hs : y + br ≤ x
      · have st := dminus_step0 la lb out k br DA.out HT.out (by rw [← HX.out, ← HY.out]; exact hs)
        rw [← HX.out, ← HY.out] at st
        obtain ⟨z, hz⟩ : ∃ z : Nat, (x : Int) - (y : Int) - (br : Int) = z ∧ x - y - br = z := ⟨x - y - br, by omega, rfl⟩
        rw [hz.2] at st
        have ST := Lib.hid st
        have t1 : ((x : Int) - (y : Int) - (br : Int) < 0) = False := by simp; omega
        have HZ := Lib.hid hz
        clear st hz
        rw [HZ.out.1] at t1 ⊢
        obtain ⟨wq, hwq⟩ : ∃ wq, wq = wr.drewN nq := ⟨_, rfl⟩
        have HOq : Hid (wq.ownsRow w.heap.size 3 1 u5 k (nums .i64 out)) := by rw [hwq]; exact HO.out
        have HBq : Hid (Below w.heap.size w wq) := by rw [hwq]; exact below_drewN HBL.out nq
        rw [← hwq]
        clear hwq hc t1
        go_wp2_with (at_builtin; refine wpList_append1 _ rfl (.tmp 29) (.tmp 31) 99 rfl w.heap.size 3 i0 (.int .i64 0) 8 Tryd.underlying99 hi hz0 hz1 hz2 rfl _ _ _ rfl (HOq.out.alloc _) ⟨wq.heap.size, 0, none⟩ 1 (.int .i64 z) rfl ?c1 rfl ?c3 ?c4 ?c5 ?_)
        case c1 => simp
        case c3 => unfold maxLen; omega
        case c4 => omega
        case c5 => have := HBq.out.size; simp; omega
        intro v1 w1 ho1 hg1 hne1 hpl1
        have n1 : Below w.heap.size w w1 := (HBq.out.alloc HBq.out.size _).grown hg1 (by have := HBq.out.size; simp; omega) (fun k hk => (HOq.out.lt k hk).1)
        rw [nums_snoc] at ho1
        have HO1 := Lib.hid ho1
        have N1 := Lib.hid n1
        clear ho1 n1 hg1 hne1 hpl1
        go_wp2_with fail
        go_roundw
        case rel => exact ⟨k + 1, 0, out ++ [z], by omega, by go_num, rfl, HO1.out, ST.out, N1.out⟩
        case measure => simp [intOf] <;> omega
      · have st := dminus_step1 la lb out k br DB.out HT.out (by rw [← HX.out, ← HY.out]; omega)
        rw [← HX.out, ← HY.out] at st
        obtain ⟨z, hz⟩ : ∃ z : Nat, (x : Int) - (y : Int) - (br : Int) = (z : Int) - 10 ∧ x + 10 - y - br = z := ⟨x + 10 - y - br, by omega, rfl⟩
        have hz10 : (z : Int) < 10 := by omega
        rw [hz.2] at st
        have ST := Lib.hid st
        have HZ := Lib.hid hz
        clear st hz
        rw [HZ.out.1]
        obtain ⟨wq, hwq⟩ : ∃ wq, wq = wr.drewN nq := ⟨_, rfl⟩
        have HOq : Hid (wq.ownsRow w.heap.size 3 1 u5 k (nums .i64 out)) := by rw [hwq]; exact HO.out
        have HBq : Hid (Below w.heap.size w wq) := by rw [hwq]; exact below_drewN HBL.out nq
        rw [← hwq]
        clear hwq hc
        go_wp2_with (at_builtin; refine wpList_append1 _ rfl (.tmp 29) (.tmp 31) 99 rfl w.heap.size 3 i0 (.int .i64 0) 8 Tryd.underlying99 hi hz0 hz1 hz2 rfl _ _ _ rfl (HOq.out.alloc _) ⟨wq.heap.size, 0, none⟩ 1 (.int .i64 z) rfl ?c1 rfl ?c3 ?c4 ?c5 ?_)
        case c1 => simp
        case c3 => unfold maxLen; omega
        case c4 => omega
        case c5 => have := HBq.out.size; simp; omega
        intro v1 w1 ho1 hg1 hne1 hpl1
        have n1 : Below w.heap.size w w1 := (HBq.out.alloc HBq.out.size _).grown hg1 (by have := HBq.out.size; simp; omega) (fun k hk => (HOq.out.lt k hk).1)
        rw [nums_snoc] at ho1
        have HO1 := Lib.hid ho1
        have N1 := Lib.hid n1
        clear ho1 n1 hg1 hne1 hpl1
        go_wp2_with fail
        go_roundw
        case rel => exact ⟨k + 1, 1, out ++ [z], by omega, by go_num, rfl, HO1.out, ST.out, N1.out⟩
        case measure => simp [intOf] <;> omega
    · have hkn : k = n := by omega
      subst hkn
      have hv := dminus_end la lb out br DA.out HLE.out (by rw [HLA.out]; exact HT.out)
      have HV := Lib.hid hv
      clear hv
      go_wp2_with fail
      go_ret
      have ho := HO.out
      rw [← HT.out.1] at ho
      exact ⟨_, out, rfl, ho, ⟨HT.out.1, HT.out.2.1, HV.out⟩, HBL.out⟩

end Go.Proofs.YtnikhbdjlipcbaaDoor
