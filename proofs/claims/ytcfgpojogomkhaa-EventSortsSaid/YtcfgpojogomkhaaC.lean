/-
  Long, Same, slices.Clone over events. No condition.
-/
import Derived.Test.YtcfgpojogomkhaaB
import Derived.Test.YtcfgpojogomkhaaP
import Derived.Test.YtcfgpojogomkhaaShelf
namespace Go.Proofs.Ytcfgpojogomkhaa
open Go.RowKit

def longB (x : Ev) : Bool := decide (3000 < x.party.size ∨ 3000 < x.name.size ∨ 3000 < x.value.size)
theorem alloc_below (w : World) (o : Obj) : Below w.heap.size w (w.alloc o) := (Below.refl _ _).alloc (Nat.le_refl _) _

set_option maxHeartbeats 400000 in
theorem long_any (k1 i1 e1 t1 d1 : Int) (p1 n1 v1 : ByteArray) (f1 : Bool) (w : World) :
    Calls Try.prog 5 #[.agg #[.int .u8 k1, .int .i64 i1, .int .i64 e1, .int .i64 t1, .int .i64 d1, .string p1, .string n1, .string v1, .bool f1]] w fun e w' =>
      e = .returned (.bool (longB ⟨k1, i1, e1, t1, d1, p1, n1, v1, f1⟩)) ∧ Below w.heap.size w w' := by
  by_cases h1 : 3000 < p1.size
  · have e : Hid (longB ⟨k1, i1, e1, t1, d1, p1, n1, v1, f1⟩ = true) := by show _ = _; simp [longB, h1]
    have g1 : decide ((3000 : Int) < (p1.size : Int)) = true := by simp; omega
    go_enter Try.func5, Try.ntmps5
    go_wp2
    go_ret
    exact ⟨ret_bool e.out.symm, alloc_below _ _⟩
  · have g1 : decide ((3000 : Int) < (p1.size : Int)) = false := by simp; omega
    by_cases h2 : 3000 < n1.size
    · have e : Hid (longB ⟨k1, i1, e1, t1, d1, p1, n1, v1, f1⟩ = true) := by show _ = _; simp [longB, h2]
      have g2 : decide ((3000 : Int) < (n1.size : Int)) = true := by simp; omega
      go_enter Try.func5, Try.ntmps5
      go_wp2
      go_ret
      exact ⟨ret_bool e.out.symm, alloc_below _ _⟩
    · have g2 : decide ((3000 : Int) < (n1.size : Int)) = false := by simp; omega
      by_cases h3 : 3000 < v1.size
      · have e : Hid (longB ⟨k1, i1, e1, t1, d1, p1, n1, v1, f1⟩ = true) := by show _ = _; simp [longB, h3]
        have g3 : decide ((3000 : Int) < (v1.size : Int)) = true := by simp; omega
        go_enter Try.func5, Try.ntmps5
        go_wp2
        go_ret
        exact ⟨ret_bool e.out.symm, alloc_below _ _⟩
      · have e : Hid (longB ⟨k1, i1, e1, t1, d1, p1, n1, v1, f1⟩ = false) := by show _ = _; simp [longB]; omega
        have g3 : decide ((3000 : Int) < (v1.size : Int)) = false := by simp; omega
        go_enter Try.func5, Try.ntmps5
        go_wp2
        go_ret
        exact ⟨ret_bool e.out.symm, alloc_below _ _⟩

/-- An event as it lies in memory: nine cells. -/
def EvAt (w : World) (g o : Nat) (x : Ev) : Prop := w.cell? ⟨g, o, none⟩ = some (.int .u8 x.kind) ∧ w.cell? ⟨g, o + 1, none⟩ = some (.int .i64 x.id) ∧ w.cell? ⟨g, o + 2, none⟩ = some (.int .i64 x.entry) ∧ w.cell? ⟨g, o + 3, none⟩ = some (.int .i64 x.target) ∧ w.cell? ⟨g, o + 4, none⟩ = some (.int .i64 x.date) ∧ w.cell? ⟨g, o + 5, none⟩ = some (.string x.party) ∧ w.cell? ⟨g, o + 6, none⟩ = some (.string x.name) ∧ w.cell? ⟨g, o + 7, none⟩ = some (.string x.value) ∧ w.cell? ⟨g, o + 8, none⟩ = some (.bool x.first)
def Evs (w : World) (g off : Nat) (l : List Ev) : Prop := ∀ i, i < l.length → EvAt w g (off + i * 9) (l[i]?.getD default)
def aggEv (x : Ev) : Value := .agg #[.int .u8 x.kind, .int .i64 x.id, .int .i64 x.entry, .int .i64 x.target, .int .i64 x.date, .string x.party, .string x.name, .string x.value, .bool x.first]

set_option maxHeartbeats 1000000 in
theorem same_ev (g1 o1 g2 o2 c1 c2 n : Nat) (l : List Ev) (w : World) (hl : l.length = n) (hbig : n ≤ 1000000) (h1 : Evs w g1 o1 l) (h2 : Evs w g2 o2 l) :
    Calls Try.prog 8 #[.slice (some ⟨g1, o1, none⟩) n c1, .slice (some ⟨g2, o2, none⟩) n c2] w fun e w' => e = .returned (.bool true) ∧ ∃ q, w' = w.drewN q := by
  have HL := Lib.hid hl
  have H1 := Lib.hid h1
  have H2 := Lib.hid h2
  clear hl h1 h2
  go_enter Try.func8, Try.ntmps8
  go_wp2_with fail
  go_loopw [5] (fun i wr => ∃ k q : Nat, k ≤ n ∧ i = .int .i64 k ∧ wr = w.drewN q) (fun i _ => n - (intOf i).toNat)
  case atStart => exact ⟨0, 0, Nat.zero_le _, rfl, rfl⟩
  case round =>
    obtain ⟨k, q, hk, rfl, rfl⟩ := hrel
    by_cases hlt : k < n
    · obtain ⟨x, hx⟩ : ∃ x, x = l[k]?.getD default := ⟨_, rfl⟩
      have a := H1.out k (by have := HL.out; omega)
      have b := H2.out k (by have := HL.out; omega)
      rw [← hx] at a b
      obtain ⟨a0, a1, a2, a3, a4, a5, a6, a7, a8⟩ := a
      obtain ⟨b0, b1, b2, b3, b4, b5, b6, b7, b8⟩ := b
      clear hx
      go_wp2_with fail
      go_quiet (fail)
      go_wp2_with fail
      go_roundw
      case rel => exact ⟨k + 1, _, by omega, by go_num, rfl⟩
      case measure => simp [intOf]; omega
    · go_wp2_with fail
      go_ret
      exact ⟨rfl, _, rfl⟩

set_option maxHeartbeats 400000 in
theorem same_zero (a1 a2 : Option Addr) (c1 c2 : Nat) (w : World) :
    Calls Try.prog 8 #[.slice a1 0 c1, .slice a2 0 c2] w fun e w' => e = .returned (.bool true) ∧ w = w' := by
  go_enter Try.func8, Try.ntmps8
  go_wp2_with fail
  refine wp_loop_rounds 1 ?_
  rw [rounds_succ]
  go_wp2_with fail
  go_ret
  exact ⟨rfl, rfl⟩

/-- The cells of a list of events. -/
def evs (l : List Ev) : List Value := l.flatMap encEv
theorem encEv_length (x : Ev) : (encEv x).length = 9 := rfl
theorem evs_length (l : List Ev) : (evs l).length = l.length * 9 := by
  induction l with
  | nil => rfl
  | cons x l ih => show (encEv x ++ evs l).length = _; rw [List.length_append, ih, encEv_length, List.length_cons]; omega
theorem evs_get (l : List Ev) (i j : Nat) (hi : i < l.length) (hj : j < 9) : (evs l)[i * 9 + j]? = (encEv (l[i]?.getD default))[j]? := by
  induction l generalizing i with
  | nil => simp at hi
  | cons x l ih =>
    show (encEv x ++ evs l)[i * 9 + j]? = _
    cases i with
    | zero => rw [List.getElem?_append_left (by rw [encEv_length]; omega)]; simp
    | succ i =>
      rw [List.getElem?_append_right (by rw [encEv_length]; omega), encEv_length, show (i + 1) * 9 + j - 9 = i * 9 + j by omega, ih i (by simpa using hi)]
      simp
theorem evs_of_row {w : World} {g : Nat} {t : TypeId} {l : List Ev} (h : RowAt w g t (evs l)) : Evs w g 0 l := by
  intro i hi
  have hc : ∀ j, j < 9 → w.cell? ⟨g, 0 + i * 9 + j, none⟩ = (encEv (l[i]?.getD default))[j]? := fun j hj => by
    rw [Nat.zero_add, h.cell (by rw [evs_length]; omega), evs_get l i j hi hj]
  exact ⟨hc 0 (by omega), hc 1 (by omega), hc 2 (by omega), hc 3 (by omega), hc 4 (by omega), hc 5 (by omega), hc 6 (by omega), hc 7 (by omega), hc 8 (by omega)⟩

end Go.Proofs.Ytcfgpojogomkhaa
