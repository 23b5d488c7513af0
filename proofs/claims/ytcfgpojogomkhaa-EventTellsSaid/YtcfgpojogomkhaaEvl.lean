/-
  Long over events. No condition.
-/
import Derived.Test.YtcfgpojogomkhaaEva
namespace Go.Proofs.Ytcfgpojogomkhaa
open Go.RowKit

def longB (x : Ev) : Bool := decide (3000 < x.party.size ∨ 3000 < x.name.size ∨ 3000 < x.value.size)
theorem alloc_below (w : World) (o : Obj) : Below w.heap.size w (w.alloc o) := (Below.refl _ _).alloc (Nat.le_refl _) _

set_option maxHeartbeats 400000 in
theorem long_any (k1 i1 e1 t1 d1 : Int) (p1 n1 v1 : ByteArray) (f1 : Bool) (w : World) :
    Calls Try.prog 5 #[.agg #[.int .u8 k1, .int .i64 i1, .int .i64 e1, .int .i64 t1, .int .i64 d1, .string p1, .string n1, .string v1, .bool f1]] w fun e w' =>
      e = .returned (.bool (longB ⟨k1, i1, e1, t1, d1, p1, n1, v1, f1⟩)) ∧ Below w.heap.size w w' := by
  by_cases h1 : 3000 < p1.size
  · have e : Hid (longB ⟨k1, i1, e1, t1, d1, p1, n1, v1, f1⟩ = true) := by show _ = _; simp [longB, h1]
    have g1 : decide ((3000 : Int) < (p1.size : Int)) = true := by simp; omega
    go_enter Try.func5, Try.ntmps5
    go_wp2
    go_ret
    exact ⟨ret_bool e.out.symm, alloc_below _ _⟩
  · have g1 : decide ((3000 : Int) < (p1.size : Int)) = false := by simp; omega
    by_cases h2 : 3000 < n1.size
    · have e : Hid (longB ⟨k1, i1, e1, t1, d1, p1, n1, v1, f1⟩ = true) := by show _ = _; simp [longB, h2]
      have g2 : decide ((3000 : Int) < (n1.size : Int)) = true := by simp; omega
      go_enter Try.func5, Try.ntmps5
      go_wp2
      go_ret
      exact ⟨ret_bool e.out.symm, alloc_below _ _⟩
    · have g2 : decide ((3000 : Int) < (n1.size : Int)) = false := by simp; omega
      by_cases h3 : 3000 < v1.size
      · have e : Hid (longB ⟨k1, i1, e1, t1, d1, p1, n1, v1, f1⟩ = true) := by show _ = _; simp [longB, h3]
        have g3 : decide ((3000 : Int) < (v1.size : Int)) = true := by simp; omega
        go_enter Try.func5, Try.ntmps5
        go_wp2
        go_ret
        exact ⟨ret_bool e.out.symm, alloc_below _ _⟩
      · have e : Hid (longB ⟨k1, i1, e1, t1, d1, p1, n1, v1, f1⟩ = false) := by show _ = _; simp [longB]; omega
        have g3 : decide ((3000 : Int) < (v1.size : Int)) = false := by simp; omega
        go_enter Try.func5, Try.ntmps5
        go_wp2
        go_ret
        exact ⟨ret_bool e.out.symm, alloc_below _ _⟩

/-- An event as it lies in memory: nine cells. -/
def EvAt (w : World) (g o : Nat) (x : Ev) : Prop := w.cell? ⟨g, o, none⟩ = some (.int .u8 x.kind) ∧ w.cell? ⟨g, o + 1, none⟩ = some (.int .i64 x.id) ∧ w.cell? ⟨g, o + 2, none⟩ = some (.int .i64 x.entry) ∧ w.cell? ⟨g, o + 3, none⟩ = some (.int .i64 x.target) ∧ w.cell? ⟨g, o + 4, none⟩ = some (.int .i64 x.date) ∧ w.cell? ⟨g, o + 5, none⟩ = some (.string x.party) ∧ w.cell? ⟨g, o + 6, none⟩ = some (.string x.name) ∧ w.cell? ⟨g, o + 7, none⟩ = some (.string x.value) ∧ w.cell? ⟨g, o + 8, none⟩ = some (.bool x.first)
def Evs (w : World) (g off : Nat) (l : List Ev) : Prop := ∀ i, i < l.length → EvAt w g (off + i * 9) (l[i]?.getD default)
def aggEv (x : Ev) : Value := .agg #[.int .u8 x.kind, .int .i64 x.id, .int .i64 x.entry, .int .i64 x.target, .int .i64 x.date, .string x.party, .string x.name, .string x.value, .bool x.first]

end Go.Proofs.Ytcfgpojogomkhaa
