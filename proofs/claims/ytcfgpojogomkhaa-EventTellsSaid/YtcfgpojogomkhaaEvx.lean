/-
  An event that came in, opened. No condition.
-/
import Derived.Test.YtcfgpojogomkhaaEva
import Derived.Deep.Slices
import Derived.ChangeArms
import Derived.ChangeSame
import Derived.ChangeShapes
namespace Go.Proofs.Ytcfgpojogomkhaa
open Go.RowKit Go.ChangeShapes Go.WideShapes Go.Deep

theorem cellsOfX26 : Try.prog.cellsOf 26 = 9 := by kernel_rfl
theorem cellsOfX3 : Try.prog.cellsOf 3 = 1 := by kernel_rfl
theorem cellsOfX4 : Try.prog.cellsOf 4 = 1 := by kernel_rfl
theorem cellsOfX5 : Try.prog.cellsOf 5 = 1 := by kernel_rfl
theorem cellsOfX9 : Try.prog.cellsOf 9 = 1 := by kernel_rfl
theorem cellsOfX24 : Try.prog.cellsOf 24 = 1 := by kernel_rfl
set_option maxRecDepth 100000 in
/-- One event, opened. -/
theorem open_event {H : Type} {enc : TypeId × Value → H} {w : World} {base : Nat} {spare : Nat → Bool} {held : Bool} {fuel : Nat} {cs : List Value} {x : DataW H × List MemPlace}
    (h : DataW.trod enc Try.prog w base spare held fuel 26 cs = some x) : ∃ v : Ev, cs = encEv v ∧ 0 ≤ v.kind ∧ v.kind ≤ 255 := by
  obtain ⟨xs, n, _, _, hlen, hxl, hf⟩ := DataW.trod_struct Try.underlying26 h
  rw [cellsOfX26] at hlen
  match cs, hlen with
  | [c0, c1, c2, c3, c4, c5, c6, c7, c8], _ =>
    match xs, hxl with
    | [y0, y1, y2, y3, y4, y5, y6, y7, y8], _ =>
      have h0 := hf 0 ⟨"Kind", 5, 0, false, "", "", 0⟩ rfl
      have h1 := hf 1 ⟨"Id", 3, 1, false, "", "", 8⟩ rfl
      have h2 := hf 2 ⟨"Entry", 3, 2, false, "", "", 16⟩ rfl
      have h3 := hf 3 ⟨"Target", 3, 3, false, "", "", 24⟩ rfl
      have h4 := hf 4 ⟨"Date", 3, 4, false, "", "", 32⟩ rfl
      have h5 := hf 5 ⟨"Party", 9, 5, false, "", "", 40⟩ rfl
      have h6 := hf 6 ⟨"Name", 9, 6, false, "", "", 56⟩ rfl
      have h7 := hf 7 ⟨"Value", 24, 7, false, "", "", 72⟩ rfl
      have h8 := hf 8 ⟨"First", 4, 8, false, "", "", 88⟩ rfl
      simp only [cellsOfX3, cellsOfX4, cellsOfX5, cellsOfX9, cellsOfX24, List.drop_succ_cons, List.drop_zero, List.take_succ_cons, List.take_zero, List.getElem?_cons_succ, List.getElem?_cons_zero] at h0 h1 h2 h3 h4 h5 h6 h7 h8
      obtain ⟨k, e0, _, wk⟩ := DataW.trod_int Try.underlying5 h0
      obtain ⟨n1, e1, _, _⟩ := DataW.trod_int Try.underlying3 h1
      obtain ⟨n2, e2, _, _⟩ := DataW.trod_int Try.underlying3 h2
      obtain ⟨n3, e3, _, _⟩ := DataW.trod_int Try.underlying3 h3
      obtain ⟨n4, e4, _, _⟩ := DataW.trod_int Try.underlying3 h4
      obtain ⟨s5, e5, _, _⟩ := DataW.trod_string Try.underlying9 h5
      obtain ⟨s6, e6, _, _⟩ := DataW.trod_string Try.underlying9 h6
      obtain ⟨s7, e7, _, _⟩ := DataW.trod_string Try.underlying24 h7
      obtain ⟨b8, e8, _⟩ := DataW.trod_bool Try.underlying4 h8
      simp only [List.cons.injEq, and_true] at e0 e1 e2 e3 e4 e5 e6 e7 e8
      subst e0 e1 e2 e3 e4 e5 e6 e7 e8
      refine ⟨⟨k, n1, n2, n3, n4, s5, s6, s7, b8⟩, rfl, ?_⟩
      have wk' : IntKind.u8.min ≤ k ∧ k ≤ IntKind.u8.max := by simpa [Lit.wf] using wk
      exact wk'

end Go.Proofs.Ytcfgpojogomkhaa
