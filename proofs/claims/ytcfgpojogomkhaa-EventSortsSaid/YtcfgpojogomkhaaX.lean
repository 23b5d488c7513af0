/-
  A slice of events that came in, opened; the law at whatever came. No condition.
-/
import Derived.Test.YtcfgpojogomkhaaJ
import Derived.Deep.Slices
import Derived.ChangeArms
import Derived.ChangeSame
import Derived.ChangeShapes
namespace Go.Proofs.Ytcfgpojogomkhaa
open Go.RowKit Go.ChangeShapes Go.WideShapes Go.Deep

theorem cellsOf26 : Try.prog.cellsOf 26 = 9 := by kernel_rfl
theorem cellsOf3 : Try.prog.cellsOf 3 = 1 := by kernel_rfl
theorem cellsOf4 : Try.prog.cellsOf 4 = 1 := by kernel_rfl
theorem cellsOf5 : Try.prog.cellsOf 5 = 1 := by kernel_rfl
theorem cellsOf9 : Try.prog.cellsOf 9 = 1 := by kernel_rfl
theorem cellsOf24 : Try.prog.cellsOf 24 = 1 := by kernel_rfl
set_option maxRecDepth 100000 in
/-- One event, opened. -/
theorem open_event {H : Type} {enc : TypeId × Value → H} {w : World} {base : Nat} {spare : Nat → Bool} {held : Bool} {fuel : Nat} {cs : List Value} {x : DataW H × List MemPlace}
    (h : DataW.trod enc Try.prog w base spare held fuel 26 cs = some x) : ∃ v : Ev, cs = encEv v ∧ 0 ≤ v.kind ∧ v.kind ≤ 255 := by
  obtain ⟨xs, n, _, _, hlen, hxl, hf⟩ := DataW.trod_struct Try.underlying26 h
  rw [cellsOf26] at hlen
  match cs, hlen with
  | [c0, c1, c2, c3, c4, c5, c6, c7, c8], _ =>
    match xs, hxl with
    | [y0, y1, y2, y3, y4, y5, y6, y7, y8], _ =>
      have h0 := hf 0 ⟨"Kind", 5, 0, false, "", "", 0⟩ rfl
      have h1 := hf 1 ⟨"Id", 3, 1, false, "", "", 8⟩ rfl
      have h2 := hf 2 ⟨"Entry", 3, 2, false, "", "", 16⟩ rfl
      have h3 := hf 3 ⟨"Target", 3, 3, false, "", "", 24⟩ rfl
      have h4 := hf 4 ⟨"Date", 3, 4, false, "", "", 32⟩ rfl
      have h5 := hf 5 ⟨"Party", 9, 5, false, "", "", 40⟩ rfl
      have h6 := hf 6 ⟨"Name", 9, 6, false, "", "", 56⟩ rfl
      have h7 := hf 7 ⟨"Value", 24, 7, false, "", "", 72⟩ rfl
      have h8 := hf 8 ⟨"First", 4, 8, false, "", "", 88⟩ rfl
      simp only [cellsOf3, cellsOf4, cellsOf5, cellsOf9, cellsOf24, List.drop_succ_cons, List.drop_zero, List.take_succ_cons, List.take_zero, List.getElem?_cons_succ, List.getElem?_cons_zero] at h0 h1 h2 h3 h4 h5 h6 h7 h8
      obtain ⟨k, e0, _, wk⟩ := DataW.trod_int Try.underlying5 h0
      obtain ⟨n1, e1, _, _⟩ := DataW.trod_int Try.underlying3 h1
      obtain ⟨n2, e2, _, _⟩ := DataW.trod_int Try.underlying3 h2
      obtain ⟨n3, e3, _, _⟩ := DataW.trod_int Try.underlying3 h3
      obtain ⟨n4, e4, _, _⟩ := DataW.trod_int Try.underlying3 h4
      obtain ⟨s5, e5, _, _⟩ := DataW.trod_string Try.underlying9 h5
      obtain ⟨s6, e6, _, _⟩ := DataW.trod_string Try.underlying9 h6
      obtain ⟨s7, e7, _, _⟩ := DataW.trod_string Try.underlying24 h7
      obtain ⟨b8, e8, _⟩ := DataW.trod_bool Try.underlying4 h8
      simp only [List.cons.injEq, and_true] at e0 e1 e2 e3 e4 e5 e6 e7 e8
      subst e0 e1 e2 e3 e4 e5 e6 e7 e8
      refine ⟨⟨k, n1, n2, n3, n4, s5, s6, s7, b8⟩, rfl, ?_⟩
      have wk' : IntKind.u8.min ≤ k ∧ k ≤ IntKind.u8.max := by simpa [Lit.wf] using wk
      exact wk'

/-- What the walk is told of a slice of events. -/
def IsEvs (w : World) (a : Option Addr) (len cap : Nat) (l : List Ev) : Prop :=
  (a = none ∧ len = 0 ∧ cap = 0) ∨ (len = 0 ∧ ∃ x, a = some x) ∨
  (1 ≤ len ∧ ∃ g o, a = some ⟨g, o, none⟩ ∧ g < w.heap.size ∧ l.length = len ∧ Evs w g o l ∧ ∀ x ∈ l, 0 ≤ x.kind ∧ x.kind ≤ 255)

theorem evAt_of {w : World} {g o : Nat} {v : Ev} (h : ∀ j, j < 9 → w.cell? ⟨g, o + j, none⟩ = (encEv v)[j]?) : EvAt w g o v :=
  ⟨h 0 (by omega), h 1 (by omega), h 2 (by omega), h 3 (by omega), h 4 (by omega), h 5 (by omega), h 6 (by omega), h 7 (by omega), h 8 (by omega)⟩
theorem add_plain (g o n : Nat) : (⟨g, o, none⟩ : Addr).add n = ⟨g, o + n, none⟩ := by
  unfold Addr.add
  split
  · rename_i h; subst h; rfl
  · rfl
theorem addr_plain {w : World} {x : Addr} {v : Value} (h : w.cell? x = some v) : x.spot = none := by
  unfold World.cell? at h
  split at h
  · split at h
    · cases h
    · rename_i hs; simpa using hs
  · cases h

theorem open_events {H : Type} {enc : TypeId × Value → H} {w : World} {base : Nat} {spare : Nat → Bool} {held : Bool} {fuel : Nat} {a : Option Addr} {len cap : Nat} {x : DataW H × List MemPlace}
    (h : DataW.trod enc Try.prog w base spare held fuel 22 [.slice a len cap] = some x) : ∃ l, IsEvs w a len cap l := by
  rcases open_slice Try.underlying22 h with ⟨hcs, _⟩ | ⟨ad, ln, cp, m, n, D, Pl, hcs, _, hl, _, hm, _, hi⟩
  · simp at hcs
    exact ⟨[], .inl hcs⟩
  · simp at hcs
    obtain ⟨rfl, rfl, rfl⟩ := hcs
    by_cases h0 : len = 0
    · exact ⟨[], .inr (.inl ⟨h0, _, rfl⟩)⟩
    · have hlm : len ≤ m := by rw [hm]; split <;> omega
      rw [cellsOf26] at hi
      have hv : ∀ i, ∃ v : Ev, i < len → (0 ≤ v.kind ∧ v.kind ≤ 255) ∧ ∀ j, j < 9 → w.cell? ((ad.add (i * 9)).add j) = (encEv v)[j]? := fun i => by
        by_cases hil : i < len
        · obtain ⟨cs', hc, ht⟩ := hi i (by omega)
          obtain ⟨v, rfl, hk⟩ := open_event ht
          obtain ⟨_, _, hat⟩ := World.cells?_some hc
          exact ⟨v, fun _ => ⟨hk, hat⟩⟩
        · exact ⟨default, fun h => absurd h hil⟩
      have hl2 : ∀ N, ∃ l : List Ev, l.length = N ∧ ∀ i, i < N → i < len → (0 ≤ (l[i]?.getD default).kind ∧ (l[i]?.getD default).kind ≤ 255) ∧ ∀ j, j < 9 → w.cell? ((ad.add (i * 9)).add j) = (encEv (l[i]?.getD default))[j]? := fun N => by
        induction N with
        | zero => exact ⟨[], rfl, fun i hi => by omega⟩
        | succ N ih =>
          obtain ⟨l, hl, hl2⟩ := ih
          obtain ⟨v, hv⟩ := hv N
          refine ⟨l ++ [v], by simp [hl], fun i hi hil => ?_⟩
          by_cases e : i = N
          · subst e
            rw [List.getElem?_append_right (by omega), hl, Nat.sub_self]
            exact hv hil
          · rw [List.getElem?_append_left (by omega)]
            exact hl2 i (by omega) hil
      obtain ⟨l, hll, hlc⟩ := hl2 len
      have hsp : ad.spot = none := by
        have := (hlc 0 (by omega) (by omega)).2 0 (by omega)
        exact addr_plain (x := (ad.add (0 * 9)).add 0) this
      obtain ⟨g, o, sp⟩ := ad
      subst hsp
      refine ⟨l, .inr (.inr ⟨by omega, g, o, rfl, ?_, hll, fun i hi => evAt_of fun j hj => ?_, fun y hy => ?_⟩)⟩
      · have := (hlc 0 (by omega) (by omega)).2 0 (by omega)
        exact cell_lt (a := (((⟨g, o, none⟩ : Addr).add (0 * 9)).add 0)) this
      · have := (hlc i (by omega) (by omega)).2 j hj
        rwa [add_plain, add_plain] at this
      · obtain ⟨i, hi, rfl⟩ := List.getElem_of_mem hy
        have := (hlc i (by omega) (by omega)).1
        rwa [List.getElem?_eq_getElem hi] at this

theorem law_any (a : Option Addr) (len cap : Nat) (l : List Ev) (w : World) (h : IsEvs w a len cap l) :
    Calls Try.prog 3 #[.slice a len cap] w fun e w' => e = .returned (.bool true) ∧ Below w.heap.size w w' := by
  rcases h with ⟨rfl, rfl, rfl⟩ | ⟨rfl, x, rfl⟩ | ⟨h1, g, o, rfl, hg, hl, hE, hk⟩
  · exact law_nil 0 w
  · exact law_zero x cap w
  · by_cases hs : (100 < len ∧ len ≤ 1000) ∨ 1100 < len
    · exact law_skip _ len cap w hs
    · by_cases h2 : len ≤ 100
      · exact law_small g o len cap l w hl h2 h1 hg hE hk
      · exact law_big g o len cap l w hl (by omega) (by omega) hg hE

end Go.Proofs.Ytcfgpojogomkhaa
