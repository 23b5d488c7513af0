/-
  A list of tokens that came in, opened; the law LexerBack at every list. No condition.
-/
import Derived.Test.YtnmiiimbjojcmaaDoorLzn
import Derived.Deep.Slices
import Derived.ChangeArms
import Derived.ChangeSame
import Derived.ChangeShapes
namespace Go.Proofs.YtnmiiimbjojcmaaDoor
open Go.RowKit Go.ChangeShapes Go.WideShapes Go.Deep

theorem cellsTk : Tryd.prog.cellsOf 33 = 5 := by kernel_rfl
theorem cellsInt : Tryd.prog.cellsOf 3 = 1 := by kernel_rfl
theorem cellsU8 : Tryd.prog.cellsOf 5 = 1 := by kernel_rfl
theorem cellsStr : Tryd.prog.cellsOf 9 = 1 := by kernel_rfl
theorem cellsRat : Tryd.prog.cellsOf 31 = 1 := by kernel_rfl
set_option maxRecDepth 100000 in
/-- One token, opened. -/
theorem open_token {H : Type} {enc : TypeId × Value → H} {w : World} {base : Nat} {spare : Nat → Bool} {held : Bool} {fuel : Nat} {cs : List Value} {x : DataW H × List MemPlace}
    (h : DataW.trod enc Tryd.prog w base spare held fuel 33 cs = some x) : ∃ v : Tk, cs = encTk v := by
  obtain ⟨xs, n, _, _, hlen, hxl, hf⟩ := DataW.trod_struct Tryd.underlying33 h
  rw [cellsTk] at hlen
  match cs, hlen with
  | [c0, c1, c2, c3, c4], _ =>
    match xs, hxl with
    | [y0, y1, y2, y3, y4], _ =>
      have h0 := hf 0 ⟨"Kind", 5, 0, false, "", "", 0⟩ rfl
      have h1 := hf 1 ⟨"Text", 9, 1, false, "", "", 8⟩ rfl
      have h2 := hf 2 ⟨"Rat", 31, 2, false, "", "", 24⟩ rfl
      have h3 := hf 3 ⟨"Date", 3, 3, false, "", "", 40⟩ rfl
      have h4 := hf 4 ⟨"At", 3, 4, false, "", "", 48⟩ rfl
      simp only [cellsInt, cellsU8, cellsStr, cellsRat, List.drop_succ_cons, List.drop_zero, List.take_succ_cons, List.take_zero, List.getElem?_cons_succ, List.getElem?_cons_zero] at h0 h1 h2 h3 h4
      obtain ⟨k, e0, _, _⟩ := DataW.trod_int Tryd.underlying5 h0
      obtain ⟨s1, e1, _, _⟩ := DataW.trod_string Tryd.underlying9 h1
      obtain ⟨s2, e2, _, _⟩ := DataW.trod_string Tryd.underlying31 h2
      obtain ⟨n3, e3, _, _⟩ := DataW.trod_int Tryd.underlying3 h3
      obtain ⟨n4, e4, _, _⟩ := DataW.trod_int Tryd.underlying3 h4
      simp only [List.cons.injEq, and_true] at e0 e1 e2 e3 e4
      subst e0 e1 e2 e3 e4
      exact ⟨⟨k, s1, s2, n3, n4⟩, rfl⟩

/-- What the walk is told of a slice of tokens. -/
def IsTks (w : World) (a : Option Addr) (len cap : Nat) (l : List Tk) : Prop :=
  (a = none ∧ len = 0 ∧ cap = 0) ∨ (len = 0 ∧ ∃ x, a = some x) ∨
  (1 ≤ len ∧ ∃ g o, a = some ⟨g, o, none⟩ ∧ g < w.heap.size ∧ l.length = len ∧ Tks w g o l)

theorem tkAt_of {w : World} {g o : Nat} {v : Tk} (h : ∀ j, j < 5 → w.cell? ⟨g, o + j, none⟩ = (encTk v)[j]?) : TkAt w g o v :=
  ⟨h 0 (by omega), h 1 (by omega), h 2 (by omega), h 3 (by omega), h 4 (by omega)⟩
theorem add_plainT (g o n : Nat) : (⟨g, o, none⟩ : Addr).add n = ⟨g, o + n, none⟩ := by
  unfold Addr.add
  split
  · rename_i h; subst h; rfl
  · rfl
theorem addr_plainT {w : World} {x : Addr} {v : Value} (h : w.cell? x = some v) : x.spot = none := by
  unfold World.cell? at h
  split at h
  · split at h
    · cases h
    · rename_i hs; simpa using hs
  · cases h

theorem open_tokens {H : Type} {enc : TypeId × Value → H} {w : World} {base : Nat} {spare : Nat → Bool} {held : Bool} {fuel : Nat} {a : Option Addr} {len cap : Nat} {x : DataW H × List MemPlace}
    (h : DataW.trod enc Tryd.prog w base spare held fuel 24 [.slice a len cap] = some x) : ∃ l, IsTks w a len cap l := by
  rcases open_slice Tryd.underlying24 h with ⟨hcs, _⟩ | ⟨ad, ln, cp, m, n, D, Pl, hcs, _, hl, _, hm, _, hi⟩
  · simp at hcs
    exact ⟨[], .inl hcs⟩
  · simp at hcs
    obtain ⟨rfl, rfl, rfl⟩ := hcs
    by_cases h0 : len = 0
    · exact ⟨[], .inr (.inl ⟨h0, _, rfl⟩)⟩
    · have hlm : len ≤ m := by rw [hm]; split <;> omega
      rw [cellsTk] at hi
      have hv : ∀ i, ∃ v : Tk, i < len → ∀ j, j < 5 → w.cell? ((ad.add (i * 5)).add j) = (encTk v)[j]? := fun i => by
        by_cases hil : i < len
        · obtain ⟨cs', hc, ht⟩ := hi i (by omega)
          obtain ⟨v, rfl⟩ := open_token ht
          obtain ⟨_, _, hat⟩ := World.cells?_some hc
          exact ⟨v, fun _ => hat⟩
        · exact ⟨default, fun h => absurd h hil⟩
      have hl2 : ∀ N, ∃ l : List Tk, l.length = N ∧ ∀ i, i < N → i < len → ∀ j, j < 5 → w.cell? ((ad.add (i * 5)).add j) = (encTk (l[i]?.getD default))[j]? := fun N => by
        induction N with
        | zero => exact ⟨[], rfl, fun i hi => by omega⟩
        | succ N ih =>
          obtain ⟨l, hl, hl2⟩ := ih
          obtain ⟨v, hv⟩ := hv N
          refine ⟨l ++ [v], by simp [hl], fun i hi hil => ?_⟩
          by_cases e : i = N
          · subst e
            rw [List.getElem?_append_right (by omega), hl, Nat.sub_self]
            exact hv hil
          · rw [List.getElem?_append_left (by omega)]
            exact hl2 i (by omega) hil
      obtain ⟨l, hll, hlc⟩ := hl2 len
      have hsp : ad.spot = none := by
        have := hlc 0 (by omega) (by omega) 0 (by omega)
        exact addr_plainT (x := (ad.add (0 * 5)).add 0) this
      obtain ⟨g, o, sp⟩ := ad
      subst hsp
      refine ⟨l, .inr (.inr ⟨by omega, g, o, rfl, ?_, hll, fun i hi => tkAt_of fun j hj => ?_⟩)⟩
      · have := hlc 0 (by omega) (by omega) 0 (by omega)
        exact cell_lt (a := (((⟨g, o, none⟩ : Addr).add (0 * 5)).add 0)) this
      · have := hlc i (by omega) (by omega) j hj
        rwa [add_plainT, add_plainT] at this

theorem back_any (a : Option Addr) (len cap : Nat) (l : List Tk) (w : World) (h : IsTks w a len cap l) :
    Calls Tryd.prog 8 #[.slice a len cap] w (BelB w true) := by
  rcases h with ⟨rfl, rfl, rfl⟩ | ⟨rfl, x, rfl⟩ | ⟨h1, g, o, rfl, hg, hl, hE⟩
  · exact back_zero none 0 w
  · exact back_zero (some x) cap w
  · by_cases hs : 300 < len
    · exact back_great _ len cap w hs
    · exact back_some g o len cap l w hl (by omega) h1 hg hE

end Go.Proofs.YtnmiiimbjojcmaaDoor
