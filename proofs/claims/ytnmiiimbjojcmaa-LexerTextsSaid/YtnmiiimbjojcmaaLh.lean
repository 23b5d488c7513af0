/-
  The law LexerTexts at every list; a list of tokens that came in, opened. No condition.
-/
import Derived.Test.YtnmiiimbjojcmaaLg
import Derived.Deep.Slices
import Derived.ChangeArms
import Derived.ChangeSame
import Derived.ChangeShapes
namespace Go.Proofs.Ytnmiiimbjojcmaa
open Go.RowKit Go.ChangeShapes Go.WideShapes Go.Deep

set_option maxHeartbeats 1000000 in
set_option maxRecDepth 100000 in
theorem law_great (a : Option Addr) (n c : Nat) (w : World) (hn : 300 < n) :
    Calls Try.prog 3 #[.slice a n c] w (BelB w true) := by
  have HG := Lib.hid (fun W => great_yes a n c W hn)
  go_enter Try.func3, Try.ntmps3
  go_wp2_with fail
  refine (HG.out _).mono ?_
  rintro e w' ⟨rfl, rfl⟩
  go_wp2_with fail
  go_ret
  exact ⟨rfl, Below.refl _ _⟩

set_option maxHeartbeats 2000000 in
set_option maxRecDepth 100000 in
theorem law_nil (c : Nat) (w : World) :
    Calls Try.prog 3 #[.slice none 0 c] w (BelB w true) := by
  obtain ⟨i0, hi, hz0, hz1, hz2⟩ := info_partsN infoTk
  have hlit : (w.alloc (.cells #[] 29)).ownsRow w.heap.size 29 5 (.slice (some ⟨w.heap.size, 0, none⟩) 0 0) 0 [] := World.ownsRow_lit w #[] 0 (Nat.le_refl _) (by unfold maxLen; omega) (by simp)
  have HG := Lib.hid (fun W => great_zero none c W)
  go_enter Try.func3, Try.ntmps3
  go_wp2_with fail
  refine (HG.out _).mono ?_
  rintro e w' ⟨rfl, rfl⟩
  go_wp2_with (at_builtin; refine wpList_append_own_none rfl (.tmp 15) (.tmp 16) 22 rfl w.heap.size 29 i0 5 Try.underlying22 hi _ _ _ rfl hlit rfl ?_)
  obtain ⟨w2, hw2⟩ : ∃ w2, w2 = w.alloc (.cells #[] 29) := ⟨_, rfl⟩
  have B2 : Hid (Below w.heap.size w w2) := by rw [hw2]; exact own_below _ _
  obtain ⟨a7, ha7⟩ : ∃ a, a = some (⟨w.heap.size, 0, none⟩ : Addr) := ⟨_, rfl⟩
  rw [← hw2, ← ha7]
  clear hlit hw2 ha7
  go_wp2_with fail
  refine wp_loop_rounds 1 ?_
  rw [rounds_succ]
  go_wp2_with fail
  refine (join_zero none c w2).mono ?_
  rintro e w3 ⟨rfl, b3⟩
  have B3 := Lib.hid (B2.out.trans (b3.mono B2.out.size))
  clear b3
  go_wp2_with fail
  refine (rjoin_zero none c w3).mono ?_
  rintro e w4 ⟨rfl, b4⟩
  have B4 := Lib.hid (B3.out.trans (b4.mono B3.out.size))
  clear b4
  go_wp2_with fail
  refine (same_zero none a7 c 0 w4).mono ?_
  rintro e w5 ⟨rfl, b5⟩
  have B5 := Lib.hid (B4.out.trans (b5.mono B4.out.size))
  clear b5
  go_wp2_with fail
  go_ret
  exact ⟨rfl, B5.out⟩

set_option maxHeartbeats 2000000 in
set_option maxRecDepth 100000 in
theorem law_zero (x : Addr) (c : Nat) (w : World) :
    Calls Try.prog 3 #[.slice (some x) 0 c] w (BelB w true) := by
  obtain ⟨i0, hi, hz0, hz1, hz2⟩ := info_partsN infoTk
  have hlit : (w.alloc (.cells #[] 29)).ownsRow w.heap.size 29 5 (.slice (some ⟨w.heap.size, 0, none⟩) 0 0) 0 [] := World.ownsRow_lit w #[] 0 (Nat.le_refl _) (by unfold maxLen; omega) (by simp)
  have HG := Lib.hid (fun W => great_zero (some x) c W)
  go_enter Try.func3, Try.ntmps3
  go_wp2_with fail
  refine (HG.out _).mono ?_
  rintro e w' ⟨rfl, rfl⟩
  go_wp2_with (at_builtin; refine wpList_append_own _ rfl (.tmp 15) (.tmp 16) 22 rfl w.heap.size 29 i0 zeroTk 5 56 Try.underlying22 hi hz0 hz1 hz2 rfl (by decide) _ _ _ rfl hlit x 0 c [] rfl ?c0 ?c1 ?c2 ?c3 ?c4 ?c5 ?_)
  case c0 => rfl
  case c1 => intro j u hj; simp at hj
  case c2 => intro u hu; simp at hu
  case c3 => unfold maxLen; omega
  case c4 => omega
  case c5 => simp
  intro v7 w2 ho hgr _
  have B2 : Hid (Below w.heap.size w w2) := ((Below.refl _ _).alloc (Nat.le_refl _) _).grown hgr (by simp) (fun k hk => by simp [Value.ownBlock] at hk; omega)
  have h7 : ∃ a7 c7, v7 = .slice a7 0 c7 := by
    rcases rowAtN_of_owns ho with ⟨h, _, _⟩ | ⟨g, cap, h, _⟩
    · exact ⟨_, _, h⟩
    · exact ⟨_, _, h⟩
  obtain ⟨a7, c7, rfl⟩ := h7
  clear ho hgr hlit hi hz0 hz1 hz2
  go_wp2_with fail
  refine wp_loop_rounds 1 ?_
  rw [rounds_succ]
  go_wp2_with fail
  refine (join_zero (some x) c w2).mono ?_
  rintro e w3 ⟨rfl, b3⟩
  have B3 := Lib.hid (B2.out.trans (b3.mono B2.out.size))
  clear b3
  go_wp2_with fail
  refine (rjoin_zero (some x) c w3).mono ?_
  rintro e w4 ⟨rfl, b4⟩
  have B4 := Lib.hid (B3.out.trans (b4.mono B3.out.size))
  clear b4
  go_wp2_with fail
  refine (same_zero (some x) a7 c c7 w4).mono ?_
  rintro e w5 ⟨rfl, b5⟩
  have B5 := Lib.hid (B4.out.trans (b5.mono B4.out.size))
  clear b5
  go_wp2_with fail
  go_ret
  exact ⟨rfl, B5.out⟩

theorem cellsTk : Try.prog.cellsOf 29 = 5 := by kernel_rfl
theorem cellsInt : Try.prog.cellsOf 3 = 1 := by kernel_rfl
theorem cellsU8 : Try.prog.cellsOf 5 = 1 := by kernel_rfl
theorem cellsStr : Try.prog.cellsOf 9 = 1 := by kernel_rfl
theorem cellsRat : Try.prog.cellsOf 27 = 1 := by kernel_rfl
set_option maxRecDepth 100000 in
/-- One token, opened. -/
theorem open_token {H : Type} {enc : TypeId × Value → H} {w : World} {base : Nat} {spare : Nat → Bool} {held : Bool} {fuel : Nat} {cs : List Value} {x : DataW H × List MemPlace}
    (h : DataW.trod enc Try.prog w base spare held fuel 29 cs = some x) : ∃ v : Tk, cs = encTk v := by
  obtain ⟨xs, n, _, _, hlen, hxl, hf⟩ := DataW.trod_struct Try.underlying29 h
  rw [cellsTk] at hlen
  match cs, hlen with
  | [c0, c1, c2, c3, c4], _ =>
    match xs, hxl with
    | [y0, y1, y2, y3, y4], _ =>
      have h0 := hf 0 ⟨"Kind", 5, 0, false, "", "", 0⟩ rfl
      have h1 := hf 1 ⟨"Text", 9, 1, false, "", "", 8⟩ rfl
      have h2 := hf 2 ⟨"Rat", 27, 2, false, "", "", 24⟩ rfl
      have h3 := hf 3 ⟨"Date", 3, 3, false, "", "", 40⟩ rfl
      have h4 := hf 4 ⟨"At", 3, 4, false, "", "", 48⟩ rfl
      simp only [cellsInt, cellsU8, cellsStr, cellsRat, List.drop_succ_cons, List.drop_zero, List.take_succ_cons, List.take_zero, List.getElem?_cons_succ, List.getElem?_cons_zero] at h0 h1 h2 h3 h4
      obtain ⟨k, e0, _, _⟩ := DataW.trod_int Try.underlying5 h0
      obtain ⟨s1, e1, _, _⟩ := DataW.trod_string Try.underlying9 h1
      obtain ⟨s2, e2, _, _⟩ := DataW.trod_string Try.underlying27 h2
      obtain ⟨n3, e3, _, _⟩ := DataW.trod_int Try.underlying3 h3
      obtain ⟨n4, e4, _, _⟩ := DataW.trod_int Try.underlying3 h4
      simp only [List.cons.injEq, and_true] at e0 e1 e2 e3 e4
      subst e0 e1 e2 e3 e4
      exact ⟨⟨k, s1, s2, n3, n4⟩, rfl⟩

/-- What the walk is told of a slice of tokens. -/
def IsTks (w : World) (a : Option Addr) (len cap : Nat) (l : List Tk) : Prop :=
  (a = none ∧ len = 0 ∧ cap = 0) ∨ (len = 0 ∧ ∃ x, a = some x) ∨
  (1 ≤ len ∧ ∃ g o, a = some ⟨g, o, none⟩ ∧ g < w.heap.size ∧ l.length = len ∧ Tks w g o l)

theorem tkAt_of {w : World} {g o : Nat} {v : Tk} (h : ∀ j, j < 5 → w.cell? ⟨g, o + j, none⟩ = (encTk v)[j]?) : TkAt w g o v :=
  ⟨h 0 (by omega), h 1 (by omega), h 2 (by omega), h 3 (by omega), h 4 (by omega)⟩
theorem add_plainT (g o n : Nat) : (⟨g, o, none⟩ : Addr).add n = ⟨g, o + n, none⟩ := by
  unfold Addr.add
  split
  · rename_i h; subst h; rfl
  · rfl
theorem addr_plainT {w : World} {x : Addr} {v : Value} (h : w.cell? x = some v) : x.spot = none := by
  unfold World.cell? at h
  split at h
  · split at h
    · cases h
    · rename_i hs; simpa using hs
  · cases h

theorem open_tokens {H : Type} {enc : TypeId × Value → H} {w : World} {base : Nat} {spare : Nat → Bool} {held : Bool} {fuel : Nat} {a : Option Addr} {len cap : Nat} {x : DataW H × List MemPlace}
    (h : DataW.trod enc Try.prog w base spare held fuel 22 [.slice a len cap] = some x) : ∃ l, IsTks w a len cap l := by
  rcases open_slice Try.underlying22 h with ⟨hcs, _⟩ | ⟨ad, ln, cp, m, n, D, Pl, hcs, _, hl, _, hm, _, hi⟩
  · simp at hcs
    exact ⟨[], .inl hcs⟩
  · simp at hcs
    obtain ⟨rfl, rfl, rfl⟩ := hcs
    by_cases h0 : len = 0
    · exact ⟨[], .inr (.inl ⟨h0, _, rfl⟩)⟩
    · have hlm : len ≤ m := by rw [hm]; split <;> omega
      rw [cellsTk] at hi
      have hv : ∀ i, ∃ v : Tk, i < len → ∀ j, j < 5 → w.cell? ((ad.add (i * 5)).add j) = (encTk v)[j]? := fun i => by
        by_cases hil : i < len
        · obtain ⟨cs', hc, ht⟩ := hi i (by omega)
          obtain ⟨v, rfl⟩ := open_token ht
          obtain ⟨_, _, hat⟩ := World.cells?_some hc
          exact ⟨v, fun _ => hat⟩
        · exact ⟨default, fun h => absurd h hil⟩
      have hl2 : ∀ N, ∃ l : List Tk, l.length = N ∧ ∀ i, i < N → i < len → ∀ j, j < 5 → w.cell? ((ad.add (i * 5)).add j) = (encTk (l[i]?.getD default))[j]? := fun N => by
        induction N with
        | zero => exact ⟨[], rfl, fun i hi => by omega⟩
        | succ N ih =>
          obtain ⟨l, hl, hl2⟩ := ih
          obtain ⟨v, hv⟩ := hv N
          refine ⟨l ++ [v], by simp [hl], fun i hi hil => ?_⟩
          by_cases e : i = N
          · subst e
            rw [List.getElem?_append_right (by omega), hl, Nat.sub_self]
            exact hv hil
          · rw [List.getElem?_append_left (by omega)]
            exact hl2 i (by omega) hil
      obtain ⟨l, hll, hlc⟩ := hl2 len
      have hsp : ad.spot = none := by
        have := hlc 0 (by omega) (by omega) 0 (by omega)
        exact addr_plainT (x := (ad.add (0 * 5)).add 0) this
      obtain ⟨g, o, sp⟩ := ad
      subst hsp
      refine ⟨l, .inr (.inr ⟨by omega, g, o, rfl, ?_, hll, fun i hi => tkAt_of fun j hj => ?_⟩)⟩
      · have := hlc 0 (by omega) (by omega) 0 (by omega)
        exact cell_lt (a := (((⟨g, o, none⟩ : Addr).add (0 * 5)).add 0)) this
      · have := hlc i (by omega) (by omega) j hj
        rwa [add_plainT, add_plainT] at this

theorem law_any (a : Option Addr) (len cap : Nat) (l : List Tk) (w : World) (h : IsTks w a len cap l) :
    Calls Try.prog 3 #[.slice a len cap] w (BelB w true) := by
  rcases h with ⟨rfl, rfl, rfl⟩ | ⟨rfl, x, rfl⟩ | ⟨h1, g, o, rfl, hg, hl, hE⟩
  · exact law_nil 0 w
  · exact law_zero x cap w
  · by_cases hs : 300 < len
    · exact law_great _ len cap w hs
    · exact law_some g o len cap l w hl (by omega) h1 hg hE

end Go.Proofs.Ytnmiiimbjojcmaa
