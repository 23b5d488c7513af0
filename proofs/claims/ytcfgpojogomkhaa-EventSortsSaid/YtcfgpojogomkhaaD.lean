/-
  slices.Clone and Sort over events.
-/
import Derived.Test.YtcfgpojogomkhaaC
namespace Go.Proofs.Ytcfgpojogomkhaa
open Go.RowKit Go.Shelf Go.Sort

def zeroEv : Value := .agg #[.int .u8 0, .int .i64 0, .int .i64 0, .int .i64 0, .int .i64 0, .string ByteArray.empty, .string ByteArray.empty, .string ByteArray.empty, .bool false]
theorem Try.info26 : (Try.prog.info? 26).map (fun i => (i.zero, i.size, i.bytes)) = some (some zeroEv, 9, 96) := by kernel_rfl
theorem info_partsN {P : Program} {e : TypeId} {z : Value} {s b : Nat} (h : (P.info? e).map (fun i => (i.zero, i.size, i.bytes)) = some (some z, s, b)) : ∃ i, P.info? e = some i ∧ i.zero = some z ∧ i.size = s ∧ i.bytes = b := by
  obtain ⟨i, hi, he⟩ := Option.map_eq_some_iff.1 h
  simp only [Prod.mk.injEq] at he
  exact ⟨i, hi, he.1, he.2.1, he.2.2⟩
theorem rowAtN_of_owns {w : World} {base size : Nat} {e : TypeId} {v : Value} {n : Nat} {xs : List Value} (h : w.ownsRow base e size v n xs) :
    (v = .slice none 0 0 ∧ n = 0 ∧ xs = []) ∨ ∃ g cap, v = .slice (some ⟨g, 0, none⟩) n cap ∧ base ≤ g ∧ n ≤ cap ∧ cap ≤ maxLen ∧ xs.length = n * size ∧ RowAt w g e xs := by
  obtain ⟨h1, h2⟩ := h
  rcases h2 with ⟨rfl, rfl⟩ | ⟨g, cap, cur, rfl, hb, hg, hn, hm, hs, ht⟩
  · exact .inl ⟨rfl, rfl, List.eq_nil_of_length_eq_zero (by simpa using h1)⟩
  · have hle : n * size ≤ cap * size := Nat.mul_le_mul_right _ hn
    refine .inr ⟨g, cap, rfl, hb, hn, hm, h1, cur, hg, by omega, fun i hi => ?_⟩
    rw [← ht, List.getElem?_take_of_lt (by omega)]
    simp
theorem evs_one (l : List Ev) : ∀ u ∈ evs l, u.oneCell' = true := by
  intro u hu
  simp only [evs, List.mem_flatMap, encEv] at hu
  obtain ⟨x, _, hx⟩ := hu
  simp only [List.mem_cons, List.not_mem_nil, or_false] at hx
  rcases hx with rfl | rfl | rfl | rfl | rfl | rfl | rfl | rfl | rfl <;> rfl
/-- Cell by cell, from a list of events that lies anywhere. -/
theorem evs_cell {w : World} {g o : Nat} {l : List Ev} (h : Evs w g o l) (j : Nat) (u : Value) (hj : (evs l)[j]? = some u) : w.cell? ⟨g, o + j, none⟩ = some u := by
  have hl := (List.getElem?_eq_some_iff.1 hj).1
  rw [evs_length] at hl
  have e : j = j / 9 * 9 + j % 9 := by omega
  have hi : j / 9 < l.length := by omega
  rw [e, evs_get l (j / 9) (j % 9) hi (by omega)] at hj
  obtain ⟨a0, a1, a2, a3, a4, a5, a6, a7, a8⟩ := h (j / 9) hi
  have hm : j % 9 < 9 := by omega
  rw [e, ← Nat.add_assoc]
  generalize j % 9 = m at *
  generalize l[j / 9]?.getD default = x at *
  match m, hm with
  | 0, _ => simp [encEv] at hj; rw [← hj]; exact a0
  | 1, _ => simp [encEv] at hj; rw [← hj]; exact a1
  | 2, _ => simp [encEv] at hj; rw [← hj]; exact a2
  | 3, _ => simp [encEv] at hj; rw [← hj]; exact a3
  | 4, _ => simp [encEv] at hj; rw [← hj]; exact a4
  | 5, _ => simp [encEv] at hj; rw [← hj]; exact a5
  | 6, _ => simp [encEv] at hj; rw [← hj]; exact a6
  | 7, _ => simp [encEv] at hj; rw [← hj]; exact a7
  | 8, _ => simp [encEv] at hj; rw [← hj]; exact a8

set_option maxHeartbeats 1000000 in
theorem clone_some (g o n c : Nat) (l : List Ev) (w : World) (hl : l.length = n) (hn : n ≤ 1000000) (hn1 : 1 ≤ n) (hg : g < w.heap.size) (h : Evs w g o l) :
    Calls Try.prog 13 #[.slice (some ⟨g, o, none⟩) n c] w fun e w' => ∃ g' cap, e = .returned (.slice (some ⟨g', 0, none⟩) n cap) ∧ w.heap.size ≤ g' ∧ RowAt w' g' 26 (evs l) ∧ Below w.heap.size w w' := by
  obtain ⟨i0, hi, hz0, hz1, hz2⟩ := info_partsN Try.info26
  have q22 : ∀ (w : World) (a : Option Addr) (n c n' c' : Nat), (binOp .eql 22 (.slice a n c) (.slice none n' c')).run Try.prog w = .ok (.bool a.isNone) w := fun w a n c n' c' => Lib.run_eql_slice_nil w _ _ a n c n' c' Try.underlying22
  have HL := Lib.hid hl
  have H := Lib.hid h
  have hlit : (w.alloc (.cells #[] 26)).ownsRow w.heap.size 26 9 (.slice (some ⟨w.heap.size, 0, none⟩) 0 0) 0 [] := World.ownsRow_lit w #[] 0 (Nat.le_refl _) (by unfold maxLen; omega) (by simp)
  clear hl h
  go_enter Try.func13, Try.ntmps13
  go_wp2_with (at_builtin; refine wpList_append_own _ rfl (.tmp 5) (.tmp 6) 22 rfl w.heap.size 26 i0 zeroEv 9 96 Try.underlying22 hi hz0 hz1 hz2 rfl (by decide) _ _ _ rfl hlit ⟨g, o, none⟩ n c (evs l) rfl ?c0 ?c1 ?c2 ?c3 ?c4 ?c5 ?_)
  case c0 => rw [evs_length, HL.out]
  case c1 =>
    intro j u hj
    rw [show (⟨g, o, none⟩ : Addr).add j = ⟨g, o + j, none⟩ by simp [Addr.add], World.cell?_alloc_past _ _ _ (by show g < _; omega)]
    exact evs_cell H.out j u hj
  case c2 => exact evs_one l
  case c3 => unfold maxLen; omega
  case c4 => omega
  case c5 => simp
  intro v7 w1 ho hgr _
  have n1 : Below w.heap.size w w1 := ((Below.refl _ _).alloc (Nat.le_refl _) _).grown hgr (by simp) (fun k hk => by simp [Value.ownBlock] at hk; omega)
  have h7 : ∃ g7 c7, v7 = .slice (some ⟨g7, 0, none⟩) n c7 ∧ w.heap.size ≤ g7 ∧ RowAt w1 g7 26 (evs l) := by
    rcases rowAtN_of_owns ho with ⟨_, h, _⟩ | ⟨g, cap, h, h1, h2, h3, h4, h5⟩
    · omega
    · exact ⟨g, cap, h, h1, by simpa using h5⟩
  obtain ⟨g7, c7, rfl, hg7, r7⟩ := h7
  clear ho hgr hlit q22
  go_wp2_with fail
  go_ret
  exact ⟨g7, c7, rfl, hg7, r7, n1⟩

end Go.Proofs.Ytcfgpojogomkhaa
