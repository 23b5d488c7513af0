/-
  event.Sort: the copy, sorted by the shelf's SortFunc. No condition.
-/
import Derived.Test.YtcfgpojogomkhaaD
namespace Go.Proofs.Ytcfgpojogomkhaa
open Go.RowKit Go.Shelf Go.Sort

theorem flat_evs (d : Array Ev) (j : Nat) (hj : j < d.size * 9) : (evs d.toList)[j]? = some ((flatK encEv 9 d)[j]!) := by
  have h9 := Nat.div_add_mod j 9
  have e : j = j / 9 * 9 + j % 9 := by omega
  have hi : j / 9 < d.toList.length := by simp; omega
  have hm : j % 9 < 9 := by omega
  rw [get_flatK _ _ _ _ hj]
  conv => lhs; rw [e]
  rw [evs_get d.toList (j / 9) (j % 9) hi hm]
  have hx : d.toList[j / 9]?.getD default = d[j / 9]! := by
    rw [Array.getElem?_toList, getElem!_def]; cases d[j / 9]? <;> rfl
  rw [hx]
  have hl : j % 9 < (encEv d[j / 9]!).length := by rw [encEv_length]; omega
  rw [List.getElem?_eq_getElem hl]
  exact congrArg some (getElem!_pos (encEv d[j / 9]!) (j % 9) hl).symm
theorem holds_of_row {w : World} {g : Nat} {t : TypeId} {l : List Ev} (h : RowAt w g t (evs l)) : HoldsK encEv 9 w g 0 l.toArray := by
  intro j hj
  rw [size_flatK] at hj
  have hj' : j < (evs l).length := by rw [evs_length]; simpa using hj
  rw [Nat.zero_add]
  refine ⟨?_, h.frozen j⟩
  rw [h.cell hj']
  exact flat_evs l.toArray j hj
theorem rowAt_of_cells {w : World} {g : Nat} {t : TypeId} {l : List Value} {c : Array Value} (hg : w.heap[g]? = some (.cells c t (0, 0))) (h : ∀ i, i < l.length → w.cell? ⟨g, i, none⟩ = l[i]?) : RowAt w g t l := by
  have hc : ∀ i, i < l.length → c[i]? = l[i]? := fun i hi => by
    rw [← h i hi]; simp [World.cell?, hg]
  refine ⟨c, hg, ?_, hc⟩
  by_cases e : l.length = 0
  · omega
  · have := hc (l.length - 1) (by omega)
    rw [List.getElem?_eq_getElem (by omega)] at this
    have := (Array.getElem?_eq_some_iff.1 this).1
    omega
theorem heap_sortK (w : World) (g off n : Nat) (d : Array Ev) (os : Array Obj) (hg : g < w.heap.size) (c : Array Value) (t : TypeId) (h : w.heap[g]? = some (.cells c t (0, 0))) : ∃ c', (sortWorldK encEv 9 w g off n d os).heap[g]? = some (.cells c' t (0, 0)) := by
  refine ⟨putCells id off (flatK encEv 9 d) c, ?_⟩
  show (((w.heap.modify g (onCells (putCells id off (flatK encEv 9 d)))) ++ os)[g]?) = _
  rw [Array.getElem?_append_left (by simpa using hg), Array.getElem?_modify, if_pos rfl, h]
  rfl
theorem only_sortK (w : World) (g off n : Nat) (d : Array Ev) (os : Array Obj) : w.grownBy (sortWorldK encEv 9 w g off n d os) (some g) := by
  refine ⟨rfl, rfl, rfl, ?_, fun i hi hne => ?_⟩
  · show _ ≤ ((w.heap.modify g (onCells (putCells id off (flatK encEv 9 d)))) ++ os).size
    simp
  · show (((w.heap.modify g (onCells (putCells id off (flatK encEv 9 d)))) ++ os)[i]?) = _
    rw [Array.getElem?_append_left (by simpa using hi), Array.getElem?_modify, if_neg (fun e => hne (by rw [e]))]
theorem row_of_sort {w : World} {g : Nat} {t : TypeId} {l m : List Ev} (h : RowAt w g t (evs l)) (hm : m.length = l.length) (n : Nat) (os : Array Obj) : RowAt (sortWorldK encEv 9 w g 0 n m.toArray os) g t (evs m) := by
  have hH := holdsK_sortWorldK_c encEv 9 w g 0 l.toArray m.toArray n os (holds_of_row h) h.lt (by simpa using hm)
  obtain ⟨c, hc, _, _⟩ := h
  obtain ⟨c', hc'⟩ := heap_sortK w g 0 n m.toArray os (Array.getElem?_eq_some_iff.1 hc).1 c t hc
  refine rowAt_of_cells hc' fun i hi => ?_
  have hi' : i < m.toArray.size * 9 := by rw [evs_length] at hi; simpa using hi
  have := (hH i (by rw [size_flatK]; exact hi')).1
  rw [Nat.zero_add] at this
  rw [this, flat_evs m.toArray i hi']
  rfl
theorem aggArr (x : Ev) : Value.agg (encEv x).toArray = aggEv x := rfl
theorem three_grow (w : World) (o1 o2 o3 : Obj) : ((w.alloc o1).alloc o2).drew.alloc o3 = grow (w.drewN 1) #[o1, o2, o3] := by
  cases w
  simp [World.alloc, grow, World.drew, World.drewN]
  apply Array.ext'
  simp
theorem cmp_lays (g n : Nat) (w : World) : CmpLays Try.prog 11 #[] encEv 9 cmpEv g 0 n w := by
  intro m os dk hs x y
  refine (compare_any x.kind x.id x.entry x.target x.date y.kind y.id y.entry y.target y.date x.party x.name x.value y.party y.name y.value x.first y.first _).mono ?_
  rintro e w' ⟨rfl, o1, o2, o3, rfl⟩
  refine ⟨rfl, 1, #[o1, o2, o3], ?_⟩
  exact three_grow _ o1 o2 o3
theorem sortEv_length (l : List Ev) : (sortEv l).length = l.length := by simp [sortEv]

/-! ### slices.Clone where nothing is -/
set_option maxHeartbeats 400000 in
theorem clone_nil (n c : Nat) (w : World) : Calls Try.prog 13 #[.slice none n c] w fun e w' => e = .returned (.slice none 0 0) ∧ w' = w := by
  have q22 : ∀ (w : World) (a : Option Addr) (n c n' c' : Nat), (binOp .eql 22 (.slice a n c) (.slice none n' c')).run Try.prog w = .ok (.bool a.isNone) w := fun w a n c n' c' => Lib.run_eql_slice_nil w _ _ a n c n' c' Try.underlying22
  go_enter Try.func13, Try.ntmps13
  go_wp2_with fail
  go_ret
  exact ⟨rfl, rfl⟩

set_option maxHeartbeats 1000000 in
theorem clone_zero (x : Addr) (c : Nat) (w : World) :
    Calls Try.prog 13 #[.slice (some x) 0 c] w fun e w' => ∃ a cap, e = .returned (.slice a 0 cap) ∧ Below w.heap.size w w' := by
  obtain ⟨i0, hi, hz0, hz1, hz2⟩ := info_partsN Try.info26
  have q22 : ∀ (w : World) (a : Option Addr) (n c n' c' : Nat), (binOp .eql 22 (.slice a n c) (.slice none n' c')).run Try.prog w = .ok (.bool a.isNone) w := fun w a n c n' c' => Lib.run_eql_slice_nil w _ _ a n c n' c' Try.underlying22
  have hlit : (w.alloc (.cells #[] 26)).ownsRow w.heap.size 26 9 (.slice (some ⟨w.heap.size, 0, none⟩) 0 0) 0 [] := World.ownsRow_lit w #[] 0 (Nat.le_refl _) (by unfold maxLen; omega) (by simp)
  go_enter Try.func13, Try.ntmps13
  go_wp2_with (at_builtin; refine wpList_append_own _ rfl (.tmp 5) (.tmp 6) 22 rfl w.heap.size 26 i0 zeroEv 9 96 Try.underlying22 hi hz0 hz1 hz2 rfl (by decide) _ _ _ rfl hlit x 0 c [] rfl ?c0 ?c1 ?c2 ?c3 ?c4 ?c5 ?_)
  case c0 => rfl
  case c1 => intro j u hj; simp at hj
  case c2 => intro u hu; simp at hu
  case c3 => unfold maxLen; omega
  case c4 => omega
  case c5 => simp
  intro v7 w1 ho hgr _
  have n1 : Below w.heap.size w w1 := ((Below.refl _ _).alloc (Nat.le_refl _) _).grown hgr (by simp) (fun k hk => by simp [Value.ownBlock] at hk; omega)
  have h7 : ∃ a7 c7, v7 = .slice a7 0 c7 := by
    rcases rowAtN_of_owns ho with ⟨h, _, _⟩ | ⟨g, cap, h, _⟩
    · exact ⟨_, _, h⟩
    · exact ⟨_, _, h⟩
  obtain ⟨a7, c7, rfl⟩ := h7
  clear ho hgr hlit q22
  go_wp2_with fail
  go_ret
  exact ⟨a7, c7, rfl, n1⟩

end Go.Proofs.Ytcfgpojogomkhaa
