/-
  The order of events for the shelf's sort. No program in sight. Same over events; events as cells. No condition. slices.Clone and Sort over events. event.Sort: the copy, sorted by the shelf's SortFunc. No condition. event.Sort. No condition. Sorted events; how often an event is in a list. Plain. No condition.
-/
import Derived.Test.YtcfgpojogomkhaaGreatDoorVr
import Derived.Test.YtcfgpojogomkhaaGreatDoorXi
import Derived.Test.YtcfgpojogomkhaaGreatDoorXa
namespace Go.Proofs.YtcfgpojogomkhaaGreatDoor
open Go.RowKit

theorem swo_ev : Go.Sort.SWO (ltOf cmpEv) where
  irrefl x := by
    have := tot_ev.anti x x
    unfold ltOf; simp; omega
  trans x y z := by
    unfold ltOf; simp only [decide_eq_true_eq]; exact tot_ev.trans x y z
  ntrans x y z := by
    unfold ltOf
    simp only [decide_eq_false_iff_not]
    intro h1 h2
    have a1 := tot_ev.anti x y
    have a2 := tot_ev.anti y z
    have a3 := tot_ev.anti x z
    by_cases e1 : cmpEv x y = 0
    · rw [tot_ev.cong x y z e1]; exact h2
    · by_cases e2 : cmpEv y z = 0
      · have := tot_ev.cong z y x (by omega); omega
      · have := tot_ev.trans z y x (by omega) (by omega); omega
theorem total_ev (x y : Ev) (h1 : ltOf cmpEv x y = false) (h2 : ltOf cmpEv y x = false) : x = y := by
  unfold ltOf at h1 h2
  simp only [decide_eq_false_iff_not] at h1 h2
  have := tot_ev.anti x y
  exact cmpEv_zero (by omega)
/-- The events in their order. -/
def sortEv (l : List Ev) : List Ev := l.mergeSort fun x y => !(ltOf cmpEv) y x

end Go.Proofs.YtcfgpojogomkhaaGreatDoor

namespace Go.Proofs.YtcfgpojogomkhaaGreatDoor
open Go.RowKit

set_option maxHeartbeats 1000000 in
theorem same_ev (g1 o1 g2 o2 c1 c2 n : Nat) (l : List Ev) (w : World) (hl : l.length = n) (hbig : n ≤ 1000000) (h1 : Evs w g1 o1 l) (h2 : Evs w g2 o2 l) :
    Calls Tryz.prog 21 #[.slice (some ⟨g1, o1, none⟩) n c1, .slice (some ⟨g2, o2, none⟩) n c2] w fun e w' => e = .returned (.bool true) ∧ ∃ q, w' = w.drewN q := by
  have HL := Lib.hid hl
  have H1 := Lib.hid h1
  have H2 := Lib.hid h2
  clear hl h1 h2
  go_enter Tryz.func21, Tryz.ntmps21
  go_wp2_with fail
  go_loopw [5] (fun i wr => ∃ k q : Nat, k ≤ n ∧ i = .int .i64 k ∧ wr = w.drewN q) (fun i _ => n - (intOf i).toNat)
  case atStart => exact ⟨0, 0, Nat.zero_le _, rfl, rfl⟩
  case round =>
    obtain ⟨k, q, hk, rfl, rfl⟩ := hrel
    by_cases hlt : k < n
    · obtain ⟨x, hx⟩ : ∃ x, x = l[k]?.getD default := ⟨_, rfl⟩
      have a := H1.out k (by have := HL.out; omega)
      have b := H2.out k (by have := HL.out; omega)
      rw [← hx] at a b
      obtain ⟨a0, a1, a2, a3, a4, a5, a6, a7, a8⟩ := a
      obtain ⟨b0, b1, b2, b3, b4, b5, b6, b7, b8⟩ := b
      clear hx
      go_wp2_with fail
      go_quiet (fail)
      go_wp2_with fail
      go_roundw
      case rel => exact ⟨k + 1, _, by omega, by go_num, rfl⟩
      case measure => simp [intOf]; omega
    · go_wp2_with fail
      go_ret
      exact ⟨rfl, _, rfl⟩

set_option maxHeartbeats 400000 in
theorem same_zero (a1 a2 : Option Addr) (c1 c2 : Nat) (w : World) :
    Calls Tryz.prog 21 #[.slice a1 0 c1, .slice a2 0 c2] w fun e w' => e = .returned (.bool true) ∧ w = w' := by
  go_enter Tryz.func21, Tryz.ntmps21
  go_wp2_with fail
  refine wp_loop_rounds 1 ?_
  rw [rounds_succ]
  go_wp2_with fail
  go_ret
  exact ⟨rfl, rfl⟩

/-- The cells of a list of events. -/
def evs (l : List Ev) : List Value := l.flatMap encEv
theorem encEv_length (x : Ev) : (encEv x).length = 9 := rfl
theorem evs_length (l : List Ev) : (evs l).length = l.length * 9 := by
  induction l with
  | nil => rfl
  | cons x l ih => show (encEv x ++ evs l).length = _; rw [List.length_append, ih, encEv_length, List.length_cons]; omega
theorem evs_get (l : List Ev) (i j : Nat) (hi : i < l.length) (hj : j < 9) : (evs l)[i * 9 + j]? = (encEv (l[i]?.getD default))[j]? := by
  induction l generalizing i with
  | nil => simp at hi
  | cons x l ih =>
    show (encEv x ++ evs l)[i * 9 + j]? = _
    cases i with
    | zero => rw [List.getElem?_append_left (by rw [encEv_length]; omega)]; simp
    | succ i =>
      rw [List.getElem?_append_right (by rw [encEv_length]; omega), encEv_length, show (i + 1) * 9 + j - 9 = i * 9 + j by omega, ih i (by simpa using hi)]
      simp
theorem evs_of_row {w : World} {g : Nat} {t : TypeId} {l : List Ev} (h : RowAt w g t (evs l)) : Evs w g 0 l := by
  intro i hi
  have hc : ∀ j, j < 9 → w.cell? ⟨g, 0 + i * 9 + j, none⟩ = (encEv (l[i]?.getD default))[j]? := fun j hj => by
    rw [Nat.zero_add, h.cell (by rw [evs_length]; omega), evs_get l i j hi hj]
  exact ⟨hc 0 (by omega), hc 1 (by omega), hc 2 (by omega), hc 3 (by omega), hc 4 (by omega), hc 5 (by omega), hc 6 (by omega), hc 7 (by omega), hc 8 (by omega)⟩

end Go.Proofs.YtcfgpojogomkhaaGreatDoor

namespace Go.Proofs.YtcfgpojogomkhaaGreatDoor
open Go.RowKit Go.Shelf Go.Sort

def zeroEv : Value := .agg #[.int .u8 0, .int .i64 0, .int .i64 0, .int .i64 0, .int .i64 0, .string ByteArray.empty, .string ByteArray.empty, .string ByteArray.empty, .bool false]
theorem Tryz.info24 : (Tryz.prog.info? 24).map (fun i => (i.zero, i.size, i.bytes)) = some (some zeroEv, 9, 96) := by kernel_rfl
theorem info_partsN {P : Program} {e : TypeId} {z : Value} {s b : Nat} (h : (P.info? e).map (fun i => (i.zero, i.size, i.bytes)) = some (some z, s, b)) : ∃ i, P.info? e = some i ∧ i.zero = some z ∧ i.size = s ∧ i.bytes = b := by
  obtain ⟨i, hi, he⟩ := Option.map_eq_some_iff.1 h
  simp only [Prod.mk.injEq] at he
  exact ⟨i, hi, he.1, he.2.1, he.2.2⟩
theorem rowAtN_of_owns {w : World} {base size : Nat} {e : TypeId} {v : Value} {n : Nat} {xs : List Value} (h : w.ownsRow base e size v n xs) :
    (v = .slice none 0 0 ∧ n = 0 ∧ xs = []) ∨ ∃ g cap, v = .slice (some ⟨g, 0, none⟩) n cap ∧ base ≤ g ∧ n ≤ cap ∧ cap ≤ maxLen ∧ xs.length = n * size ∧ RowAt w g e xs := by
  obtain ⟨h1, h2⟩ := h
  rcases h2 with ⟨rfl, rfl⟩ | ⟨g, cap, cur, rfl, hb, hg, hn, hm, hs, ht⟩
  · exact .inl ⟨rfl, rfl, List.eq_nil_of_length_eq_zero (by simpa using h1)⟩
  · have hle : n * size ≤ cap * size := Nat.mul_le_mul_right _ hn
    refine .inr ⟨g, cap, rfl, hb, hn, hm, h1, cur, hg, by omega, fun i hi => ?_⟩
    rw [← ht, List.getElem?_take_of_lt (by omega)]
    simp
theorem evs_one (l : List Ev) : ∀ u ∈ evs l, u.oneCell' = true := by
  intro u hu
  simp only [evs, List.mem_flatMap, encEv] at hu
  obtain ⟨x, _, hx⟩ := hu
  simp only [List.mem_cons, List.not_mem_nil, or_false] at hx
  rcases hx with rfl | rfl | rfl | rfl | rfl | rfl | rfl | rfl | rfl <;> rfl
/-- Cell by cell, from a list of events that lies anywhere. -/
theorem evs_cell {w : World} {g o : Nat} {l : List Ev} (h : Evs w g o l) (j : Nat) (u : Value) (hj : (evs l)[j]? = some u) : w.cell? ⟨g, o + j, none⟩ = some u := by
  have hl := (List.getElem?_eq_some_iff.1 hj).1
  rw [evs_length] at hl
  have e : j = j / 9 * 9 + j % 9 := by omega
  have hi : j / 9 < l.length := by omega
  rw [e, evs_get l (j / 9) (j % 9) hi (by omega)] at hj
  obtain ⟨a0, a1, a2, a3, a4, a5, a6, a7, a8⟩ := h (j / 9) hi
  have hm : j % 9 < 9 := by omega
  rw [e, ← Nat.add_assoc]
  generalize j % 9 = m at *
  generalize l[j / 9]?.getD default = x at *
  match m, hm with
  | 0, _ => simp [encEv] at hj; rw [← hj]; exact a0
  | 1, _ => simp [encEv] at hj; rw [← hj]; exact a1
  | 2, _ => simp [encEv] at hj; rw [← hj]; exact a2
  | 3, _ => simp [encEv] at hj; rw [← hj]; exact a3
  | 4, _ => simp [encEv] at hj; rw [← hj]; exact a4
  | 5, _ => simp [encEv] at hj; rw [← hj]; exact a5
  | 6, _ => simp [encEv] at hj; rw [← hj]; exact a6
  | 7, _ => simp [encEv] at hj; rw [← hj]; exact a7
  | 8, _ => simp [encEv] at hj; rw [← hj]; exact a8

set_option maxHeartbeats 1000000 in
theorem clone_some (g o n c : Nat) (l : List Ev) (w : World) (hl : l.length = n) (hn : n ≤ 1000000) (hn1 : 1 ≤ n) (hg : g < w.heap.size) (h : Evs w g o l) :
    Calls Tryz.prog 47 #[.slice (some ⟨g, o, none⟩) n c] w fun e w' => ∃ g' cap, e = .returned (.slice (some ⟨g', 0, none⟩) n cap) ∧ w.heap.size ≤ g' ∧ RowAt w' g' 24 (evs l) ∧ Below w.heap.size w w' := by
  obtain ⟨i0, hi, hz0, hz1, hz2⟩ := info_partsN Tryz.info24
  have q22 : ∀ (w : World) (a : Option Addr) (n c n' c' : Nat), (binOp .eql 42 (.slice a n c) (.slice none n' c')).run Tryz.prog w = .ok (.bool a.isNone) w := fun w a n c n' c' => Lib.run_eql_slice_nil w _ _ a n c n' c' Tryz.underlying42
  have HL := Lib.hid hl
  have H := Lib.hid h
  have hlit : (w.alloc (.cells #[] 24)).ownsRow w.heap.size 24 9 (.slice (some ⟨w.heap.size, 0, none⟩) 0 0) 0 [] := World.ownsRow_lit w #[] 0 (Nat.le_refl _) (by unfold maxLen; omega) (by simp)
  clear hl h
  go_enter Tryz.func47, Tryz.ntmps47
  go_wp2_with (at_builtin; refine wpList_append_own _ rfl (.tmp 5) (.tmp 6) 42 rfl w.heap.size 24 i0 zeroEv 9 96 Tryz.underlying42 hi hz0 hz1 hz2 rfl (by decide) _ _ _ rfl hlit ⟨g, o, none⟩ n c (evs l) rfl ?c0 ?c1 ?c2 ?c3 ?c4 ?c5 ?_)
  case c0 => rw [evs_length, HL.out]
  case c1 =>
    intro j u hj
    rw [show (⟨g, o, none⟩ : Addr).add j = ⟨g, o + j, none⟩ by simp [Addr.add], World.cell?_alloc_past _ _ _ (by show g < _; omega)]
    exact evs_cell H.out j u hj
  case c2 => exact evs_one l
  case c3 => unfold maxLen; omega
  case c4 => omega
  case c5 => simp
  intro v7 w1 ho hgr _
  have n1 : Below w.heap.size w w1 := ((Below.refl _ _).alloc (Nat.le_refl _) _).grown hgr (by simp) (fun k hk => by simp [Value.ownBlock] at hk; omega)
  have h7 : ∃ g7 c7, v7 = .slice (some ⟨g7, 0, none⟩) n c7 ∧ w.heap.size ≤ g7 ∧ RowAt w1 g7 24 (evs l) := by
    rcases rowAtN_of_owns ho with ⟨_, h, _⟩ | ⟨g, cap, h, h1, h2, h3, h4, h5⟩
    · omega
    · exact ⟨g, cap, h, h1, by simpa using h5⟩
  obtain ⟨g7, c7, rfl, hg7, r7⟩ := h7
  clear ho hgr hlit q22
  go_wp2_with fail
  go_ret
  exact ⟨g7, c7, rfl, hg7, r7, n1⟩

end Go.Proofs.YtcfgpojogomkhaaGreatDoor

namespace Go.Proofs.YtcfgpojogomkhaaGreatDoor
open Go.RowKit Go.Shelf Go.Sort

theorem flat_evs (d : Array Ev) (j : Nat) (hj : j < d.size * 9) : (evs d.toList)[j]? = some ((flatK encEv 9 d)[j]!) := by
  have h9 := Nat.div_add_mod j 9
  have e : j = j / 9 * 9 + j % 9 := by omega
  have hi : j / 9 < d.toList.length := by simp; omega
  have hm : j % 9 < 9 := by omega
  rw [get_flatK _ _ _ _ hj]
  conv => lhs; rw [e]
  rw [evs_get d.toList (j / 9) (j % 9) hi hm]
  have hx : d.toList[j / 9]?.getD default = d[j / 9]! := by
    rw [Array.getElem?_toList, getElem!_def]; cases d[j / 9]? <;> rfl
  rw [hx]
  have hl : j % 9 < (encEv d[j / 9]!).length := by rw [encEv_length]; omega
  rw [List.getElem?_eq_getElem hl]
  exact congrArg some (getElem!_pos (encEv d[j / 9]!) (j % 9) hl).symm
theorem holds_of_row {w : World} {g : Nat} {t : TypeId} {l : List Ev} (h : RowAt w g t (evs l)) : HoldsK encEv 9 w g 0 l.toArray := by
  intro j hj
  rw [size_flatK] at hj
  have hj' : j < (evs l).length := by rw [evs_length]; simpa using hj
  rw [Nat.zero_add]
  refine ⟨?_, h.frozen j⟩
  rw [h.cell hj']
  exact flat_evs l.toArray j hj
theorem rowAt_of_cells {w : World} {g : Nat} {t : TypeId} {l : List Value} {c : Array Value} (hg : w.heap[g]? = some (.cells c t (0, 0))) (h : ∀ i, i < l.length → w.cell? ⟨g, i, none⟩ = l[i]?) : RowAt w g t l := by
  have hc : ∀ i, i < l.length → c[i]? = l[i]? := fun i hi => by
    rw [← h i hi]; simp [World.cell?, hg]
  refine ⟨c, hg, ?_, hc⟩
  by_cases e : l.length = 0
  · omega
  · have := hc (l.length - 1) (by omega)
    rw [List.getElem?_eq_getElem (by omega)] at this
    have := (Array.getElem?_eq_some_iff.1 this).1
    omega
theorem heap_sortK (w : World) (g off n : Nat) (d : Array Ev) (os : Array Obj) (hg : g < w.heap.size) (c : Array Value) (t : TypeId) (h : w.heap[g]? = some (.cells c t (0, 0))) : ∃ c', (sortWorldK encEv 9 w g off n d os).heap[g]? = some (.cells c' t (0, 0)) := by
  refine ⟨putCells id off (flatK encEv 9 d) c, ?_⟩
  show (((w.heap.modify g (onCells (putCells id off (flatK encEv 9 d)))) ++ os)[g]?) = _
  rw [Array.getElem?_append_left (by simpa using hg), Array.getElem?_modify, if_pos rfl, h]
  rfl
theorem only_sortK (w : World) (g off n : Nat) (d : Array Ev) (os : Array Obj) : w.grownBy (sortWorldK encEv 9 w g off n d os) (some g) := by
  refine ⟨rfl, rfl, rfl, ?_, fun i hi hne => ?_⟩
  · show _ ≤ ((w.heap.modify g (onCells (putCells id off (flatK encEv 9 d)))) ++ os).size
    simp
  · show (((w.heap.modify g (onCells (putCells id off (flatK encEv 9 d)))) ++ os)[i]?) = _
    rw [Array.getElem?_append_left (by simpa using hi), Array.getElem?_modify, if_neg (fun e => hne (by rw [e]))]
theorem row_of_sort {w : World} {g : Nat} {t : TypeId} {l m : List Ev} (h : RowAt w g t (evs l)) (hm : m.length = l.length) (n : Nat) (os : Array Obj) : RowAt (sortWorldK encEv 9 w g 0 n m.toArray os) g t (evs m) := by
  have hH := holdsK_sortWorldK_c encEv 9 w g 0 l.toArray m.toArray n os (holds_of_row h) h.lt (by simpa using hm)
  obtain ⟨c, hc, _, _⟩ := h
  obtain ⟨c', hc'⟩ := heap_sortK w g 0 n m.toArray os (Array.getElem?_eq_some_iff.1 hc).1 c t hc
  refine rowAt_of_cells hc' fun i hi => ?_
  have hi' : i < m.toArray.size * 9 := by rw [evs_length] at hi; simpa using hi
  have := (hH i (by rw [size_flatK]; exact hi')).1
  rw [Nat.zero_add] at this
  rw [this, flat_evs m.toArray i hi']
  rfl
theorem aggArr (x : Ev) : Value.agg (encEv x).toArray = aggEv x := rfl
theorem three_grow (w : World) (o1 o2 o3 : Obj) : ((w.alloc o1).alloc o2).drew.alloc o3 = grow (w.drewN 1) #[o1, o2, o3] := by
  cases w
  simp [World.alloc, grow, World.drew, World.drewN]
  apply Array.ext'
  simp
theorem cmp_lays (g n : Nat) (w : World) : CmpLays Tryz.prog 15 #[] encEv 9 cmpEv g 0 n w := by
  intro m os dk hs x y
  refine (compare_any x.kind x.id x.entry x.target x.date y.kind y.id y.entry y.target y.date x.party x.name x.value y.party y.name y.value x.first y.first _).mono ?_
  rintro e w' ⟨rfl, o1, o2, o3, rfl⟩
  refine ⟨rfl, 1, #[o1, o2, o3], ?_⟩
  exact three_grow _ o1 o2 o3
theorem sortEv_length (l : List Ev) : (sortEv l).length = l.length := by simp [sortEv]

/-! ### slices.Clone where nothing is -/
set_option maxHeartbeats 400000 in
theorem clone_nil (n c : Nat) (w : World) : Calls Tryz.prog 47 #[.slice none n c] w fun e w' => e = .returned (.slice none 0 0) ∧ w' = w := by
  have q22 : ∀ (w : World) (a : Option Addr) (n c n' c' : Nat), (binOp .eql 42 (.slice a n c) (.slice none n' c')).run Tryz.prog w = .ok (.bool a.isNone) w := fun w a n c n' c' => Lib.run_eql_slice_nil w _ _ a n c n' c' Tryz.underlying42
  go_enter Tryz.func47, Tryz.ntmps47
  go_wp2_with fail
  go_ret
  exact ⟨rfl, rfl⟩

set_option maxHeartbeats 1000000 in
theorem clone_zero (x : Addr) (c : Nat) (w : World) :
    Calls Tryz.prog 47 #[.slice (some x) 0 c] w fun e w' => ∃ a cap, e = .returned (.slice a 0 cap) ∧ Below w.heap.size w w' := by
  obtain ⟨i0, hi, hz0, hz1, hz2⟩ := info_partsN Tryz.info24
  have q22 : ∀ (w : World) (a : Option Addr) (n c n' c' : Nat), (binOp .eql 42 (.slice a n c) (.slice none n' c')).run Tryz.prog w = .ok (.bool a.isNone) w := fun w a n c n' c' => Lib.run_eql_slice_nil w _ _ a n c n' c' Tryz.underlying42
  have hlit : (w.alloc (.cells #[] 24)).ownsRow w.heap.size 24 9 (.slice (some ⟨w.heap.size, 0, none⟩) 0 0) 0 [] := World.ownsRow_lit w #[] 0 (Nat.le_refl _) (by unfold maxLen; omega) (by simp)
  go_enter Tryz.func47, Tryz.ntmps47
  go_wp2_with (at_builtin; refine wpList_append_own _ rfl (.tmp 5) (.tmp 6) 42 rfl w.heap.size 24 i0 zeroEv 9 96 Tryz.underlying42 hi hz0 hz1 hz2 rfl (by decide) _ _ _ rfl hlit x 0 c [] rfl ?c0 ?c1 ?c2 ?c3 ?c4 ?c5 ?_)
  case c0 => rfl
  case c1 => intro j u hj; simp at hj
  case c2 => intro u hu; simp at hu
  case c3 => unfold maxLen; omega
  case c4 => omega
  case c5 => simp
  intro v7 w1 ho hgr _
  have n1 : Below w.heap.size w w1 := ((Below.refl _ _).alloc (Nat.le_refl _) _).grown hgr (by simp) (fun k hk => by simp [Value.ownBlock] at hk; omega)
  have h7 : ∃ a7 c7, v7 = .slice a7 0 c7 := by
    rcases rowAtN_of_owns ho with ⟨h, _, _⟩ | ⟨g, cap, h, _⟩
    · exact ⟨_, _, h⟩
    · exact ⟨_, _, h⟩
  obtain ⟨a7, c7, rfl⟩ := h7
  clear ho hgr hlit q22
  go_wp2_with fail
  go_ret
  exact ⟨a7, c7, rfl, n1⟩

end Go.Proofs.YtcfgpojogomkhaaGreatDoor

namespace Go.Proofs.YtcfgpojogomkhaaGreatDoor
open Go.RowKit Go.Shelf Go.Sort

theorem enters11 : ∀ args w, (callFunc 15 args).run Tryz.prog w = .ok (.enter 15 args) w := enters_of Tryz.func15 (by kernel_rfl) rfl
theorem sortFunc_row (g c n : Nat) (l : List Ev) (w : World) (hl : l.length = n) (hn : n ≤ 1000000) (r : RowAt w g 24 (evs l)) :
    Calls Tryz.prog 48 #[.slice (some ⟨g, 0, none⟩) n c, .func (.func 15) #[] #[]] w fun e w' => e = .returned (.tuple #[]) ∧ RowAt w' g 24 (evs (sortEv l)) ∧ w.grownBy w' (some g) := by
  subst hl
  have h := AnyQ.slices_SortFunc_total Tryz.sortF 9 Tryz.isAgg24 Tryz.sizeOf24 encEv (fun _ => rfl) (fun x v hv => evs_one [x] v (by simpa [evs] using hv)) cmpEv swo_ev 15 #[] g 0 c l.toArray w enters11 (cmp_lays g _ w) (holds_of_row r) r.lt (by simp; omega) total_ev
  change Calls Tryz.prog 48 #[.slice (some ⟨g, 0, none⟩) l.length c, .func (.func 15) #[] #[]] w _ at h
  refine h.mono ?_
  rintro e w' ⟨rfl, n, os, rfl⟩
  exact ⟨rfl, row_of_sort r (sortEv_length l) n os, only_sortK ..⟩

set_option maxHeartbeats 1000000 in
theorem sort_some (g o n c : Nat) (l : List Ev) (w : World) (hl : l.length = n) (hn : n ≤ 1000) (hn1 : 1 ≤ n) (hg : g < w.heap.size) (h : Evs w g o l) :
    Calls Tryz.prog 20 #[.slice (some ⟨g, o, none⟩) n c] w fun e w' => ∃ g' cap, e = .returned (.tuple #[.slice (some ⟨g', 0, none⟩) n cap, .int .i64 0]) ∧ w.heap.size ≤ g' ∧ RowAt w' g' 24 (evs (sortEv l)) ∧ Below w.heap.size w w' := by
  have HL := Lib.hid hl
  have H := Lib.hid h
  clear hl h
  go_enter Tryz.func20, Tryz.ntmps20
  go_wp2_with fail
  refine (clone_some g o n c l _ HL.out (by omega) hn1 hg H.out).mono ?_
  rintro e w1 ⟨g1, c1, rfl, hg1, r1, b1⟩
  go_wp2_with fail
  refine (sortFunc_row g1 c1 n l w1 HL.out (by omega) r1).mono ?_
  rintro e w2 ⟨rfl, r2, b2⟩
  have b := below_only b1 b2 b1.size hg1
  clear r1 b1 b2
  go_wp2_with fail
  go_ret2
  exact ⟨g1, c1, rfl, hg1, r2, b⟩

set_option maxHeartbeats 1000000 in
theorem sort_long (a : Option Addr) (n c : Nat) (w : World) (hn : 1000 < n) (hm : n ≤ 4611686018427387904) :
    Calls Tryz.prog 20 #[.slice a n c] w fun e w' => e = .returned (.tuple #[.slice none 0 0, .int .i64 4]) ∧ w' = w := by
  have g1 : decide ((1000 : Int) < (n : Int)) = true := by simp; omega
  go_enter Tryz.func20, Tryz.ntmps20
  go_wp2_with fail
  go_ret2
  exact ⟨rfl, rfl⟩

theorem sort_tail (a : Option Addr) (c : Nat) (w : World) : Calls Tryz.prog 48 #[.slice a 0 c, .func (.func 15) #[] #[]] w fun e w' => e = .returned (.tuple #[]) ∧ w' = w :=
  AnyF.slices_SortFunc_none (P := Tryz.prog) (ρ := Tryz.sortF_ren) Tryz.sortF a c (.func (.func 15) #[] #[]) w

set_option maxHeartbeats 1000000 in
theorem sort_nil (c : Nat) (w : World) :
    Calls Tryz.prog 20 #[.slice none 0 c] w fun e w' => ∃ a cap, e = .returned (.tuple #[.slice a 0 cap, .int .i64 0]) ∧ Below w.heap.size w w' := by
  go_enter Tryz.func20, Tryz.ntmps20
  go_wp2_with fail
  refine (clone_nil 0 c _).mono ?_
  rintro e w1 ⟨rfl, rfl⟩
  go_wp2_with fail
  refine (sort_tail none 0 _).mono ?_
  rintro e w2 ⟨rfl, rfl⟩
  go_wp2_with fail
  go_ret2
  exact ⟨_, _, rfl, Below.refl _ _⟩
set_option maxHeartbeats 1000000 in
theorem sort_zero (x : Addr) (c : Nat) (w : World) :
    Calls Tryz.prog 20 #[.slice (some x) 0 c] w fun e w' => ∃ a cap, e = .returned (.tuple #[.slice a 0 cap, .int .i64 0]) ∧ Below w.heap.size w w' := by
  go_enter Tryz.func20, Tryz.ntmps20
  go_wp2_with fail
  refine (clone_zero x c _).mono ?_
  rintro e w1 ⟨a1, c1, rfl, b1⟩
  go_wp2_with fail
  refine (sort_tail a1 c1 _).mono ?_
  rintro e w2 ⟨rfl, rfl⟩
  go_wp2_with fail
  go_ret2
  exact ⟨_, _, rfl, b1⟩

end Go.Proofs.YtcfgpojogomkhaaGreatDoor

namespace Go.Proofs.YtcfgpojogomkhaaGreatDoor
open Go.RowKit

def leEv (x y : Ev) : Prop := ¬ 0 < cmpEv x y
theorem leEv_trans {x y z : Ev} (h1 : leEv x y) (h2 : leEv y z) : leEv x z := by
  unfold leEv at *
  have := ev_order x y z
  omega
theorem leEv_of_gt {x y : Ev} (h : 0 < cmpEv x y) : leEv y x := by
  unfold leEv; have := tot_ev.anti x y; omega
theorem leEv_anti {x y : Ev} (h1 : leEv x y) (h2 : leEv y x) : x = y := by
  unfold leEv at *
  have := tot_ev.anti x y
  exact cmpEv_zero (by omega)
theorem sortEv_sorted (l : List Ev) : (sortEv l).Pairwise leEv := by
  have h : ∀ a b : Ev, ((fun x y => !(ltOf cmpEv) y x) a b = true) ↔ leEv a b := fun a b => by
    unfold ltOf leEv
    have := tot_ev.anti a b
    simp; omega
  have := List.pairwise_mergeSort (le := fun x y => !(ltOf cmpEv) y x) (fun a b c h1 h2 => (h a c).2 (leEv_trans ((h a b).1 h1) ((h b c).1 h2))) (fun a b => by
    by_cases e : 0 < cmpEv a b
    · have := (h b a).2 (leEv_of_gt e); simp [this]
    · have := (h a b).2 e; simp [this]) l
  exact this.imp fun {a b} hab => (h a b).1 hab
theorem sortEv_perm (l : List Ev) : (sortEv l).Perm l := List.mergeSort_perm _ _
/-- Whatever is sorted and made of l's events is THE sorted list. -/
theorem sorted_is (l m : List Ev) (hp : m.Perm l) (hs : m.Pairwise leEv) : m = sortEv l :=
  List.Perm.eq_of_pairwise (fun _ _ _ _ h1 h2 => leEv_anti h1 h2) hs (sortEv_sorted l) (hp.trans (sortEv_perm l).symm)
theorem sortEv_twice (l : List Ev) : sortEv (sortEv l) = sortEv l := (sorted_is (sortEv l) (sortEv l) (List.Perm.refl _) (sortEv_sorted l)).symm
theorem sortEv_next (l : List Ev) (i : Nat) (h : i + 1 < (sortEv l).length) : cmpEv ((sortEv l)[i]?.getD default) ((sortEv l)[i + 1]?.getD default) ≤ 0 := by
  have := List.pairwise_iff_getElem.1 (sortEv_sorted l) i (i + 1) (by omega) h (by omega)
  rw [List.getElem?_eq_getElem (by omega), List.getElem?_eq_getElem h]
  unfold leEv at this
  simp only [Option.getD_some]
  omega
def eqEv (x y : Ev) : Bool := (x.kind == y.kind) && ((x.id == y.id) && ((x.entry == y.entry) && ((x.target == y.target) && ((x.date == y.date) && ((x.party.toList == y.party.toList) && ((x.name.toList == y.name.toList) && ((x.value.toList == y.value.toList) && (x.first == y.first))))))))
/-- How often an event is among the first j. -/
def cntE (l : List Ev) (x : Ev) (j : Nat) : Nat := (l.take j).countP fun y => eqEv y x
theorem cntE_zero (l : List Ev) (x : Ev) : cntE l x 0 = 0 := by simp [cntE]
theorem cntE_le (l : List Ev) (x : Ev) (j : Nat) : cntE l x j ≤ j := Nat.le_trans List.countP_le_length (by rw [List.length_take]; omega)
theorem cntE_succ (l : List Ev) (x : Ev) (j : Nat) (h : j < l.length) : cntE l x (j + 1) = cntE l x j + (if eqEv (l[j]?.getD default) x = true then 1 else 0) := by
  unfold cntE
  rw [List.take_add_one, List.getElem?_eq_getElem h, List.countP_append]
  simp [List.countP_cons]
theorem cntE_sort (l : List Ev) (x : Ev) : cntE (sortEv l) x l.length = cntE l x l.length := by
  unfold cntE
  have e : l.length = (sortEv l).length := (List.Perm.length_eq (sortEv_perm l)).symm
  conv => lhs; rw [e, List.take_length]
  rw [List.take_length]
  exact (sortEv_perm l).countP_eq _

end Go.Proofs.YtcfgpojogomkhaaGreatDoor
