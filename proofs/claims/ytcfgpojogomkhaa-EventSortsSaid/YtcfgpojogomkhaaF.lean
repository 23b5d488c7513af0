/-
  event.Sort. No condition.
-/
import Derived.Test.YtcfgpojogomkhaaE
namespace Go.Proofs.Ytcfgpojogomkhaa
open Go.RowKit Go.Shelf Go.Sort

theorem enters11 : ∀ args w, (callFunc 11 args).run Try.prog w = .ok (.enter 11 args) w := enters_of Try.func11 (by kernel_rfl) rfl
theorem sortFunc_row (g c n : Nat) (l : List Ev) (w : World) (hl : l.length = n) (hn : n ≤ 1000000) (r : RowAt w g 26 (evs l)) :
    Calls Try.prog 14 #[.slice (some ⟨g, 0, none⟩) n c, .func (.func 11) #[] #[]] w fun e w' => e = .returned (.tuple #[]) ∧ RowAt w' g 26 (evs (sortEv l)) ∧ w.grownBy w' (some g) := by
  subst hl
  have h := AnyQ.slices_SortFunc_total Try.sortF 9 Try.isAgg26 Try.sizeOf26 encEv (fun _ => rfl) (fun x v hv => evs_one [x] v (by simpa [evs] using hv)) cmpEv swo_ev 11 #[] g 0 c l.toArray w enters11 (cmp_lays g _ w) (holds_of_row r) r.lt (by simp; omega) total_ev
  change Calls Try.prog 14 #[.slice (some ⟨g, 0, none⟩) l.length c, .func (.func 11) #[] #[]] w _ at h
  refine h.mono ?_
  rintro e w' ⟨rfl, n, os, rfl⟩
  exact ⟨rfl, row_of_sort r (sortEv_length l) n os, only_sortK ..⟩

set_option maxHeartbeats 1000000 in
theorem sort_some (g o n c : Nat) (l : List Ev) (w : World) (hl : l.length = n) (hn : n ≤ 1000) (hn1 : 1 ≤ n) (hg : g < w.heap.size) (h : Evs w g o l) :
    Calls Try.prog 6 #[.slice (some ⟨g, o, none⟩) n c] w fun e w' => ∃ g' cap, e = .returned (.tuple #[.slice (some ⟨g', 0, none⟩) n cap, .int .i64 0]) ∧ w.heap.size ≤ g' ∧ RowAt w' g' 26 (evs (sortEv l)) ∧ Below w.heap.size w w' := by
  have HL := Lib.hid hl
  have H := Lib.hid h
  clear hl h
  go_enter Try.func6, Try.ntmps6
  go_wp2_with fail
  refine (clone_some g o n c l _ HL.out (by omega) hn1 hg H.out).mono ?_
  rintro e w1 ⟨g1, c1, rfl, hg1, r1, b1⟩
  go_wp2_with fail
  refine (sortFunc_row g1 c1 n l w1 HL.out (by omega) r1).mono ?_
  rintro e w2 ⟨rfl, r2, b2⟩
  have b := below_only b1 b2 b1.size hg1
  clear r1 b1 b2
  go_wp2_with fail
  go_ret2
  exact ⟨g1, c1, rfl, hg1, r2, b⟩

set_option maxHeartbeats 1000000 in
theorem sort_long (a : Option Addr) (n c : Nat) (w : World) (hn : 1000 < n) (hm : n ≤ 4611686018427387904) :
    Calls Try.prog 6 #[.slice a n c] w fun e w' => e = .returned (.tuple #[.slice none 0 0, .int .i64 4]) ∧ w' = w := by
  have g1 : decide ((1000 : Int) < (n : Int)) = true := by simp; omega
  go_enter Try.func6, Try.ntmps6
  go_wp2_with fail
  go_ret2
  exact ⟨rfl, rfl⟩

theorem sort_tail (a : Option Addr) (c : Nat) (w : World) : Calls Try.prog 14 #[.slice a 0 c, .func (.func 11) #[] #[]] w fun e w' => e = .returned (.tuple #[]) ∧ w' = w :=
  AnyF.slices_SortFunc_none (P := Try.prog) (ρ := Try.sortF_ren) Try.sortF a c (.func (.func 11) #[] #[]) w

set_option maxHeartbeats 1000000 in
theorem sort_nil (c : Nat) (w : World) :
    Calls Try.prog 6 #[.slice none 0 c] w fun e w' => ∃ a cap, e = .returned (.tuple #[.slice a 0 cap, .int .i64 0]) ∧ Below w.heap.size w w' := by
  go_enter Try.func6, Try.ntmps6
  go_wp2_with fail
  refine (clone_nil 0 c _).mono ?_
  rintro e w1 ⟨rfl, rfl⟩
  go_wp2_with fail
  refine (sort_tail none 0 _).mono ?_
  rintro e w2 ⟨rfl, rfl⟩
  go_wp2_with fail
  go_ret2
  exact ⟨_, _, rfl, Below.refl _ _⟩
set_option maxHeartbeats 1000000 in
theorem sort_zero (x : Addr) (c : Nat) (w : World) :
    Calls Try.prog 6 #[.slice (some x) 0 c] w fun e w' => ∃ a cap, e = .returned (.tuple #[.slice a 0 cap, .int .i64 0]) ∧ Below w.heap.size w w' := by
  go_enter Try.func6, Try.ntmps6
  go_wp2_with fail
  refine (clone_zero x c _).mono ?_
  rintro e w1 ⟨a1, c1, rfl, b1⟩
  go_wp2_with fail
  refine (sort_tail a1 c1 _).mono ?_
  rintro e w2 ⟨rfl, rfl⟩
  go_wp2_with fail
  go_ret2
  exact ⟨_, _, rfl, b1⟩

end Go.Proofs.Ytcfgpojogomkhaa
