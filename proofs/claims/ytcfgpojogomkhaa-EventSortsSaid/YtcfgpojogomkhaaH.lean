/-
  The reference's Sort where nothing is, or too much. No condition.
-/
import Derived.Test.YtcfgpojogomkhaaG
namespace Go.Proofs.Ytcfgpojogomkhaa
open Go.RowKit Go.Shelf Go.Sort

set_option maxHeartbeats 1000000 in
set_option maxRecDepth 100000 in
theorem refSort_long (a : Option Addr) (n c : Nat) (w : World) (hn : 1000 < n) :
    Calls Try.prog 7 #[.slice a n c] w fun e w' => e = .returned (.tuple #[.slice none 0 0, .int .i64 4]) ∧ w' = w := by
  have g1 : decide ((1000 : Int) < (n : Int)) = true := by simp; omega
  go_enter Try.func7, Try.ntmps7
  go_wp2_with fail
  go_ret2
  exact ⟨rfl, rfl⟩

set_option maxHeartbeats 1000000 in
set_option maxRecDepth 100000 in
theorem refSort_nil (c : Nat) (w : World) :
    Calls Try.prog 7 #[.slice none 0 c] w fun e w' => ∃ a cap, e = .returned (.tuple #[.slice a 0 cap, .int .i64 0]) ∧ Below w.heap.size w w' := by
  obtain ⟨i0, hi, hz0, hz1, hz2⟩ := info_partsN Try.info26
  have hlit : (w.alloc (.cells #[] 26)).ownsRow w.heap.size 26 9 (.slice (some ⟨w.heap.size, 0, none⟩) 0 0) 0 [] := World.ownsRow_lit w #[] 0 (Nat.le_refl _) (by unfold maxLen; omega) (by simp)
  go_enter Try.func7, Try.ntmps7
  go_wp2_with (at_builtin; refine wpList_append_own_none rfl (.tmp 10) (.tmp 11) 22 rfl w.heap.size 26 i0 9 Try.underlying22 hi _ _ _ rfl hlit rfl ?_)
  go_wp2_with fail
  refine wp_loop_rounds 1 ?_
  rw [rounds_succ]
  go_wp2_with fail
  go_ret2
  exact ⟨_, _, rfl, alloc_below _ _⟩

set_option maxHeartbeats 1000000 in
set_option maxRecDepth 100000 in
theorem refSort_zero (x : Addr) (c : Nat) (w : World) :
    Calls Try.prog 7 #[.slice (some x) 0 c] w fun e w' => ∃ a cap, e = .returned (.tuple #[.slice a 0 cap, .int .i64 0]) ∧ Below w.heap.size w w' := by
  obtain ⟨i0, hi, hz0, hz1, hz2⟩ := info_partsN Try.info26
  have hlit : (w.alloc (.cells #[] 26)).ownsRow w.heap.size 26 9 (.slice (some ⟨w.heap.size, 0, none⟩) 0 0) 0 [] := World.ownsRow_lit w #[] 0 (Nat.le_refl _) (by unfold maxLen; omega) (by simp)
  go_enter Try.func7, Try.ntmps7
  go_wp2_with (at_builtin; refine wpList_append_own _ rfl (.tmp 10) (.tmp 11) 22 rfl w.heap.size 26 i0 zeroEv 9 96 Try.underlying22 hi hz0 hz1 hz2 rfl (by decide) _ _ _ rfl hlit x 0 c [] rfl ?c0 ?c1 ?c2 ?c3 ?c4 ?c5 ?_)
  case c0 => rfl
  case c1 => intro j u hj; simp at hj
  case c2 => intro u hu; simp at hu
  case c3 => unfold maxLen; omega
  case c4 => omega
  case c5 => simp
  intro v7 w1 ho hgr _
  have n1 : Below w.heap.size w w1 := ((Below.refl _ _).alloc (Nat.le_refl _) _).grown hgr (by simp) (fun k hk => by simp [Value.ownBlock] at hk; omega)
  have h7 : ∃ a7 c7, v7 = .slice a7 0 c7 := by
    rcases rowAtN_of_owns ho with ⟨h, _, _⟩ | ⟨g, cap, h, _⟩
    · exact ⟨_, _, h⟩
    · exact ⟨_, _, h⟩
  obtain ⟨a7, c7, rfl⟩ := h7
  clear ho hgr hlit
  go_wp2_with fail
  refine wp_loop_rounds 1 ?_
  rw [rounds_succ]
  go_wp2_with fail
  go_ret2
  exact ⟨a7, c7, rfl, n1⟩

end Go.Proofs.Ytcfgpojogomkhaa
