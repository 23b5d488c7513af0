/-
  Ranges, days walked. No condition.
-/
import Derived.Test.YtcfgpojogomkhaaEa
import Derived.Test.YtcfgpojogomkhaaIj
import Derived.Test.YtcfgpojogomkhaaNh
namespace Go.Proofs.Ytcfgpojogomkhaa
open Go.RowKit

def inB (n a b : Int) : Bool := decide (a ≤ n) && decide (n ≤ b)
/-- A call that returns a Bool and leaves the world as it was. -/
def RetB (W : World) (b : Bool) (e : Ending) (w' : World) : Prop := e = .returned (.bool b) ∧ W = w'
/-- A call that returns a Bool and may leave blocks of its own. -/
def BelB (W : World) (b : Bool) (e : Ending) (w' : World) : Prop := e = .returned (.bool b) ∧ Below W.heap.size W w'

set_option maxRecDepth 100000 in
theorem within_any (n a b : Int) (w : World) : Calls Try.prog 15 #[.int .i64 n, .int .i64 a, .int .i64 b] w (RetB w (inB n a b)) := by
  unfold inB
  cases h1 : decide (a ≤ n) <;> cases h2 : decide (n ≤ b)
  all_goals
    go_enter Try.func15, Try.ntmps15
    go_wp2
    go_ret
    exact ⟨rfl, rfl⟩
set_option maxRecDepth 100000 in
theorem in_any (n a b : Int) (w : World) : Calls Try.prog 19 #[.int .i64 n, .int .i64 a, .int .i64 b] w (RetB w (inB n a b)) := by
  unfold inB
  cases h1 : decide (a ≤ n) <;> cases h2 : decide (n ≤ b)
  all_goals
    go_enter Try.func19, Try.ntmps19
    go_wp2
    go_ret
    exact ⟨rfl, rfl⟩
set_option maxRecDepth 100000 in
theorem in3_any (n a b : Int) (w : World) : Calls Try.prog 38 #[.int .i64 n, .int .i64 a, .int .i64 b] w (RetB w (inB n a b)) := by
  unfold inB
  cases h1 : decide (a ≤ n) <;> cases h2 : decide (n ≤ b)
  all_goals
    go_enter Try.func38, Try.ntmps38
    go_wp2
    go_ret
    exact ⟨rfl, rfl⟩
set_option maxRecDepth 100000 in
theorem day_any (n : Int) (w : World) : Calls Try.prog 18 #[.int .i64 n] w (RetB w (inB n 0 99999)) := by
  have H := Lib.hid (fun W => within_any n 0 99999 W)
  go_enter Try.func18, Try.ntmps18
  go_wp2_with fail
  refine (H.out _).mono ?_
  rintro e w' ⟨rfl, rfl⟩
  go_wp2
  go_ret
  exact ⟨rfl, rfl⟩
set_option maxRecDepth 100000 in
theorem rday_any (n : Int) (w : World) : Calls Try.prog 21 #[.int .i64 n] w (RetB w (inB n 0 99999)) := by
  have H := Lib.hid (fun W => in3_any n 0 99999 W)
  go_enter Try.func21, Try.ntmps21
  go_wp2_with fail
  refine (H.out _).mono ?_
  rintro e w' ⟨rfl, rfl⟩
  go_wp2
  go_ret
  exact ⟨rfl, rfl⟩
/-- Whether a text is that of a rational. -/
def vlB (s : ByteArray) : Bool := chkR s.data.toList == 0
set_option maxRecDepth 100000 in
theorem rvalue_any (s : ByteArray) (w : World) (hs : s.size ≤ 100000) : Calls Try.prog 22 #[.string s] w (BelB w (vlB s)) := by
  have H := Lib.hid (rrat_any s w (by omega))
  unfold vlB
  obtain ⟨x, hx⟩ : ∃ x, x = chkR s.data.toList := ⟨_, rfl⟩
  rw [← hx] at H ⊢
  clear hx
  go_enter Try.func22, Try.ntmps22
  go_wp2_with fail
  refine H.out.mono ?_
  rintro e w' ⟨rfl, b1⟩
  have B1 := Lib.hid b1
  clear b1
  go_wp2
  go_ret
  exact ⟨rfl, B1.out⟩

end Go.Proofs.Ytcfgpojogomkhaa
