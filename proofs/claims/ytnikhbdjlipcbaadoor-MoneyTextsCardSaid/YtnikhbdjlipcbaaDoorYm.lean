/-
  novationlaw07.MoneyTexts returns true at every amount, currency and text. Condition: what the package-level variables hold.
-/
import Derived.Test.YtnikhbdjlipcbaaDoorYl
import Derived.Test.YtnikhbdjlipcbaaDoorYg
namespace Go.Proofs.YtnikhbdjlipcbaaDoor
open Go.RowKit Go.Shelf

def BelB' (w : World) (b : Bool) (e : Ending) (w' : World) : Prop := e = .returned (.bool b) ∧ Below w.heap.size w w'
set_option maxHeartbeats 4000000 in
set_option maxRecDepth 100000 in
theorem mtexts_long (n : Int) (c s : ByteArray) (w : World) (h : 1000 < c.size ∨ 1000 < s.size) : Calls Tryd.prog 4 #[.int .i64 n, .string c, .string s] w (BelB' w true) := by
  by_cases hc : 1000 < c.size
  · have g1 : decide ((1000 : Int) < (c.size : Int)) = true := by simp; omega
    clear h
    go_enter Tryd.func4, Tryd.ntmps4
    go_wp2_with fail
    go_ret
    exact ⟨rfl, Below.refl _ _⟩
  · have g1 : decide ((1000 : Int) < (c.size : Int)) = false := by simp; omega
    have g2 : decide ((1000 : Int) < (s.size : Int)) = true := by simp; omega
    clear h
    go_enter Tryd.func4, Tryd.ntmps4
    go_wp2_with fail
    go_ret
    exact ⟨rfl, Below.refl _ _⟩
set_option maxHeartbeats 4000000 in
set_option maxRecDepth 100000 in
theorem mtexts_go (n x f g : Int) (c s t d : ByteArray) (w : World) (hc : c.size ≤ 1000) (hs : s.size ≤ 1000)
    (H1 : Hid (Ct w 11 #[.int .i64 n, .string c] (.tuple #[.string t, .int .i64 f]))) (H2 : Hid (Ct w 12 #[.int .i64 n, .string c] (.tuple #[.string t, .int .i64 f])))
    (H3 : Hid (Ct w 13 #[.string s] (.tuple #[.int .i64 x, .string d, .int .i64 g]))) (H4 : Hid (Ct w 14 #[.string s] (.tuple #[.int .i64 x, .string d, .int .i64 g]))) :
    Calls Tryd.prog 4 #[.int .i64 n, .string c, .string s] w (BelB' w true) := by
  have g1 : decide ((1000 : Int) < (c.size : Int)) = false := by simp; omega
  have g2 : decide ((1000 : Int) < (s.size : Int)) = false := by simp; omega
  go_enter Tryd.func4, Tryd.ntmps4
  go_wp2_with fail
  refine (H1.out.use (Below.refl _ _)).mono ?_
  rintro e w1 ⟨rfl, b1⟩
  have B1 := Lib.hid b1
  clear b1
  go_wp2_with fail
  refine (H2.out.use B1.out).mono ?_
  rintro e w2 ⟨rfl, b2⟩
  have B2 := Lib.hid (B1.out.trans (b2.mono B1.out.size))
  clear b2
  go_wp2_with fail
  refine (H3.out.use B2.out).mono ?_
  rintro e w3 ⟨rfl, b3⟩
  have B3 := Lib.hid (B2.out.trans (b3.mono B2.out.size))
  clear b3
  go_wp2_with fail
  refine (H4.out.use B3.out).mono ?_
  rintro e w4 ⟨rfl, b4⟩
  have B4 := Lib.hid (B3.out.trans (b4.mono B3.out.size))
  clear b4
  go_wp2_with fail
  go_ret
  exact ⟨rfl, B4.out⟩

theorem mtexts_any (n : Int) (c s : ByteArray) (w : World) (h : Env w) : Calls Tryd.prog 4 #[.int .i64 n, .string c, .string s] w (BelB' w true) := by
  by_cases hl : 1000 < c.size ∨ 1000 < s.size
  · exact mtexts_long n c s w hl
  · have hc : c.size ≤ 1000 := by omega
    have hs : s.size ≤ 1000 := by omega
    obtain ⟨t, f, H1, H2⟩ : ∃ (t : ByteArray) (f : Int), Hid (Ct w 11 #[.int .i64 n, .string c] (.tuple #[.string t, .int .i64 f])) ∧ Hid (Ct w 12 #[.int .i64 n, .string c] (.tuple #[.string t, .int .i64 f])) := by
      by_cases hb : unitOf c.data.toList = none ∨ amtOK n = false
      · refine ⟨⟨#[]⟩, 2, fun W hW => (mshow_any n c W (h.below hW) (by omega)).mono fun e w' hp => ?_, fun W hW => (rshow_any n c W (by omega)).mono fun e w' hp => ?_⟩
        all_goals
          rcases hp with ⟨_, hp⟩ | ⟨u, h1, h2, _⟩
          · exact hp
          · rcases hb with hb | hb
            · rw [hb] at h1; cases h1
            · rw [hb] at h2; cases h2
      · obtain ⟨u, hu⟩ : ∃ u, unitOf c.data.toList = some u := by
          cases hq : unitOf c.data.toList with
          | none => exact absurd (.inl hq) hb
          | some u => exact ⟨u, rfl⟩
        refine ⟨⟨(amtB n u c.data.toList).toArray⟩, 0, fun W hW => (mshow_any n c W (h.below hW) (by omega)).mono fun e w' hp => ?_, fun W hW => (rshow_any n c W (by omega)).mono fun e w' hp => ?_⟩
        all_goals
          rcases hp with ⟨h1, _⟩ | ⟨u', h1, h2, hp⟩
          · exact absurd h1 hb
          · rw [hu] at h1
            rw [Option.some.inj h1]
            exact hp
    refine mtexts_go n _ f _ c s t _ w hc hs H1 H2 (Lib.hid fun W hW => mread_any s W (h.below hW) (by omega)) (Lib.hid fun W hW => rread_any s W (by omega))

end Go.Proofs.YtnikhbdjlipcbaaDoor
