/-
  novationlaw07.MoneyWords returns true at every amount, currency and text. Condition: what the package-level variables hold.
-/
import Derived.Test.YtnikhbdjlipcbaaGreatDoorWi
import Derived.Test.YtnikhbdjlipcbaaGreatDoorWj
namespace Go.Proofs.YtnikhbdjlipcbaaGreatDoor
open Go.RowKit Go.Shelf

def AlY (w : World) : Prop := ∀ W, Below w.heap.size w W → Calls Tryz.prog 8 #[] W (RetBD W true)
theorem alY {w : World} (hE : Env w) (hA : AwayEnv w) : Hid (AlY w) := fun W hW => alive_any W (hE.below hW) (hA.below hW)

set_option maxHeartbeats 4000000 in
set_option maxRecDepth 100000 in
theorem mwords_long (n : Int) (c s : ByteArray) (w : World) (HAL : Hid (AlY w)) (h : 1000 < c.size ∨ 1000 < s.size) : Calls Tryz.prog 4 #[.int .i64 n, .string c, .string s] w (RetBD w true) := by
  by_cases hc : 1000 < c.size
  · have g1 : decide ((1000 : Int) < (c.size : Int)) = true := by simp; omega
    clear h
    go_enter Tryz.func4, Tryz.ntmps4
    go_wp2_with fail
    refine (HAL.out _ (Below.refl _ _)).mono ?_
    rintro e w1 ⟨rfl, b1⟩
    have B1 := Lib.hid b1
    clear b1
    go_wp2_with fail
    go_ret
    exact ⟨rfl, B1.out⟩
  · have g1 : decide ((1000 : Int) < (c.size : Int)) = false := by simp; omega
    have g2 : decide ((1000 : Int) < (s.size : Int)) = true := by simp; omega
    clear h
    go_enter Tryz.func4, Tryz.ntmps4
    go_wp2_with fail
    refine (HAL.out _ (Below.refl _ _)).mono ?_
    rintro e w1 ⟨rfl, b1⟩
    have B1 := Lib.hid b1
    clear b1
    go_wp2_with fail
    go_ret
    exact ⟨rfl, B1.out⟩

set_option maxHeartbeats 4000000 in
set_option maxRecDepth 100000 in
theorem mwords_00 (n : Int) (c s : ByteArray) (w : World) (HAL : Hid (AlY w)) (hc : c.size ≤ 1000) (hs : s.size ≤ 1000) (H1 : Hid (Ct w 10 #[.int .i64 n, .string c] (.tuple #[.string ⟨#[]⟩, .int .i64 2]))) (f : Int) (hf : (f != 0) = true) (H3 : Hid (Ct w 11 #[.string s] (.tuple #[.int .i64 0, .string ⟨#[]⟩, .int .i64 f]))) : Calls Tryz.prog 4 #[.int .i64 n, .string c, .string s] w (RetBD w true) := by
  have g1 : decide ((1000 : Int) < (c.size : Int)) = false := by simp; omega
  have g2 : decide ((1000 : Int) < (s.size : Int)) = false := by simp; omega
  go_enter Tryz.func4, Tryz.ntmps4
  go_wp2_with fail
  refine (HAL.out _ (Below.refl _ _)).mono ?_
  rintro e w1 ⟨rfl, b1⟩
  have B1 := Lib.hid b1
  clear b1
  go_wp2_with fail
  refine (H1.out.use B1.out).mono ?_
  rintro e w2 ⟨rfl, b2⟩
  have B2 := Lib.hid (B1.out.trans (b2.mono B1.out.size))
  clear b2
  go_wp2_with fail
  refine (H3.out.use B2.out).mono ?_
  rintro e w3 ⟨rfl, b3⟩
  have B3 := Lib.hid (B2.out.trans (b3.mono B2.out.size))
  clear b3
  go_wp2_with fail
  go_ret
  exact ⟨rfl, B3.out⟩

set_option maxHeartbeats 4000000 in
set_option maxRecDepth 100000 in
theorem mwords_01 (n : Int) (c s : ByteArray) (w : World) (HAL : Hid (AlY w)) (hc : c.size ≤ 1000) (hs : s.size ≤ 1000) (H1 : Hid (Ct w 10 #[.int .i64 n, .string c] (.tuple #[.string ⟨#[]⟩, .int .i64 2]))) (k : Int) (d : ByteArray) (H3 : Hid (Ct w 11 #[.string s] (.tuple #[.int .i64 k, .string d, .int .i64 0]))) (H4 : Hid (Ct w 10 #[.int .i64 k, .string d] (.tuple #[.string s, .int .i64 0]))) : Calls Tryz.prog 4 #[.int .i64 n, .string c, .string s] w (RetBD w true) := by
  have g1 : decide ((1000 : Int) < (c.size : Int)) = false := by simp; omega
  have g2 : decide ((1000 : Int) < (s.size : Int)) = false := by simp; omega
  go_enter Tryz.func4, Tryz.ntmps4
  go_wp2_with fail
  refine (HAL.out _ (Below.refl _ _)).mono ?_
  rintro e w1 ⟨rfl, b1⟩
  have B1 := Lib.hid b1
  clear b1
  go_wp2_with fail
  refine (H1.out.use B1.out).mono ?_
  rintro e w2 ⟨rfl, b2⟩
  have B2 := Lib.hid (B1.out.trans (b2.mono B1.out.size))
  clear b2
  go_wp2_with fail
  refine (H3.out.use B2.out).mono ?_
  rintro e w3 ⟨rfl, b3⟩
  have B3 := Lib.hid (B2.out.trans (b3.mono B2.out.size))
  clear b3
  go_wp2_with fail
  refine (H4.out.use B3.out).mono ?_
  rintro e w4 ⟨rfl, b4⟩
  have B4 := Lib.hid (B3.out.trans (b4.mono B3.out.size))
  clear b4
  go_wp2_with fail
  go_ret
  exact ⟨rfl, B4.out⟩

set_option maxHeartbeats 4000000 in
set_option maxRecDepth 100000 in
theorem mwords_10 (n : Int) (c s : ByteArray) (w : World) (HAL : Hid (AlY w)) (hc : c.size ≤ 1000) (hs : s.size ≤ 1000) (t : ByteArray) (H1 : Hid (Ct w 10 #[.int .i64 n, .string c] (.tuple #[.string t, .int .i64 0]))) (H2 : Hid (Ct w 11 #[.string t] (.tuple #[.int .i64 n, .string c, .int .i64 0]))) (f : Int) (hf : (f != 0) = true) (H3 : Hid (Ct w 11 #[.string s] (.tuple #[.int .i64 0, .string ⟨#[]⟩, .int .i64 f]))) : Calls Tryz.prog 4 #[.int .i64 n, .string c, .string s] w (RetBD w true) := by
  have g1 : decide ((1000 : Int) < (c.size : Int)) = false := by simp; omega
  have g2 : decide ((1000 : Int) < (s.size : Int)) = false := by simp; omega
  go_enter Tryz.func4, Tryz.ntmps4
  go_wp2_with fail
  refine (HAL.out _ (Below.refl _ _)).mono ?_
  rintro e w1 ⟨rfl, b1⟩
  have B1 := Lib.hid b1
  clear b1
  go_wp2_with fail
  refine (H1.out.use B1.out).mono ?_
  rintro e w2 ⟨rfl, b2⟩
  have B2 := Lib.hid (B1.out.trans (b2.mono B1.out.size))
  clear b2
  go_wp2_with fail
  refine (H2.out.use B2.out).mono ?_
  rintro e w3 ⟨rfl, b3⟩
  have B3 := Lib.hid (B2.out.trans (b3.mono B2.out.size))
  clear b3
  go_wp2_with fail
  refine (H3.out.use B3.out).mono ?_
  rintro e w4 ⟨rfl, b4⟩
  have B4 := Lib.hid (B3.out.trans (b4.mono B3.out.size))
  clear b4
  go_wp2_with fail
  go_ret
  exact ⟨rfl, B4.out⟩

set_option maxHeartbeats 4000000 in
set_option maxRecDepth 100000 in
theorem mwords_11 (n : Int) (c s : ByteArray) (w : World) (HAL : Hid (AlY w)) (hc : c.size ≤ 1000) (hs : s.size ≤ 1000) (t : ByteArray) (H1 : Hid (Ct w 10 #[.int .i64 n, .string c] (.tuple #[.string t, .int .i64 0]))) (H2 : Hid (Ct w 11 #[.string t] (.tuple #[.int .i64 n, .string c, .int .i64 0]))) (k : Int) (d : ByteArray) (H3 : Hid (Ct w 11 #[.string s] (.tuple #[.int .i64 k, .string d, .int .i64 0]))) (H4 : Hid (Ct w 10 #[.int .i64 k, .string d] (.tuple #[.string s, .int .i64 0]))) : Calls Tryz.prog 4 #[.int .i64 n, .string c, .string s] w (RetBD w true) := by
  have g1 : decide ((1000 : Int) < (c.size : Int)) = false := by simp; omega
  have g2 : decide ((1000 : Int) < (s.size : Int)) = false := by simp; omega
  go_enter Tryz.func4, Tryz.ntmps4
  go_wp2_with fail
  refine (HAL.out _ (Below.refl _ _)).mono ?_
  rintro e w1 ⟨rfl, b1⟩
  have B1 := Lib.hid b1
  clear b1
  go_wp2_with fail
  refine (H1.out.use B1.out).mono ?_
  rintro e w2 ⟨rfl, b2⟩
  have B2 := Lib.hid (B1.out.trans (b2.mono B1.out.size))
  clear b2
  go_wp2_with fail
  refine (H2.out.use B2.out).mono ?_
  rintro e w3 ⟨rfl, b3⟩
  have B3 := Lib.hid (B2.out.trans (b3.mono B2.out.size))
  clear b3
  go_wp2_with fail
  refine (H3.out.use B3.out).mono ?_
  rintro e w4 ⟨rfl, b4⟩
  have B4 := Lib.hid (B3.out.trans (b4.mono B3.out.size))
  clear b4
  go_wp2_with fail
  refine (H4.out.use B4.out).mono ?_
  rintro e w5 ⟨rfl, b5⟩
  have B5 := Lib.hid (B4.out.trans (b5.mono B4.out.size))
  clear b5
  go_wp2_with fail
  go_ret
  exact ⟨rfl, B5.out⟩


theorem unit_nil : unitOf [] = none := rfl
theorem mwords_any (n : Int) (c s : ByteArray) (w : World) (hE : Env w) (hA : AwayEnv w) : Calls Tryz.prog 4 #[.int .i64 n, .string c, .string s] w (RetBD w true) := by
  have HAL := alY hE hA
  by_cases hl : 1000 < c.size ∨ 1000 < s.size
  · exact mwords_long n c s w HAL hl
  · have hc : c.size ≤ 1000 := by omega
    have hs : s.size ≤ 1000 := by omega
    have HR : ∀ x : ByteArray, x.size ≤ 100000 → Hid (Ct w 11 #[.string x] (.tuple #[.int .i64 (readA unitOf x.data.toList).1, .string ⟨(readA unitOf x.data.toList).2.1.toArray⟩, .int .i64 (readA unitOf x.data.toList).2.2])) := fun x hx W hW => mread_any x W (hE.below hW) hx
    have HSB : ∀ (k : Int) (d : ByteArray), d.size ≤ 100000 → (unitOf d.data.toList = none ∨ amtOK k = false) → Hid (Ct w 10 #[.int .i64 k, .string d] (.tuple #[.string ⟨#[]⟩, .int .i64 2])) := fun k d hd hb W hW =>
      (mshow_any k d W (hE.below hW) hd).mono fun e w' hp => by
        rcases hp with ⟨_, hp⟩ | ⟨u, h1, h2, _⟩
        · exact hp
        · rcases hb with hb | hb
          · rw [hb] at h1; cases h1
          · rw [hb] at h2; cases h2
    have HSG : ∀ (k : Int) (d : ByteArray) (u : Nat), d.size ≤ 100000 → unitOf d.data.toList = some u → amtOK k = true → Hid (Ct w 10 #[.int .i64 k, .string d] (.tuple #[.string ⟨(amtB k u d.data.toList).toArray⟩, .int .i64 0])) := fun k d u hd hu ha W hW =>
      (mshow_any k d W (hE.below hW) hd).mono fun e w' hp => by
        rcases hp with ⟨h1 | h1, _⟩ | ⟨u', h1, _, hp⟩
        · rw [hu] at h1; cases h1
        · rw [ha] at h1; cases h1
        · rw [hu] at h1; rw [Option.some.inj h1]; exact hp
    -- the first half
    have first : (Hid (Ct w 10 #[.int .i64 n, .string c] (.tuple #[.string ⟨#[]⟩, .int .i64 2]))) ∨ ∃ t, Hid (Ct w 10 #[.int .i64 n, .string c] (.tuple #[.string t, .int .i64 0])) ∧ Hid (Ct w 11 #[.string t] (.tuple #[.int .i64 n, .string c, .int .i64 0])) := by
      by_cases hb : unitOf c.data.toList = none ∨ amtOK n = false
      · exact .inl (HSB n c (by omega) hb)
      · right
        obtain ⟨u, hu⟩ : ∃ u, unitOf c.data.toList = some u := by
          cases hq : unitOf c.data.toList with
          | none => exact absurd (.inl hq) hb
          | some u => exact ⟨u, rfl⟩
        have ha : amtOK n = true := by
          cases hq : amtOK n with
          | false => exact absurd (.inr hq) hb
          | true => rfl
        have ha2 := ha
        unfold amtOK at ha2
        rw [decide_eq_true_eq] at ha2
        have hrd := read_show n u c.data.toList unitOf hu ha2
        have hlen : (amtB n u c.data.toList).length ≤ 100000 := by
          have hu3 := unit_le hu
          have h1 : (Lib.decDigits (n.natAbs / 10 ^ u)).length ≤ 16 := dec_len 15 _ (Nat.lt_of_le_of_lt (Nat.div_le_self _ _) (by omega))
          have h2 : c.data.toList.length ≤ 1000 := by rw [data_len]; exact hc
          unfold amtB
          rw [List.length_append, List.length_append, List.length_append, List.length_cons]
          have h3 : (if n < 0 then [45] else [] : List UInt8).length ≤ 1 := by split <;> simp
          have h4 : (if u = 0 then [] else 46 :: figB n.natAbs u : List UInt8).length ≤ 4 := by
            split
            · simp
            · rw [List.length_cons, figB_len]; omega
          omega
        refine ⟨_, HSG n c u (by omega) hu ha, ?_⟩
        have := HR ⟨(amtB n u c.data.toList).toArray⟩ (by rw [← data_len]; exact hlen)
        rw [show (⟨(amtB n u c.data.toList).toArray⟩ : ByteArray).data.toList = amtB n u c.data.toList from rfl, hrd] at this
        exact this
    have h3 := HR s (by omega)
    by_cases hf : (readA unitOf s.data.toList).2.2 = 0
    · obtain ⟨k, hk⟩ : ∃ k, k = (readA unitOf s.data.toList).1 := ⟨_, rfl⟩
      obtain ⟨d, hd⟩ : ∃ d, d = (readA unitOf s.data.toList).2.1 := ⟨_, rfl⟩
      have hall : readA unitOf s.data.toList = (k, d, 0) := by rw [hk, hd, ← hf]
      obtain ⟨u, hu, ha, hback⟩ := show_read unit_nil hall
      rw [← hk, ← hd, hf] at h3
      have hdl : d.length ≤ 1000 := by
        have h := congrArg List.length hback
        rw [data_len] at h
        unfold amtB at h
        rw [List.length_append, List.length_cons] at h
        omega
      have h4 := HSG k ⟨d.toArray⟩ u (by rw [← data_len]; show d.length ≤ _; omega) hu (by unfold amtOK; simpa using ha)
      rw [show (⟨d.toArray⟩ : ByteArray).data.toList = d from rfl, hback] at h4
      rcases first with h1 | ⟨t, h1, h2⟩
      · exact mwords_01 n c s w HAL hc hs h1 k _ h3 h4
      · exact mwords_11 n c s w HAL hc hs t h1 h2 k _ h3 h4
    · obtain ⟨e1, e2⟩ := read_no hf
      rw [e1, e2] at h3
      rcases first with h1 | ⟨t, h1, h2⟩
      · exact mwords_00 n c s w HAL hc hs h1 _ (by simpa using hf) h3
      · exact mwords_10 n c s w HAL hc hs t h1 h2 _ (by simpa using hf) h3

end Go.Proofs.YtnikhbdjlipcbaaGreatDoor
