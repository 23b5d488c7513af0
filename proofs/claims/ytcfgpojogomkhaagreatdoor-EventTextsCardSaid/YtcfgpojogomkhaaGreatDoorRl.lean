/-
  novationlaw17.EventTexts walked, and true at every event and text. Condition: what the package-level variables hold.
-/
import Derived.Test.YtcfgpojogomkhaaGreatDoorRk
import Derived.Test.YtcfgpojogomkhaaGreatDoorXg
namespace Go.Proofs.YtcfgpojogomkhaaGreatDoor
open Go.RowKit

set_option maxHeartbeats 8000000 in
set_option maxRecDepth 100000 in
theorem texts_l1 (k1 i1 e1 t1 d1 : Int) (p1 n1 v1 : ByteArray) (f1 : Bool) (s : ByteArray) (w : World) (HL : Hid (∀ W, Calls Tryz.prog 9 #[.agg #[.int .u8 k1, .int .i64 i1, .int .i64 e1, .int .i64 t1, .int .i64 d1, .string p1, .string n1, .string v1, .bool f1]] W (BelB W true))) :
    Calls Tryz.prog 3 #[.agg #[.int .u8 k1, .int .i64 i1, .int .i64 e1, .int .i64 t1, .int .i64 d1, .string p1, .string n1, .string v1, .bool f1], .string s] w (BelB w true) := by
  go_enter Tryz.func3, Tryz.ntmps3
  go_wp2_with fail
  refine (HL.out _).mono ?_
  rintro e w2 ⟨rfl, b2⟩
  have B2 : Hid (Below w.heap.size w w2) := (own_below _ _).trans (b2.mono (by simp))
  have ho := (objNext (B := 0) ⟨Nat.zero_le _, objHere _ _⟩ b2).2
  have HO2 := Lib.hid ho
  obtain ⟨q0, q1, q2, q3, q4, q5, q6, q7, q8⟩ := zcells ho
  have qf := zfrozen ho
  clear ho b2
  go_wp2_with fail
  go_ret
  exact ⟨rfl, B2.out⟩
set_option maxHeartbeats 8000000 in
set_option maxRecDepth 100000 in
theorem texts_l2 (k1 i1 e1 t1 d1 : Int) (p1 n1 v1 : ByteArray) (f1 : Bool) (s : ByteArray) (w : World) (HL : Hid (∀ W, Calls Tryz.prog 9 #[.agg #[.int .u8 k1, .int .i64 i1, .int .i64 e1, .int .i64 t1, .int .i64 d1, .string p1, .string n1, .string v1, .bool f1]] W (BelB W false))) (gs : decide ((3000 : Int) < (s.size : Int)) = true) :
    Calls Tryz.prog 3 #[.agg #[.int .u8 k1, .int .i64 i1, .int .i64 e1, .int .i64 t1, .int .i64 d1, .string p1, .string n1, .string v1, .bool f1], .string s] w (BelB w true) := by
  go_enter Tryz.func3, Tryz.ntmps3
  go_wp2_with fail
  refine (HL.out _).mono ?_
  rintro e w2 ⟨rfl, b2⟩
  have B2 : Hid (Below w.heap.size w w2) := (own_below _ _).trans (b2.mono (by simp))
  have ho := (objNext (B := 0) ⟨Nat.zero_le _, objHere _ _⟩ b2).2
  have HO2 := Lib.hid ho
  obtain ⟨q0, q1, q2, q3, q4, q5, q6, q7, q8⟩ := zcells ho
  have qf := zfrozen ho
  clear ho b2
  go_wp2_with fail
  go_ret
  exact ⟨rfl, B2.out⟩
set_option maxHeartbeats 8000000 in
set_option maxRecDepth 100000 in
theorem texts_all (k1 i1 e1 t1 d1 : Int) (p1 n1 v1 : ByteArray) (f1 : Bool) (k2 i2 e2 t2 d2 : Int) (p2 n2 v2 : ByteArray) (f2 : Bool) (s t : ByteArray) (f g : Int) (w : World) (HL : Hid (∀ W, Calls Tryz.prog 9 #[.agg #[.int .u8 k1, .int .i64 i1, .int .i64 e1, .int .i64 t1, .int .i64 d1, .string p1, .string n1, .string v1, .bool f1]] W (BelB W false))) (gs : decide ((3000 : Int) < (s.size : Int)) = false)
    (HT : Hid (Ct w 10 #[.agg #[.int .u8 k1, .int .i64 i1, .int .i64 e1, .int .i64 t1, .int .i64 d1, .string p1, .string n1, .string v1, .bool f1]] (.tuple #[.string t, .int .i64 f]))) (HRT : Hid (Ca 11 #[.agg #[.int .u8 k1, .int .i64 i1, .int .i64 e1, .int .i64 t1, .int .i64 d1, .string p1, .string n1, .string v1, .bool f1]] (.tuple #[.string t, .int .i64 f])))
    (HP : Hid (Ct w 12 #[.string s] (.tuple #[.agg #[.int .u8 k2, .int .i64 i2, .int .i64 e2, .int .i64 t2, .int .i64 d2, .string p2, .string n2, .string v2, .bool f2], .int .i64 g]))) (HRP : Hid (Ca 13 #[.string s] (.tuple #[.agg #[.int .u8 k2, .int .i64 i2, .int .i64 e2, .int .i64 t2, .int .i64 d2, .string p2, .string n2, .string v2, .bool f2], .int .i64 g]))) :
    Calls Tryz.prog 3 #[.agg #[.int .u8 k1, .int .i64 i1, .int .i64 e1, .int .i64 t1, .int .i64 d1, .string p1, .string n1, .string v1, .bool f1], .string s] w (BelB w true) := by
  go_enter Tryz.func3, Tryz.ntmps3
  go_wp2_with fail
  refine (HL.out _).mono ?_
  rintro e w2 ⟨rfl, b2⟩
  have B2 : Hid (Below w.heap.size w w2) := (own_below _ _).trans (b2.mono (by simp))
  have ho := (objNext (B := 0) ⟨Nat.zero_le _, objHere _ _⟩ b2).2
  have HO2 := Lib.hid ho
  obtain ⟨q0, q1, q2, q3, q4, q5, q6, q7, q8⟩ := zcells ho
  have qf := zfrozen ho
  clear ho b2
  go_wp2_with fail
  refine (HT.out.use B2.out).mono ?_
  rintro e w3 ⟨rfl, b3⟩
  have B3 : Hid (Below w.heap.size w w3) := B2.out.trans (b3.mono B2.out.size)
  have ho := (objNext (B := 0) ⟨Nat.zero_le _, HO2.out⟩ b3).2
  have HO3 := Lib.hid ho
  clear q0 q1 q2 q3 q4 q5 q6 q7 q8 qf
  obtain ⟨q0, q1, q2, q3, q4, q5, q6, q7, q8⟩ := zcells ho
  have qf := zfrozen ho
  clear ho
  clear b3
  go_wp2_with fail
  refine (HRT.out _).mono ?_
  rintro e w4 ⟨rfl, b4⟩
  have B4 : Hid (Below w.heap.size w w4) := B3.out.trans (b4.mono B3.out.size)
  have ho := (objNext (B := 0) ⟨Nat.zero_le _, HO3.out⟩ b4).2
  have HO4 := Lib.hid ho
  clear q0 q1 q2 q3 q4 q5 q6 q7 q8 qf
  obtain ⟨q0, q1, q2, q3, q4, q5, q6, q7, q8⟩ := zcells ho
  have qf := zfrozen ho
  clear ho
  clear b4
  go_wp2_with fail
  refine (HP.out.use B4.out).mono ?_
  rintro e w5 ⟨rfl, b5⟩
  have B5 : Hid (Below w.heap.size w w5) := B4.out.trans (b5.mono B4.out.size)
  clear q0 q1 q2 q3 q4 q5 q6 q7 q8 qf
  clear b5
  have B5a : Hid (Below w.heap.size w (w5.alloc (.cells #[.int .u8 k2, .int .i64 i2, .int .i64 e2, .int .i64 t2, .int .i64 d2, .string p2, .string n2, .string v2, .bool f2] 24))) := B5.out.alloc B5.out.size _
  go_wp2_with fail
  refine (HRP.out _).mono ?_
  rintro e w6 ⟨rfl, b6⟩
  have B6 : Hid (Below w.heap.size w w6) := B5a.out.trans (b6.mono B5a.out.size)
  have ho := (objNext (B := 0) ⟨Nat.zero_le _, objHere _ _⟩ b6).2
  have hlt := objLt ho
  have HO6 := Lib.hid ho
  obtain ⟨q0, q1, q2, q3, q4, q5, q6, q7, q8⟩ := zcells ho
  have qf := zfrozen ho
  clear ho b6
  go_wp2_with fail
  go_ret
  exact ⟨rfl, B6.out.alloc B6.out.size _⟩

theorem texts_any (x : Ev) (s : ByteArray) (w : World) (h : Env w) : Calls Tryz.prog 3 #[evV x, .string s] w (BelB w true) := by
  cases hx : longB x with
  | true => exact texts_l1 _ _ _ _ _ _ _ _ _ s w (long_hid x _ hx)
  | false =>
    have h1 := long_hid x _ hx
    have sx := longB_value hx
    by_cases hs : 3000 < s.size
    · exact texts_l2 _ _ _ _ _ _ _ _ _ s w h1 (by simp; omega)
    · have gs : decide ((3000 : Int) < (s.size : Int)) = false := by simp; omega
      obtain ⟨t, f, HT, HRT⟩ : ∃ (t : ByteArray) (f : Int), Hid (Ct w 10 #[evV x] (.tuple #[.string t, .int .i64 f])) ∧ Hid (Ca 11 #[evV x] (.tuple #[.string t, .int .i64 f])) := by
        have hr := rtext_any x (by omega)
        cases hv : valB x with
        | true =>
          rw [hv] at hr
          exact ⟨joinS (textW x), 0, text_ct h (by omega) hv, hr⟩
        | false =>
          rw [hv] at hr
          exact ⟨⟨#[]⟩, 8, text_no_ct (by omega) hv, hr⟩
      have hp := rparse_any s (by omega)
      by_cases hr : ReadsW (wordsOf s)
      · obtain ⟨hv3, hj⟩ := join_reads hr
        have HP := Lib.hid (parse_ct h hv3 (by rw [hj]; omega))
        rw [hj] at HP
        have HRP : Hid (Ca 13 #[.string s] (.tuple #[evV (evOf (wordsOf s)), .int .i64 0])) := fun W => (hp W).mono fun e w' h => by
          obtain ⟨hb, ⟨_, he⟩ | ⟨hn, _⟩⟩ := h
          · exact ⟨he, hb⟩
          · exact absurd hr hn
        exact texts_all _ _ _ _ _ _ _ _ _ _ _ _ _ _ _ _ _ _ s t f 0 w h1 gs HT HRT HP HRP
      · have HP := Lib.hid (parse_no_ct h s (by omega) hr)
        have HRP : Hid (Ca 13 #[.string s] (.tuple #[zEv, .int .i64 12])) := fun W => (hp W).mono fun e w' h => by
          obtain ⟨hb, ⟨hy, _⟩ | ⟨_, he⟩⟩ := h
          · exact absurd hy hr
          · exact ⟨he, hb⟩
        exact texts_all _ _ _ _ _ _ _ _ _ _ _ _ _ _ _ _ _ _ s t f 12 w h1 gs HT HRT HP HRP

end Go.Proofs.YtcfgpojogomkhaaGreatDoor
