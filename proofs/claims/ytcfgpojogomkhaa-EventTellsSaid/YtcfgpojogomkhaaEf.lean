/-
  The law EventTells walked. No condition.
-/
import Derived.Test.YtcfgpojogomkhaaEe
import Derived.Test.YtcfgpojogomkhaaEvb
import Derived.Test.YtcfgpojogomkhaaEvl
import Derived.Test.YtcfgpojogomkhaaBel
namespace Go.Proofs.Ytcfgpojogomkhaa
open Go.RowKit

theorem encEv_agg (x : Ev) : aggEv x = .agg #[.int .u8 x.kind, .int .i64 x.id, .int .i64 x.entry, .int .i64 x.target, .int .i64 x.date, .string x.party, .string x.name, .string x.value, .bool x.first] := rfl

theorem longB_value {x : Ev} (h : longB x = false) : x.value.size ≤ 100000 := by unfold longB at h; simp at h; omega

theorem cmp_bel (w : World) (o1 o2 o3 : Obj) : Below w.heap.size w (((w.alloc o1).alloc o2).drew.alloc o3) :=
  ((((Below.refl _ _).alloc (Nat.le_refl _) o1).alloc (by simp <;> omega) o2).drew).alloc (by simp <;> omega) o3

set_option maxHeartbeats 4000000 in
set_option maxRecDepth 100000 in
theorem tells_both (k1 i1 e1 t1 d1 k2 i2 e2 t2 d2 : Int) (p1 n1 v1 p2 n2 v2 : ByteArray) (f1 f2 : Bool) (w : World) (cv : Bool) (n c : Int)
    (HL1 : Hid (∀ W, Calls Try.prog 5 #[.agg #[.int .u8 k1, .int .i64 i1, .int .i64 e1, .int .i64 t1, .int .i64 d1, .string p1, .string n1, .string v1, .bool f1]] W (BelB W false)))
    (HL2 : Hid (∀ W, Calls Try.prog 5 #[.agg #[.int .u8 k2, .int .i64 i2, .int .i64 e2, .int .i64 t2, .int .i64 d2, .string p2, .string n2, .string v2, .bool f2]] W (BelB W false)))
    (HC : Hid (∀ W, Calls Try.prog 9 #[.agg #[.int .u8 k1, .int .i64 i1, .int .i64 e1, .int .i64 t1, .int .i64 d1, .string p1, .string n1, .string v1, .bool f1]] W fun e w' => e = .returned (.int .i64 n) ∧ Below W.heap.size W w')) (hn : (n == 0) = cv)
    (HV : Hid (∀ W, Calls Try.prog 10 #[.agg #[.int .u8 k1, .int .i64 i1, .int .i64 e1, .int .i64 t1, .int .i64 d1, .string p1, .string n1, .string v1, .bool f1]] W (BelB W cv)))
    (HM : Hid (∀ W, Calls Try.prog 11 #[.agg #[.int .u8 k1, .int .i64 i1, .int .i64 e1, .int .i64 t1, .int .i64 d1, .string p1, .string n1, .string v1, .bool f1], .agg #[.int .u8 k2, .int .i64 i2, .int .i64 e2, .int .i64 t2, .int .i64 d2, .string p2, .string n2, .string v2, .bool f2]] W fun e w' => e = .returned (.int .i64 c) ∧ Below W.heap.size W w'))
    (HR : Hid (∀ W, Calls Try.prog 12 #[.agg #[.int .u8 k1, .int .i64 i1, .int .i64 e1, .int .i64 t1, .int .i64 d1, .string p1, .string n1, .string v1, .bool f1], .agg #[.int .u8 k2, .int .i64 i2, .int .i64 e2, .int .i64 t2, .int .i64 d2, .string p2, .string n2, .string v2, .bool f2]] W fun e w' => e = .returned (.int .i64 c) ∧ Below W.heap.size W w')) :
    Calls Try.prog 4 #[.agg #[.int .u8 k1, .int .i64 i1, .int .i64 e1, .int .i64 t1, .int .i64 d1, .string p1, .string n1, .string v1, .bool f1], .agg #[.int .u8 k2, .int .i64 i2, .int .i64 e2, .int .i64 t2, .int .i64 d2, .string p2, .string n2, .string v2, .bool f2]] w (BelB w true) := by
  go_enter Try.func4, Try.ntmps4
  go_wp2_with fail
  refine (HL1.out _).mono ?_
  rintro e w2 ⟨rfl, b2⟩
  have B2 := Lib.hid b2
  have a0 : w2.cell? ⟨w.heap.size, 0, none⟩ = some (.int .u8 k1) := by rw [(bcell b2).1 _ _ (by simp <;> omega)]; simp [go_sem]
  have a1 : w2.cell? ⟨w.heap.size, 1, none⟩ = some (.int .i64 i1) := by rw [(bcell b2).1 _ _ (by simp <;> omega)]; simp [go_sem]
  have a2 : w2.cell? ⟨w.heap.size, 2, none⟩ = some (.int .i64 e1) := by rw [(bcell b2).1 _ _ (by simp <;> omega)]; simp [go_sem]
  have a3 : w2.cell? ⟨w.heap.size, 3, none⟩ = some (.int .i64 t1) := by rw [(bcell b2).1 _ _ (by simp <;> omega)]; simp [go_sem]
  have a4 : w2.cell? ⟨w.heap.size, 4, none⟩ = some (.int .i64 d1) := by rw [(bcell b2).1 _ _ (by simp <;> omega)]; simp [go_sem]
  have a5 : w2.cell? ⟨w.heap.size, 5, none⟩ = some (.string p1) := by rw [(bcell b2).1 _ _ (by simp <;> omega)]; simp [go_sem]
  have a6 : w2.cell? ⟨w.heap.size, 6, none⟩ = some (.string n1) := by rw [(bcell b2).1 _ _ (by simp <;> omega)]; simp [go_sem]
  have a7 : w2.cell? ⟨w.heap.size, 7, none⟩ = some (.string v1) := by rw [(bcell b2).1 _ _ (by simp <;> omega)]; simp [go_sem]
  have a8 : w2.cell? ⟨w.heap.size, 8, none⟩ = some (.bool f1) := by rw [(bcell b2).1 _ _ (by simp <;> omega)]; simp [go_sem]
  have c0 : w2.cell? ⟨w.heap.size + 1, 0, none⟩ = some (.int .u8 k2) := by rw [(bcell b2).1 _ _ (by simp <;> omega)]; simp [go_sem]
  have c1 : w2.cell? ⟨w.heap.size + 1, 1, none⟩ = some (.int .i64 i2) := by rw [(bcell b2).1 _ _ (by simp <;> omega)]; simp [go_sem]
  have c2 : w2.cell? ⟨w.heap.size + 1, 2, none⟩ = some (.int .i64 e2) := by rw [(bcell b2).1 _ _ (by simp <;> omega)]; simp [go_sem]
  have c3 : w2.cell? ⟨w.heap.size + 1, 3, none⟩ = some (.int .i64 t2) := by rw [(bcell b2).1 _ _ (by simp <;> omega)]; simp [go_sem]
  have c4 : w2.cell? ⟨w.heap.size + 1, 4, none⟩ = some (.int .i64 d2) := by rw [(bcell b2).1 _ _ (by simp <;> omega)]; simp [go_sem]
  have c5 : w2.cell? ⟨w.heap.size + 1, 5, none⟩ = some (.string p2) := by rw [(bcell b2).1 _ _ (by simp <;> omega)]; simp [go_sem]
  have c6 : w2.cell? ⟨w.heap.size + 1, 6, none⟩ = some (.string n2) := by rw [(bcell b2).1 _ _ (by simp <;> omega)]; simp [go_sem]
  have c7 : w2.cell? ⟨w.heap.size + 1, 7, none⟩ = some (.string v2) := by rw [(bcell b2).1 _ _ (by simp <;> omega)]; simp [go_sem]
  have c8 : w2.cell? ⟨w.heap.size + 1, 8, none⟩ = some (.bool f2) := by rw [(bcell b2).1 _ _ (by simp <;> omega)]; simp [go_sem]
  clear b2
  go_wp2_with fail
  refine (HL2.out _).mono ?_
  rintro e w3 ⟨rfl, b3⟩
  have B3 : Hid (Below w.heap.size w w3) := ((own_below _ _).trans ((own_below _ _).mono (by simp <;> omega))).trans ((B2.out.mono (by simp <;> omega)).trans (b3.mono (Nat.le_trans (by simp <;> omega) B2.out.size)))
  have a0' : ∀ p : BelOf w3, p.u.cell? ⟨w.heap.size, 0, none⟩ = some (.int .u8 k1) := cell_bel (((bcell b3).1 _ _ (cell_lt a0)).trans a0)
  have a1' : ∀ p : BelOf w3, p.u.cell? ⟨w.heap.size, 1, none⟩ = some (.int .i64 i1) := cell_bel (((bcell b3).1 _ _ (cell_lt a1)).trans a1)
  have a2' : ∀ p : BelOf w3, p.u.cell? ⟨w.heap.size, 2, none⟩ = some (.int .i64 e1) := cell_bel (((bcell b3).1 _ _ (cell_lt a2)).trans a2)
  have a3' : ∀ p : BelOf w3, p.u.cell? ⟨w.heap.size, 3, none⟩ = some (.int .i64 t1) := cell_bel (((bcell b3).1 _ _ (cell_lt a3)).trans a3)
  have a4' : ∀ p : BelOf w3, p.u.cell? ⟨w.heap.size, 4, none⟩ = some (.int .i64 d1) := cell_bel (((bcell b3).1 _ _ (cell_lt a4)).trans a4)
  have a5' : ∀ p : BelOf w3, p.u.cell? ⟨w.heap.size, 5, none⟩ = some (.string p1) := cell_bel (((bcell b3).1 _ _ (cell_lt a5)).trans a5)
  have a6' : ∀ p : BelOf w3, p.u.cell? ⟨w.heap.size, 6, none⟩ = some (.string n1) := cell_bel (((bcell b3).1 _ _ (cell_lt a6)).trans a6)
  have a7' : ∀ p : BelOf w3, p.u.cell? ⟨w.heap.size, 7, none⟩ = some (.string v1) := cell_bel (((bcell b3).1 _ _ (cell_lt a7)).trans a7)
  have a8' : ∀ p : BelOf w3, p.u.cell? ⟨w.heap.size, 8, none⟩ = some (.bool f1) := cell_bel (((bcell b3).1 _ _ (cell_lt a8)).trans a8)
  have c0' : ∀ p : BelOf w3, p.u.cell? ⟨w.heap.size + 1, 0, none⟩ = some (.int .u8 k2) := cell_bel (((bcell b3).1 _ _ (cell_lt c0)).trans c0)
  have c1' : ∀ p : BelOf w3, p.u.cell? ⟨w.heap.size + 1, 1, none⟩ = some (.int .i64 i2) := cell_bel (((bcell b3).1 _ _ (cell_lt c1)).trans c1)
  have c2' : ∀ p : BelOf w3, p.u.cell? ⟨w.heap.size + 1, 2, none⟩ = some (.int .i64 e2) := cell_bel (((bcell b3).1 _ _ (cell_lt c2)).trans c2)
  have c3' : ∀ p : BelOf w3, p.u.cell? ⟨w.heap.size + 1, 3, none⟩ = some (.int .i64 t2) := cell_bel (((bcell b3).1 _ _ (cell_lt c3)).trans c3)
  have c4' : ∀ p : BelOf w3, p.u.cell? ⟨w.heap.size + 1, 4, none⟩ = some (.int .i64 d2) := cell_bel (((bcell b3).1 _ _ (cell_lt c4)).trans c4)
  have c5' : ∀ p : BelOf w3, p.u.cell? ⟨w.heap.size + 1, 5, none⟩ = some (.string p2) := cell_bel (((bcell b3).1 _ _ (cell_lt c5)).trans c5)
  have c6' : ∀ p : BelOf w3, p.u.cell? ⟨w.heap.size + 1, 6, none⟩ = some (.string n2) := cell_bel (((bcell b3).1 _ _ (cell_lt c6)).trans c6)
  have c7' : ∀ p : BelOf w3, p.u.cell? ⟨w.heap.size + 1, 7, none⟩ = some (.string v2) := cell_bel (((bcell b3).1 _ _ (cell_lt c7)).trans c7)
  have c8' : ∀ p : BelOf w3, p.u.cell? ⟨w.heap.size + 1, 8, none⟩ = some (.bool f2) := cell_bel (((bcell b3).1 _ _ (cell_lt c8)).trans c8)
  clear a0 a1 a2 a3 a4 a5 a6 a7 a8 c0 c1 c2 c3 c4 c5 c6 c7 c8
  clear b3 B2
  go_upto_region 3 with (fail)
  refine region_bel (by kernel_rfl) (by kernel_rfl) ?_
  repeat (quiet_step (first
    | (go_at_call 9; exact bel_of (HC.out _))
    | (go_at_call 10; exact bel_of (HV.out _))
    | (go_at_call 11; exact bel_of (HM.out _))
    | (go_at_call 12; exact bel_of (HR.out _))))
  refine wpQuiet_nil ?_
  intro w4 hw4
  obtain ⟨⟨w5, hw5⟩, hw6⟩ := hw4
  subst hw6
  go_wp2
  go_ret
  exact ⟨rfl, B3.out.trans (hw5.mono B3.out.size)⟩

set_option maxHeartbeats 4000000 in
set_option maxRecDepth 100000 in
theorem tells_long (k1 i1 e1 t1 d1 k2 i2 e2 t2 d2 : Int) (p1 n1 v1 p2 n2 v2 : ByteArray) (f1 f2 : Bool) (w : World)
    (HL1 : Hid (∀ W, Calls Try.prog 5 #[.agg #[.int .u8 k1, .int .i64 i1, .int .i64 e1, .int .i64 t1, .int .i64 d1, .string p1, .string n1, .string v1, .bool f1]] W (BelB W true))) :
    Calls Try.prog 4 #[.agg #[.int .u8 k1, .int .i64 i1, .int .i64 e1, .int .i64 t1, .int .i64 d1, .string p1, .string n1, .string v1, .bool f1], .agg #[.int .u8 k2, .int .i64 i2, .int .i64 e2, .int .i64 t2, .int .i64 d2, .string p2, .string n2, .string v2, .bool f2]] w (BelB w true) := by
  go_enter Try.func4, Try.ntmps4
  go_wp2_with fail
  refine (HL1.out _).mono ?_
  rintro e w2 ⟨rfl, b2⟩
  have B2 := Lib.hid b2
  clear b2
  go_wp2_with fail
  go_ret
  exact ⟨rfl, ((own_below _ _).trans ((own_below _ _).mono (by simp <;> omega))).trans (B2.out.mono (by simp <;> omega))⟩

set_option maxHeartbeats 4000000 in
set_option maxRecDepth 100000 in
theorem tells_one (k1 i1 e1 t1 d1 k2 i2 e2 t2 d2 : Int) (p1 n1 v1 p2 n2 v2 : ByteArray) (f1 f2 : Bool) (w : World) (b : Bool)
    (HL1 : Hid (∀ W, Calls Try.prog 5 #[.agg #[.int .u8 k1, .int .i64 i1, .int .i64 e1, .int .i64 t1, .int .i64 d1, .string p1, .string n1, .string v1, .bool f1]] W (BelB W b)))
    (HL2 : Hid (∀ W, Calls Try.prog 5 #[.agg #[.int .u8 k2, .int .i64 i2, .int .i64 e2, .int .i64 t2, .int .i64 d2, .string p2, .string n2, .string v2, .bool f2]] W (BelB W true))) :
    Calls Try.prog 4 #[.agg #[.int .u8 k1, .int .i64 i1, .int .i64 e1, .int .i64 t1, .int .i64 d1, .string p1, .string n1, .string v1, .bool f1], .agg #[.int .u8 k2, .int .i64 i2, .int .i64 e2, .int .i64 t2, .int .i64 d2, .string p2, .string n2, .string v2, .bool f2]] w (BelB w true) := by
  go_enter Try.func4, Try.ntmps4
  go_wp2_with fail
  refine (HL1.out _).mono ?_
  rintro e w2 ⟨rfl, b2⟩
  have B2 := Lib.hid b2
  have c0 : w2.cell? ⟨w.heap.size + 1, 0, none⟩ = some (.int .u8 k2) := by rw [(bcell b2).1 _ _ (by simp <;> omega)]; simp [go_sem]
  have c1 : w2.cell? ⟨w.heap.size + 1, 1, none⟩ = some (.int .i64 i2) := by rw [(bcell b2).1 _ _ (by simp <;> omega)]; simp [go_sem]
  have c2 : w2.cell? ⟨w.heap.size + 1, 2, none⟩ = some (.int .i64 e2) := by rw [(bcell b2).1 _ _ (by simp <;> omega)]; simp [go_sem]
  have c3 : w2.cell? ⟨w.heap.size + 1, 3, none⟩ = some (.int .i64 t2) := by rw [(bcell b2).1 _ _ (by simp <;> omega)]; simp [go_sem]
  have c4 : w2.cell? ⟨w.heap.size + 1, 4, none⟩ = some (.int .i64 d2) := by rw [(bcell b2).1 _ _ (by simp <;> omega)]; simp [go_sem]
  have c5 : w2.cell? ⟨w.heap.size + 1, 5, none⟩ = some (.string p2) := by rw [(bcell b2).1 _ _ (by simp <;> omega)]; simp [go_sem]
  have c6 : w2.cell? ⟨w.heap.size + 1, 6, none⟩ = some (.string n2) := by rw [(bcell b2).1 _ _ (by simp <;> omega)]; simp [go_sem]
  have c7 : w2.cell? ⟨w.heap.size + 1, 7, none⟩ = some (.string v2) := by rw [(bcell b2).1 _ _ (by simp <;> omega)]; simp [go_sem]
  have c8 : w2.cell? ⟨w.heap.size + 1, 8, none⟩ = some (.bool f2) := by rw [(bcell b2).1 _ _ (by simp <;> omega)]; simp [go_sem]
  clear b2
  cases b with
  | true =>
    go_wp2_with fail
    go_ret
    exact ⟨rfl, ((own_below _ _).trans ((own_below _ _).mono (by simp <;> omega))).trans (B2.out.mono (by simp <;> omega))⟩
  | false =>
    go_wp2_with fail
    refine (HL2.out _).mono ?_
    rintro e w3 ⟨rfl, b3⟩
    have B3 : Hid (Below w.heap.size w w3) := ((own_below _ _).trans ((own_below _ _).mono (by simp <;> omega))).trans ((B2.out.mono (by simp <;> omega)).trans (b3.mono (Nat.le_trans (by simp <;> omega) B2.out.size)))
    clear b3 B2
    go_wp2_with fail
    go_ret
    exact ⟨rfl, B3.out⟩

theorem tells_any (x y : Ev) (w : World) (hx : 0 ≤ x.kind ∧ x.kind ≤ 255) (hy : 0 ≤ y.kind ∧ y.kind ≤ 255) : Calls Try.prog 4 #[aggEv x, aggEv y] w (BelB w true) := by
  have hl : ∀ z : Ev, Hid (∀ W, Calls Try.prog 5 #[.agg #[.int .u8 z.kind, .int .i64 z.id, .int .i64 z.entry, .int .i64 z.target, .int .i64 z.date, .string z.party, .string z.name, .string z.value, .bool z.first]] W (BelB W (longB z))) := fun z W => long_any _ _ _ _ _ _ _ _ _ W
  have h1 := hl x
  have h2 := hl y
  clear hl
  rw [encEv_agg, encEv_agg]
  cases l2 : longB y with
  | true => rw [l2] at h2; exact tells_one _ _ _ _ _ _ _ _ _ _ _ _ _ _ _ _ _ _ w _ h1 h2
  | false =>
    cases l1 : longB x with
    | true => rw [l1] at h1; rw [l2] at h2; exact tells_long _ _ _ _ _ _ _ _ _ _ _ _ _ _ _ _ _ _ w h1
    | false =>
      rw [l1] at h1; rw [l2] at h2
      refine tells_both _ _ _ _ _ _ _ _ _ _ _ _ _ _ _ _ _ _ w (valB x) (if valB x = true then 0 else 8) (cmpEv x y) h1 h2 (fun W => check_ev x W (longB_value l1)) (by cases valB x <;> rfl) (fun W => valid_ev x W (longB_value l1)) (fun W => ?_) (fun W => ?_)
      · refine (compare_any x.kind x.id x.entry x.target x.date y.kind y.id y.entry y.target y.date x.party x.name x.value y.party y.name y.value x.first y.first W).mono ?_
        rintro e w' ⟨h, o1, o2, o3, rfl⟩
        exact ⟨h, cmp_bel _ _ _ _⟩
      · refine (refCompare_any x.kind x.id x.entry x.target x.date y.kind y.id y.entry y.target y.date x.party x.name x.value y.party y.name y.value x.first y.first W hx.1 hx.2 hy.1 hy.2).mono ?_
        rintro e w' ⟨h, o1, o2, o3, rfl⟩
        exact ⟨h, cmp_bel _ _ _ _⟩

end Go.Proofs.Ytcfgpojogomkhaa
