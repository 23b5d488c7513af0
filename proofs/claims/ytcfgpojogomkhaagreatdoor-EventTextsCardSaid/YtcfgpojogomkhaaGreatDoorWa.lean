/-
  The program's Text of an event, kind by kind (side). Condition: the contracts of the callees, as hypotheses.
-/
import Derived.Test.YtcfgpojogomkhaaGreatDoorVv
namespace Go.Proofs.YtcfgpojogomkhaaGreatDoor
open Go.RowKit

set_option maxHeartbeats 8000000 in
set_option maxRecDepth 100000 in
theorem text_4 (i1 e1 t1 d1 : Int) (p1 n1 v1 : ByteArray) (f1 : Bool) (w : World) (sd st si se ss : ByteArray)
    (HC : Hid (Ct w 16 #[.agg #[.int .u8 4, .int .i64 i1, .int .i64 e1, .int .i64 t1, .int .i64 d1, .string p1, .string n1, .string v1, .bool f1]] (.int .i64 0)))
    (HD : Hid (Ct w 22 #[.int .i64 d1] (.tuple #[.string sd, .int .i64 0])))
    (HT : Hid (Ct w 23 #[.int .i64 t1] (.string st)))
    (HI : Hid (Ct w 23 #[.int .i64 i1] (.string si)))
    (HE : Hid (Ct w 23 #[.int .i64 e1] (.string se)))
    (HS : Hid (∀ W, Calls Tryz.prog 24 #[.bool f1] W (RetS W ss)))
    (HLEN : (Lib.join (([⟨#[115, 105, 100, 101]⟩, si, se, st, ss] : List ByteArray).map (·.data.toList)) [32]).length ≤ 140737488355328) :
    Calls Tryz.prog 10 #[.agg #[.int .u8 4, .int .i64 i1, .int .i64 e1, .int .i64 t1, .int .i64 d1, .string p1, .string n1, .string v1, .bool f1]] w (TPost w ⟨(Lib.join (([⟨#[115, 105, 100, 101]⟩, si, se, st, ss] : List ByteArray).map (·.data.toList)) [32]).toArray⟩ 0) := by
  go_enter Tryz.func10, Tryz.ntmps10
  go_wp2_with fail
  refine (HC.out.use (own_below _ _)).mono ?_
  rintro e w2 ⟨rfl, b2⟩
  have B2 : Hid (Below w.heap.size w w2) := (own_below _ _).trans (b2.mono (by simp))
  have a0 : w2.cell? ⟨w.heap.size, 0, none⟩ = some (.int .u8 4) := by rw [(bcell b2).1 _ _ (by simp)]; simp [go_sem]
  have a1 : w2.cell? ⟨w.heap.size, 1, none⟩ = some (.int .i64 i1) := by rw [(bcell b2).1 _ _ (by simp)]; simp [go_sem]
  have a2 : w2.cell? ⟨w.heap.size, 2, none⟩ = some (.int .i64 e1) := by rw [(bcell b2).1 _ _ (by simp)]; simp [go_sem]
  have a3 : w2.cell? ⟨w.heap.size, 3, none⟩ = some (.int .i64 t1) := by rw [(bcell b2).1 _ _ (by simp)]; simp [go_sem]
  have a4 : w2.cell? ⟨w.heap.size, 4, none⟩ = some (.int .i64 d1) := by rw [(bcell b2).1 _ _ (by simp)]; simp [go_sem]
  have a5 : w2.cell? ⟨w.heap.size, 5, none⟩ = some (.string p1) := by rw [(bcell b2).1 _ _ (by simp)]; simp [go_sem]
  have a6 : w2.cell? ⟨w.heap.size, 6, none⟩ = some (.string n1) := by rw [(bcell b2).1 _ _ (by simp)]; simp [go_sem]
  have a7 : w2.cell? ⟨w.heap.size, 7, none⟩ = some (.string v1) := by rw [(bcell b2).1 _ _ (by simp)]; simp [go_sem]
  have a8 : w2.cell? ⟨w.heap.size, 8, none⟩ = some (.bool f1) := by rw [(bcell b2).1 _ _ (by simp)]; simp [go_sem]
  have hs2 : w.heap.size < w2.heap.size := Nat.lt_of_lt_of_le (by simp) b2.size
  clear b2
  go_wp2_with fail
  refine (HD.out.use B2.out).mono ?_
  rintro e w3 ⟨rfl, b3⟩
  have B3 : Hid (Below w.heap.size w w3) := B2.out.trans (b3.mono B2.out.size)
  have c0 : w3.cell? ⟨w.heap.size, 0, none⟩ = some (.int .u8 4) := ((bcell b3).1 _ _ hs2).trans a0
  have c1 : w3.cell? ⟨w.heap.size, 1, none⟩ = some (.int .i64 i1) := ((bcell b3).1 _ _ hs2).trans a1
  have c2 : w3.cell? ⟨w.heap.size, 2, none⟩ = some (.int .i64 e1) := ((bcell b3).1 _ _ hs2).trans a2
  have c3 : w3.cell? ⟨w.heap.size, 3, none⟩ = some (.int .i64 t1) := ((bcell b3).1 _ _ hs2).trans a3
  have c4 : w3.cell? ⟨w.heap.size, 4, none⟩ = some (.int .i64 d1) := ((bcell b3).1 _ _ hs2).trans a4
  have c5 : w3.cell? ⟨w.heap.size, 5, none⟩ = some (.string p1) := ((bcell b3).1 _ _ hs2).trans a5
  have c6 : w3.cell? ⟨w.heap.size, 6, none⟩ = some (.string n1) := ((bcell b3).1 _ _ hs2).trans a6
  have c7 : w3.cell? ⟨w.heap.size, 7, none⟩ = some (.string v1) := ((bcell b3).1 _ _ hs2).trans a7
  have c8 : w3.cell? ⟨w.heap.size, 8, none⟩ = some (.bool f1) := ((bcell b3).1 _ _ hs2).trans a8
  have hs3 : w.heap.size < w3.heap.size := Nat.lt_of_lt_of_le hs2 b3.size
  clear b3 B2 hs2 a0 a1 a2 a3 a4 a5 a6 a7 a8
  go_wp2_with fail
  refine (HT.out.use B3.out).mono ?_
  rintro e w4 ⟨rfl, b4⟩
  have B4 : Hid (Below w.heap.size w w4) := B3.out.trans (b4.mono B3.out.size)
  have k0 : w4.cell? ⟨w.heap.size, 0, none⟩ = some (.int .u8 4) := ((bcell b4).1 _ _ hs3).trans c0
  have k1 : w4.cell? ⟨w.heap.size, 1, none⟩ = some (.int .i64 i1) := ((bcell b4).1 _ _ hs3).trans c1
  have k2 : w4.cell? ⟨w.heap.size, 2, none⟩ = some (.int .i64 e1) := ((bcell b4).1 _ _ hs3).trans c2
  have k3 : w4.cell? ⟨w.heap.size, 3, none⟩ = some (.int .i64 t1) := ((bcell b4).1 _ _ hs3).trans c3
  have k4 : w4.cell? ⟨w.heap.size, 4, none⟩ = some (.int .i64 d1) := ((bcell b4).1 _ _ hs3).trans c4
  have k5 : w4.cell? ⟨w.heap.size, 5, none⟩ = some (.string p1) := ((bcell b4).1 _ _ hs3).trans c5
  have k6 : w4.cell? ⟨w.heap.size, 6, none⟩ = some (.string n1) := ((bcell b4).1 _ _ hs3).trans c6
  have k7 : w4.cell? ⟨w.heap.size, 7, none⟩ = some (.string v1) := ((bcell b4).1 _ _ hs3).trans c7
  have k8 : w4.cell? ⟨w.heap.size, 8, none⟩ = some (.bool f1) := ((bcell b4).1 _ _ hs3).trans c8
  have hs4 : w.heap.size < w4.heap.size := Nat.lt_of_lt_of_le hs3 b4.size
  clear b4 B3 hs3 c0 c1 c2 c3 c4 c5 c6 c7 c8
  go_upto_region 15 with (fail)
  go_upto_region 16 with (go_at_call 24; refine (HS.out _).mono ?_; rintro e w' ⟨rfl, rfl⟩)
  obtain ⟨w5, hw5⟩ : ∃ w5, w5 = ((w4.alloc (.cells #[.string st] 9)).alloc (.cells #[.string st, .string ss] 9)) := ⟨_, rfl⟩
  obtain ⟨r, hr⟩ : ∃ r, r = w4.heap.size + 1 := ⟨_, rfl⟩
  have b45 : Below w4.heap.size w4 w5 := by rw [hw5]; exact (((Below.refl _ _).alloc (Nat.le_refl _) _).alloc (by simp) _)
  have B5 : Hid (Below w.heap.size w w5) := B4.out.trans (b45.mono B4.out.size)
  have m1 : w5.cell? ⟨w.heap.size, 1, none⟩ = some (.int .i64 i1) := ((bcell b45).1 _ _ hs4).trans k1
  have m2 : w5.cell? ⟨w.heap.size, 2, none⟩ = some (.int .i64 e1) := ((bcell b45).1 _ _ hs4).trans k2
  have hs5 : w.heap.size < w5.heap.size := Nat.lt_of_lt_of_le hs4 b45.size
  have hrow : RowAt w5 r 9 [.string st, .string ss] := by
    rw [hw5, hr]; exact (rowAt_alloc (by simp) rfl)
  have hrlt := hrow.lt
  rw [← hw5, ← hr]
  have HROW := Lib.hid hrow
  clear hw5 hr hrow hs4 k0 k1 k2 k3 k4 k5 k6 k7 k8 B4 b45 HC HD HT HS
  go_cut [10] (fun s10 wx => ∃ w6 : World, Below w5.heap.size w5 w6 ∧ s10 = .slice (some ⟨w6.heap.size, 0, none⟩) 3 3 ∧ w6.alloc (.cells #[.string ⟨#[115, 105, 100, 101]⟩, .string si, .string se] 9) = wx)
  case first =>
    have A : Hid (AtW w w5 i1 e1 w5) := ⟨B5.out, Below.refl _ _, m1, m2, hs5⟩
    clear B5 hs5 hrlt HROW
    go_region_with ((go_at_call 23; (first | refine (HI.out _ A.out.b).mono ?_ | refine (HI.out _ A.out.drew.b).mono ?_ | refine (HE.out _ A.out.b).mono ?_ | refine (HE.out _ A.out.drew.b).mono ?_); rintro e wq ⟨rfl, bq⟩; (first | have A := Lib.hid (A.out.next bq) | have A := Lib.hid (A.out.drew.next bq)); have m1 := A.out.m1; have m2 := A.out.m2; clear bq))
    all_goals
      go_wp2_with fail
      go_meet
      exact ⟨_, A.out.c, rfl, rfl⟩
  case rest =>
  obtain ⟨w6, b6, rfl, rfl⟩ := hcut
  have B6 : Hid (Below w.heap.size w w6) := B5.out.trans (b6.mono B5.out.size)
  have HROW6 : Hid (RowAt w6 r 9 [.string st, .string ss]) := HROW.out.below b6 hrlt
  have hr6 : r < w6.heap.size := HROW6.out.lt
  clear b6 B5 HROW hrlt hs5 m1 m2 HI HE
  obtain ⟨i0, hi, hz0, hz1, hz2⟩ := info_partsS infoStr
  have hlit : (w6.alloc (.cells #[.string ⟨#[115, 105, 100, 101]⟩, .string si, .string se] 9)).ownsRow w6.heap.size 9 1 (.slice (some ⟨w6.heap.size, 0, none⟩) 3 3) 3 [.string ⟨#[115, 105, 100, 101]⟩, .string si, .string se] := World.ownsRow_lit w6 #[.string ⟨#[115, 105, 100, 101]⟩, .string si, .string se] 3 (Nat.le_refl _) (by unfold maxLen; omega) (by simp)
  go_wp2_with (at_builtin; refine wpList_append_own _ rfl (.tmp 69) (.tmp 70) 52 rfl w6.heap.size 9 i0 (.string ByteArray.empty) 1 16 Tryz.underlying52 hi hz0 hz1 hz2 rfl (by decide) _ _ _ rfl hlit ⟨r, 0, none⟩ 2 2 [.string st, .string ss] rfl ?c0 ?c1 ?c2 ?c3 ?c4 ?c5 ?_)
  case c0 => rfl
  case c1 =>
    intro j u hj
    rw [add_plain, Nat.zero_add, World.cell?_alloc_past _ _ _ (by show r < _; omega), HROW6.out.cell (List.getElem?_eq_some_iff.1 hj).1]
    exact hj
  case c2 =>
    intro u hu
    simp only [List.mem_cons, List.not_mem_nil, or_false] at hu
    rcases hu with rfl | rfl <;> rfl
  case c3 => unfold maxLen; omega
  case c4 => omega
  case c5 => simp
  intro v7 w7 ho hgr _
  have n7 : Below w6.heap.size w6 w7 := ((Below.refl _ _).alloc (Nat.le_refl _) _).grown hgr (by simp) (fun k hk => by simp [Value.ownBlock] at hk; omega)
  have B7 : Hid (Below w.heap.size w w7) := B6.out.trans (n7.mono B6.out.size)
  have h7 : ∃ g7 c7, v7 = .slice (some ⟨g7, 0, none⟩) 5 c7 ∧ 5 ≤ c7 ∧ RowAt w7 g7 9 [.string ⟨#[115, 105, 100, 101]⟩, .string si, .string se, .string st, .string ss] := by
    rcases rowAtN_S ho with ⟨_, h, _⟩ | ⟨g, cap, h, h1, h2, h3, h4, h5⟩
    · omega
    · exact ⟨g, cap, h, h2, h5⟩
  obtain ⟨g7, c7, rfl, hc7, r7⟩ := h7
  have hj := Tryz.join g7 0 c7 [⟨#[115, 105, 100, 101]⟩, si, se, st, ss] ⟨#[32]⟩ w7 (fun j x hx => by
    have hl := (List.getElem?_eq_some_iff.1 hx).1
    rw [Nat.zero_add, r7.cell (by simpa using hl)]
    have := congrArg (Option.map Value.string) hx
    rw [← List.getElem?_map] at this
    exact this) r7.lt (by simp) (by simpa using hc7) HLEN
  have HJ := Lib.hid hj
  clear ho hgr hlit hi hz0 hz1 hz2 n7 r7 hj HROW6 B6
  go_wp2_with fail
  refine HJ.out.mono ?_
  rintro e w8 ⟨rfl, b8⟩
  have B8 := Lib.hid (B7.out.trans (b8.mono B7.out.size))
  clear b8
  go_wp2_with fail
  go_ret2
  exact ⟨rfl, B8.out⟩

end Go.Proofs.YtcfgpojogomkhaaGreatDoor
