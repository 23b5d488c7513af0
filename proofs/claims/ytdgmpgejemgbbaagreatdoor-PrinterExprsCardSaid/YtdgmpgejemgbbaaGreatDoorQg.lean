/-
  The program's leaf, walked. No condition but the size. A tree that came in, opened, its kinds in a byte's range; the map of the shapes as it is laid. No condition.
-/
import Derived.Test.YtdgmpgejemgbbaaGreatDoorQb
import Derived.Maps.Keyed
import Derived.JoinedTies
import Derived.LaidMore
import Derived.MakeChecks
namespace Go.Proofs.YtdgmpgejemgbbaaGreatDoor
open Go.RowKit

/-- A call that returns a small number and may leave blocks of its own. -/
def U8P (w : World) (v : Int) (e : Ending) (w' : World) : Prop := e = .returned (.int .u8 v) ∧ Below w.heap.size w w'
set_option maxHeartbeats 1000000 in
theorem pwithin_any (n : Int) (w : World) : Calls Tryz.prog 50 #[.int .i64 n] w (fun e w' => e = .returned (.bool (decide (0 ≤ n) && decide (n ≤ 99999))) ∧ w = w') := by
  by_cases h0 : 0 ≤ n
  · by_cases h1 : n ≤ 99999
    · have e : (decide (0 ≤ n) && decide (n ≤ 99999)) = true := by simp [h0, h1]
      rw [e]
      clear e
      go_enter Tryz.func50, Tryz.ntmps50
      go_wp2
      go_ret
      exact ⟨rfl, rfl⟩
    · have e : (decide (0 ≤ n) && decide (n ≤ 99999)) = false := by simp [h1]
      rw [e]
      clear e
      go_enter Tryz.func50, Tryz.ntmps50
      go_wp2
      go_ret
      exact ⟨rfl, rfl⟩
  · have e : (decide (0 ≤ n) && decide (n ≤ 99999)) = false := by simp [h0]
    have d0 : decide (0 ≤ n) = false := by simpa using h0
    rw [e]
    clear e
    go_enter Tryz.func50, Tryz.ntmps50
    go_wp2
    go_ret
    exact ⟨rfl, rfl⟩
/-- The sort of a leaf. -/
def lfV (k : Int) (r n : ByteArray) (d : Int) (len : Nat) : Int := if len = 0 then leafV k r n d else 0

set_option maxHeartbeats 2000000 in
set_option maxRecDepth 100000 in
theorem leaf_1 (r nm : ByteArray) (d : Int) (a : Option Addr) (len cap : Nat) (w : World) (hr : r.size ≤ 2500) :
    Calls Tryz.prog 40 #[.agg #[.int .u8 1, .string r, .string nm, .int .i64 d, .slice a len cap]] w (U8P w (lfV 1 r nm d len)) := by
  obtain ⟨bl, ql⟩ : ∃ b, ((len : Int) == 0) = b := ⟨_, rfl⟩
  obtain ⟨br, qr⟩ : ∃ b, r.toList.isEmpty = b := ⟨_, rfl⟩
  obtain ⟨bn, qn⟩ : ∃ b, nm.toList.isEmpty = b := ⟨_, rfl⟩
  obtain ⟨bd, qd⟩ : ∃ b, ((d : Int) == 0) = b := ⟨_, rfl⟩
  have HQL : Hid (bl = true ↔ len = 0) := by show bl = true ↔ _; rw [← ql]; simp
  have HQR : Hid (r.data.toList.isEmpty = br) := by show _ = br; rw [← qr, toList_data]
  have HQN : Hid (nm.data.toList.isEmpty = bn) := by show _ = bn; rw [← qn, toList_data]
  have HQD : Hid (bd = true ↔ d = 0) := by show bd = true ↔ _; rw [← qd]; simp
  obtain ⟨R, hR⟩ : ∃ R, R = lfV 1 r nm d len := ⟨_, rfl⟩
  rw [← hR]
  have HRR := Lib.hid hR
  have HCK : Hid (∀ W, Calls Tryz.prog 49 #[.string r] W (ErrPost W (chkR r.data.toList))) := fun W => qrat_any r W (by omega)
  obtain ⟨z, hzz⟩ : ∃ z, z = chkR r.data.toList := ⟨_, rfl⟩
  rw [← hzz] at HCK
  have HZZ := Lib.hid hzz
  clear hzz
  clear hR
  go_enter Tryz.func40, Tryz.ntmps40
  go_upto_region 1 with (fail)
  obtain ⟨W0, hW0⟩ : ∃ W0, W0 = w.alloc (.cells #[.int .u8 1, .string r, .string nm, .int .i64 d, .slice a len cap] 25) := ⟨_, rfl⟩
  have hbx : W0.heap[w.heap.size]? = some (.cells #[.int .u8 1, .string r, .string nm, .int .i64 d, .slice a len cap] 25) := by rw [hW0]; exact heap_alloc_new w _
  have HB0 : Hid (Below w.heap.size w W0) := by rw [hW0]; exact own_below w _
  have hzW : w.heap.size < W0.heap.size := (Array.getElem?_eq_some_iff.1 hbx).1
  rw [← hW0]
  have HBX := Lib.hid hbx
  obtain ⟨c0, c1, c2, c3, c4⟩ := exCells hbx
  clear hW0 hbx
  cases bl with
  | false =>
    have hln : len ≠ 0 := fun h => by have := HQL.out.2 h; cases this
    have e : R = 0 := by rw [HRR.out]; simp [lfV, hln]
    clear hln
    have E := Lib.hid e
    clear e
    go_wp2_with fail
    go_ret
    exact ⟨by rw [E.out]; rfl, HB0.out⟩
  | true =>
    have HLV : Hid (R = leafV 1 r nm d) := by
      have hln : len = 0 := HQL.out.1 rfl
      show R = _
      rw [HRR.out]; simp [lfV, hln]
    by_cases hz0 : z = 0
    · have qz : ((z : Int) == 0) = true := ieq_true hz0
      have HZ0 := Lib.hid hz0
      clear hz0
      cases bn with
      | false =>
        have e : R = 0 := by rw [HLV.out]; simp [leafV, HQN.out]
        have E := Lib.hid e
        clear e
        go_wp2_with fail
        refine (HCK.out _).mono ?_
        rintro e w2 ⟨rfl, hb2⟩
        have HB2 := Lib.hid (HB0.out.trans (hb2.mono HB0.out.size))
        obtain ⟨d0, d1, d2, d3, d4⟩ := exCells ((hb2.block _ hzW).trans HBX.out)
        clear hb2 c0 c1 c2 c3 c4
        go_wp2_with fail
        go_ret
        exact ⟨by rw [E.out]; rfl, HB2.out⟩
      | true =>
        cases bd with
        | false =>
          have e : R = 0 := by
            have hd : d ≠ 0 := fun h => by have := HQD.out.2 h; cases this
            rw [HLV.out]; simp [leafV, hd]
          have E := Lib.hid e
          clear e
          go_wp2_with fail
          refine (HCK.out _).mono ?_
          rintro e w2 ⟨rfl, hb2⟩
          have HB2 := Lib.hid (HB0.out.trans (hb2.mono HB0.out.size))
          obtain ⟨d0, d1, d2, d3, d4⟩ := exCells ((hb2.block _ hzW).trans HBX.out)
          clear hb2 c0 c1 c2 c3 c4
          go_wp2_with fail
          go_ret
          exact ⟨by rw [E.out]; rfl, HB2.out⟩
        | true =>
          have e : R = 1 := by
            have hd : d = 0 := HQD.out.1 rfl
            rw [HLV.out]; simp [leafV, hd, HQN.out, ← HZZ.out, HZ0.out]
          have E := Lib.hid e
          clear e
          go_wp2_with fail
          refine (HCK.out _).mono ?_
          rintro e w2 ⟨rfl, hb2⟩
          have HB2 := Lib.hid (HB0.out.trans (hb2.mono HB0.out.size))
          obtain ⟨d0, d1, d2, d3, d4⟩ := exCells ((hb2.block _ hzW).trans HBX.out)
          clear hb2 c0 c1 c2 c3 c4
          go_wp2_with fail
          go_ret
          exact ⟨by rw [E.out]; rfl, HB2.out⟩
    · have qz : ((z : Int) == 0) = false := ieq_false hz0
      have e : R = 0 := by rw [HLV.out]; simp [leafV, ← HZZ.out, hz0]
      clear hz0
      have E := Lib.hid e
      clear e
      go_wp2_with fail
      refine (HCK.out _).mono ?_
      rintro e w2 ⟨rfl, hb2⟩
      have HB2 := Lib.hid (HB0.out.trans (hb2.mono HB0.out.size))
      obtain ⟨d0, d1, d2, d3, d4⟩ := exCells ((hb2.block _ hzW).trans HBX.out)
      clear hb2 c0 c1 c2 c3 c4
      go_wp2_with fail
      go_ret
      exact ⟨by rw [E.out]; rfl, HB2.out⟩

set_option maxHeartbeats 2000000 in
set_option maxRecDepth 100000 in
theorem leaf_2 (r nm : ByteArray) (d : Int) (a : Option Addr) (len cap : Nat) (w : World) :
    Calls Tryz.prog 40 #[.agg #[.int .u8 2, .string r, .string nm, .int .i64 d, .slice a len cap]] w (U8P w (lfV 2 r nm d len)) := by
  obtain ⟨bl, ql⟩ : ∃ b, ((len : Int) == 0) = b := ⟨_, rfl⟩
  obtain ⟨br, qr⟩ : ∃ b, r.toList.isEmpty = b := ⟨_, rfl⟩
  obtain ⟨bn, qn⟩ : ∃ b, nm.toList.isEmpty = b := ⟨_, rfl⟩
  obtain ⟨bd, qd⟩ : ∃ b, ((d : Int) == 0) = b := ⟨_, rfl⟩
  have HQL : Hid (bl = true ↔ len = 0) := by show bl = true ↔ _; rw [← ql]; simp
  have HQR : Hid (r.data.toList.isEmpty = br) := by show _ = br; rw [← qr, toList_data]
  have HQN : Hid (nm.data.toList.isEmpty = bn) := by show _ = bn; rw [← qn, toList_data]
  have HQD : Hid (bd = true ↔ d = 0) := by show bd = true ↔ _; rw [← qd]; simp
  obtain ⟨R, hR⟩ : ∃ R, R = lfV 2 r nm d len := ⟨_, rfl⟩
  rw [← hR]
  have HRR := Lib.hid hR
  have HNM : Hid (∀ W, Calls Tryz.prog 18 #[.string nm] W (fun e w' => e = .returned (.bool (nmB nm.data.toList)) ∧ W = w')) := fun W => name_any nm W
  obtain ⟨nb, hnb⟩ : ∃ z, z = nmB nm.data.toList := ⟨_, rfl⟩
  rw [← hnb] at HNM
  have HNB := Lib.hid hnb
  clear hnb
  have HDY : Hid (∀ W, Calls Tryz.prog 50 #[.int .i64 d] W (fun e w' => e = .returned (.bool (decide (0 ≤ d) && decide (d ≤ 99999))) ∧ W = w')) := fun W => pwithin_any d W
  obtain ⟨db, hdb⟩ : ∃ z, z = (decide (0 ≤ d) && decide (d ≤ 99999)) := ⟨_, rfl⟩
  rw [← hdb] at HDY
  have HDB := Lib.hid hdb
  clear hdb
  clear hR
  go_enter Tryz.func40, Tryz.ntmps40
  go_upto_region 1 with (fail)
  obtain ⟨W0, hW0⟩ : ∃ W0, W0 = w.alloc (.cells #[.int .u8 2, .string r, .string nm, .int .i64 d, .slice a len cap] 25) := ⟨_, rfl⟩
  have hbx : W0.heap[w.heap.size]? = some (.cells #[.int .u8 2, .string r, .string nm, .int .i64 d, .slice a len cap] 25) := by rw [hW0]; exact heap_alloc_new w _
  have HB0 : Hid (Below w.heap.size w W0) := by rw [hW0]; exact own_below w _
  have hzW : w.heap.size < W0.heap.size := (Array.getElem?_eq_some_iff.1 hbx).1
  rw [← hW0]
  obtain ⟨c0, c1, c2, c3, c4⟩ := exCells hbx
  clear hW0 hbx
  cases bl with
  | false =>
    have hln : len ≠ 0 := fun h => by have := HQL.out.2 h; cases this
    have e : R = 0 := by rw [HRR.out]; simp [lfV, hln]
    clear hln
    have E := Lib.hid e
    clear e
    go_wp2_with fail
    go_ret
    exact ⟨by rw [E.out]; rfl, HB0.out⟩
  | true =>
    have HLV : Hid (R = leafV 2 r nm d) := by
      have hln : len = 0 := HQL.out.1 rfl
      show R = _
      rw [HRR.out]; simp [lfV, hln]
    cases br with
    | false =>
      have e : R = 0 := by rw [HLV.out]; simp [leafV, HQR.out]
      have E := Lib.hid e
      clear e
      go_wp2_with fail
      go_ret
      exact ⟨by rw [E.out]; rfl, HB0.out⟩
    | true =>
      cases nb with
      | false =>
        have e : R = 0 := by rw [HLV.out]; simp [leafV, ← HNB.out]
        have E := Lib.hid e
        clear e
        go_wp2_with fail
        refine (HNM.out _).mono ?_
        rintro e w2 ⟨rfl, rfl⟩
        go_wp2_with fail
        go_ret
        exact ⟨by rw [E.out]; rfl, HB0.out⟩
      | true =>
        have e0 : R = if db = true then 1 else 0 := by
          rw [HLV.out, HDB.out]; simp [leafV, HQR.out, ← HNB.out]
        cases db with
        | false =>
          have e : R = 0 := by rw [e0]; rfl
          clear e0
          have E := Lib.hid e
          clear e
          go_wp2_with fail
          refine (HNM.out _).mono ?_
          rintro e w2 ⟨rfl, rfl⟩
          go_wp2_with fail
          refine (HDY.out _).mono ?_
          rintro e w2 ⟨rfl, rfl⟩
          go_wp2_with fail
          go_ret
          exact ⟨by rw [E.out]; rfl, HB0.out⟩
        | true =>
          have e : R = 1 := by rw [e0]; rfl
          clear e0
          have E := Lib.hid e
          clear e
          go_wp2_with fail
          refine (HNM.out _).mono ?_
          rintro e w2 ⟨rfl, rfl⟩
          go_wp2_with fail
          refine (HDY.out _).mono ?_
          rintro e w2 ⟨rfl, rfl⟩
          go_wp2_with fail
          go_ret
          exact ⟨by rw [E.out]; rfl, HB0.out⟩

set_option maxHeartbeats 2000000 in
set_option maxRecDepth 100000 in
theorem leaf_3 (r nm : ByteArray) (d : Int) (a : Option Addr) (len cap : Nat) (w : World) :
    Calls Tryz.prog 40 #[.agg #[.int .u8 3, .string r, .string nm, .int .i64 d, .slice a len cap]] w (U8P w (lfV 3 r nm d len)) := by
  obtain ⟨bl, ql⟩ : ∃ b, ((len : Int) == 0) = b := ⟨_, rfl⟩
  obtain ⟨br, qr⟩ : ∃ b, r.toList.isEmpty = b := ⟨_, rfl⟩
  obtain ⟨bn, qn⟩ : ∃ b, nm.toList.isEmpty = b := ⟨_, rfl⟩
  obtain ⟨bd, qd⟩ : ∃ b, ((d : Int) == 0) = b := ⟨_, rfl⟩
  have HQL : Hid (bl = true ↔ len = 0) := by show bl = true ↔ _; rw [← ql]; simp
  have HQR : Hid (r.data.toList.isEmpty = br) := by show _ = br; rw [← qr, toList_data]
  have HQN : Hid (nm.data.toList.isEmpty = bn) := by show _ = bn; rw [← qn, toList_data]
  have HQD : Hid (bd = true ↔ d = 0) := by show bd = true ↔ _; rw [← qd]; simp
  obtain ⟨R, hR⟩ : ∃ R, R = lfV 3 r nm d len := ⟨_, rfl⟩
  rw [← hR]
  have HRR := Lib.hid hR
  have HNM : Hid (∀ W, Calls Tryz.prog 18 #[.string nm] W (fun e w' => e = .returned (.bool (nmB nm.data.toList)) ∧ W = w')) := fun W => name_any nm W
  obtain ⟨nb, hnb⟩ : ∃ z, z = nmB nm.data.toList := ⟨_, rfl⟩
  rw [← hnb] at HNM
  have HNB := Lib.hid hnb
  clear hnb
  clear hR
  go_enter Tryz.func40, Tryz.ntmps40
  go_upto_region 1 with (fail)
  obtain ⟨W0, hW0⟩ : ∃ W0, W0 = w.alloc (.cells #[.int .u8 3, .string r, .string nm, .int .i64 d, .slice a len cap] 25) := ⟨_, rfl⟩
  have hbx : W0.heap[w.heap.size]? = some (.cells #[.int .u8 3, .string r, .string nm, .int .i64 d, .slice a len cap] 25) := by rw [hW0]; exact heap_alloc_new w _
  have HB0 : Hid (Below w.heap.size w W0) := by rw [hW0]; exact own_below w _
  have hzW : w.heap.size < W0.heap.size := (Array.getElem?_eq_some_iff.1 hbx).1
  rw [← hW0]
  obtain ⟨c0, c1, c2, c3, c4⟩ := exCells hbx
  clear hW0 hbx
  cases bl with
  | false =>
    have hln : len ≠ 0 := fun h => by have := HQL.out.2 h; cases this
    have e : R = 0 := by rw [HRR.out]; simp [lfV, hln]
    clear hln
    have E := Lib.hid e
    clear e
    go_wp2_with fail
    go_ret
    exact ⟨by rw [E.out]; rfl, HB0.out⟩
  | true =>
    have HLV : Hid (R = leafV 3 r nm d) := by
      have hln : len = 0 := HQL.out.1 rfl
      show R = _
      rw [HRR.out]; simp [lfV, hln]
    cases br with
    | false =>
      have e : R = 0 := by rw [HLV.out]; simp [leafV, HQR.out]
      have E := Lib.hid e
      clear e
      go_wp2_with fail
      go_ret
      exact ⟨by rw [E.out]; rfl, HB0.out⟩
    | true =>
      cases nb with
      | false =>
        have e : R = 0 := by rw [HLV.out]; simp [leafV, ← HNB.out]
        have E := Lib.hid e
        clear e
        go_wp2_with fail
        refine (HNM.out _).mono ?_
        rintro e w2 ⟨rfl, rfl⟩
        go_wp2_with fail
        go_ret
        exact ⟨by rw [E.out]; rfl, HB0.out⟩
      | true =>
        cases bd with
        | false =>
          have e : R = 0 := by
            have hd : d ≠ 0 := fun h => by have := HQD.out.2 h; cases this
            rw [HLV.out]; simp [leafV, hd]
          have E := Lib.hid e
          clear e
          go_wp2_with fail
          refine (HNM.out _).mono ?_
          rintro e w2 ⟨rfl, rfl⟩
          go_wp2_with fail
          go_ret
          exact ⟨by rw [E.out]; rfl, HB0.out⟩
        | true =>
          have e : R = 1 := by
            have hd : d = 0 := HQD.out.1 rfl
            rw [HLV.out]; simp [leafV, hd, HQR.out, ← HNB.out]
          have E := Lib.hid e
          clear e
          go_wp2_with fail
          refine (HNM.out _).mono ?_
          rintro e w2 ⟨rfl, rfl⟩
          go_wp2_with fail
          go_ret
          exact ⟨by rw [E.out]; rfl, HB0.out⟩

set_option maxHeartbeats 2000000 in
set_option maxRecDepth 100000 in
theorem leaf_o (kd : Int) (h1 : kd ≠ 1) (h2 : kd ≠ 2) (h3 : kd ≠ 3) (r nm : ByteArray) (d : Int) (a : Option Addr) (len cap : Nat) (w : World) :
    Calls Tryz.prog 40 #[.agg #[.int .u8 kd, .string r, .string nm, .int .i64 d, .slice a len cap]] w (U8P w (lfV kd r nm d len)) := by
  obtain ⟨bl, ql⟩ : ∃ b, ((len : Int) == 0) = b := ⟨_, rfl⟩
  obtain ⟨br, qr⟩ : ∃ b, r.toList.isEmpty = b := ⟨_, rfl⟩
  obtain ⟨bn, qn⟩ : ∃ b, nm.toList.isEmpty = b := ⟨_, rfl⟩
  obtain ⟨bd, qd⟩ : ∃ b, ((d : Int) == 0) = b := ⟨_, rfl⟩
  obtain ⟨R, hR⟩ : ∃ R, R = lfV kd r nm d len := ⟨_, rfl⟩
  rw [← hR]
  have k1 : ((kd : Int) == 1) = false := ieq_false h1
  have k2 : ((kd : Int) == 2) = false := ieq_false h2
  have k3 : ((kd : Int) == 3) = false := ieq_false h3
  have e : R = 0 := by rw [hR]; unfold lfV; split; exact leaf_no r nm d h1 h2 h3; rfl
  clear h1 h2 h3
  clear hR
  go_enter Tryz.func40, Tryz.ntmps40
  go_upto_region 1 with (fail)
  obtain ⟨W0, hW0⟩ : ∃ W0, W0 = w.alloc (.cells #[.int .u8 kd, .string r, .string nm, .int .i64 d, .slice a len cap] 25) := ⟨_, rfl⟩
  have hbx : W0.heap[w.heap.size]? = some (.cells #[.int .u8 kd, .string r, .string nm, .int .i64 d, .slice a len cap] 25) := by rw [hW0]; exact heap_alloc_new w _
  have HB0 : Hid (Below w.heap.size w W0) := by rw [hW0]; exact own_below w _
  have hzW : w.heap.size < W0.heap.size := (Array.getElem?_eq_some_iff.1 hbx).1
  rw [← hW0]
  obtain ⟨c0, c1, c2, c3, c4⟩ := exCells hbx
  clear hW0 hbx
  have E := Lib.hid e
  clear e
  go_wp2_with fail
  go_ret
  exact ⟨by rw [E.out]; rfl, HB0.out⟩

theorem leaf_any (k : Int) (r nm : ByteArray) (d : Int) (a : Option Addr) (len cap : Nat) (w : World) (hr : r.size ≤ 2500) :
    Calls Tryz.prog 40 #[.agg #[.int .u8 k, .string r, .string nm, .int .i64 d, .slice a len cap]] w (U8P w (lfV k r nm d len)) := by
  by_cases h1 : k = 1
  · subst h1; exact leaf_1 r nm d a len cap w hr
  by_cases h2 : k = 2
  · subst h2; exact leaf_2 r nm d a len cap w
  by_cases h3 : k = 3
  · subst h3; exact leaf_3 r nm d a len cap w
  exact leaf_o k h1 h2 h3 r nm d a len cap w

end Go.Proofs.YtdgmpgejemgbbaaGreatDoor

namespace Go.Proofs.YtdgmpgejemgbbaaGreatDoor
open Go.RowKit Go.ChangeShapes Go.WideShapes Go.Deep

/-- Every kind is a byte. -/
def KOk : Nat → Ex → Prop
  | 0, _ => False
  | n + 1, x => (0 ≤ x.kind ∧ x.kind ≤ 255) ∧ ∀ y ∈ x.sub, KOk n y
theorem KOk.up : ∀ {n m : Nat} {x : Ex}, n ≤ m → KOk n x → KOk m x
  | 0, _, _, _, h => h.elim
  | n + 1, 0, _, hm, _ => absurd hm (by omega)
  | n + 1, m + 1, x, hm, ⟨h1, h2⟩ => ⟨h1, fun y hy => KOk.up (by omega) (h2 y hy)⟩
theorem u8_range {k : Int} (h : (Lit.int .u8 k).wf = true) : 0 ≤ k ∧ k ≤ 255 := by
  have h0 : IntKind.u8.min = 0 := rfl
  have h1 : IntKind.u8.max = 255 := rfl
  simp [Lit.wf] at h; omega
set_option maxRecDepth 100000 in
/-- A tree that came in, opened. -/
theorem open_exprk {H : Type} {enc : TypeId × Value → H} {w : World} {base : Nat} {spare : Nat → Bool} {held : Bool} : ∀ (fuel : Nat) {cs : List Value} {x : DataW H × List MemPlace},
    DataW.trod enc Tryz.prog w base spare held fuel 25 cs = some x → ∃ e, ExAt (fuel + 1) w cs e ∧ KOk (fuel + 1) e := by
  intro fuel
  induction fuel using Nat.strongRecOn with
  | ind fuel ih =>
    intro cs x h
    obtain ⟨xs, n, hfu, _, hlen, hxl, hf⟩ := DataW.trod_struct Tryz.underlying25 h
    subst hfu
    rw [cellsEx] at hlen
    match cs, hlen with
    | [c0, c1, c2, c3, c4], _ =>
      match xs, hxl with
      | [y0, y1, y2, y3, y4], _ =>
        have h0 := hf 0 ⟨"Kind", 5, 0, false, "", "", 0⟩ rfl
        have h1 := hf 1 ⟨"Rat", 22, 1, false, "", "", 8⟩ rfl
        have h2 := hf 2 ⟨"Name", 9, 2, false, "", "", 24⟩ rfl
        have h3 := hf 3 ⟨"Date", 3, 3, false, "", "", 40⟩ rfl
        have h4 := hf 4 ⟨"Sub", 23, 4, false, "", "", 48⟩ rfl
        simp only [cellsXInt, cellsXU8, cellsXStr, cellsXRat, cellsXSub, List.drop_succ_cons, List.drop_zero, List.take_succ_cons, List.take_zero, List.getElem?_cons_succ, List.getElem?_cons_zero] at h0 h1 h2 h3 h4
        obtain ⟨k, e0, _, hwf⟩ := DataW.trod_int Tryz.underlying5 h0
        have hkr := u8_range hwf
        obtain ⟨s1, e1, _, _⟩ := DataW.trod_string Tryz.underlying22 h1
        obtain ⟨s2, e2, _, _⟩ := DataW.trod_string Tryz.underlying9 h2
        obtain ⟨n3, e3, _, _⟩ := DataW.trod_int Tryz.underlying3 h3
        simp only [List.cons.injEq, and_true] at e0 e1 e2 e3
        subst e0 e1 e2 e3
        rcases DataW.trod_slice Tryz.underlying23 h4 with ⟨hcs, _⟩ | ⟨ad, len, cap, elems, rest, m, hfm, hcs, _, _, _, _, hel, hat, _, _⟩
        · simp only [List.cons.injEq, and_true] at hcs
          subst hcs
          exact ⟨.mk k s1 s2 n3 [], ⟨none, 0, 0, rfl, rfl, .inl rfl⟩, hkr, fun y hy => by cases hy⟩
        · simp only [List.cons.injEq, and_true] at hcs
          subst hcs
          subst hfm
          rw [cellsEx] at hat
          have hone : ∀ i, i < len → ∃ cs' e, (∀ j, j < 5 → w.cell? ((ad.add (i * 5)).add j) = cs'[j]?) ∧ ExAt (m + 1) w cs' e ∧ KOk (m + 1) e := fun i hi => by
            have ha := hat i hi
            rw [List.getElem?_eq_getElem (by omega)] at ha
            obtain ⟨cs', hc, ht⟩ := Option.bind_eq_some_iff.1 ha
            obtain ⟨_, _, hcell⟩ := World.cells?_some hc
            obtain ⟨e, he⟩ := ih m (by omega) ht
            exact ⟨cs', e, hcell, he⟩
          have hl2 : ∀ N, N ≤ len → ∃ l : List Ex, l.length = N ∧ ∀ i, i < N → ∃ cs', (∀ j, j < 5 → w.cell? ((ad.add (i * 5)).add j) = cs'[j]?) ∧ ExAt (m + 1) w cs' (l[i]?.getD default) ∧ KOk (m + 1) (l[i]?.getD default) := fun N => by
            induction N with
            | zero => exact fun _ => ⟨[], rfl, fun i hi => absurd hi (Nat.not_lt_zero _)⟩
            | succ N ihN =>
              intro hN
              obtain ⟨l, hl, hl2⟩ := ihN (by omega)
              obtain ⟨cs', e, hc, he⟩ := hone N (by omega)
              refine ⟨l ++ [e], by simp [hl], fun i hi => ?_⟩
              by_cases hiN : i = N
              · subst hiN
                rw [List.getElem?_append_right (by omega), hl, Nat.sub_self]
                exact ⟨cs', hc, he⟩
              · rw [List.getElem?_append_left (by omega)]
                exact hl2 i (by omega)
          obtain ⟨l, hl, hlc⟩ := hl2 len (Nat.le_refl _)
          have hks : ∀ y ∈ (Ex.mk k s1 s2 n3 l).sub, KOk (m + 1) y := fun y hy => by
            obtain ⟨i, hi, rfl⟩ := List.getElem_of_mem hy
            obtain ⟨_, _, _, hk⟩ := hlc i (by rw [← hl]; exact hi)
            have hi' : i < l.length := hi
            have e : l[i]?.getD default = (Ex.mk k s1 s2 n3 l).sub[i]'hi := by rw [List.getElem?_eq_getElem hi']; rfl
            rw [e] at hk
            exact hk
          refine ⟨.mk k s1 s2 n3 l, ⟨some ad, len, cap, rfl, hl, ?_⟩, hkr, fun y hy => KOk.up (by omega) (hks y hy)⟩
          by_cases h0 : len = 0
          · exact .inl h0
          · right
            obtain ⟨cs0, hc0, hx0, _⟩ := hlc 0 (by omega)
            have hcell0 : ∃ v, w.cell? ((ad.add (0 * 5)).add 0) = some v := by
              obtain ⟨_, _, _, hcs, _⟩ := hx0
              exact ⟨_, (hc0 0 (by omega)).trans (by rw [hcs]; rfl)⟩
            obtain ⟨v0, hv0⟩ := hcell0
            have hsp : ad.spot = none := addr_plainX (x := (ad.add (0 * 5)).add 0) hv0
            have hbl : ad.block < w.heap.size := cell_lt (a := (ad.add (0 * 5)).add 0) hv0
            obtain ⟨g, o, sp⟩ := ad
            subst hsp
            refine ⟨g, o, rfl, hbl, fun i hi => ?_⟩
            obtain ⟨cs', hc, hx, _⟩ := hlc i (by rw [← hl]; exact hi)
            refine ⟨cs', fun j hj => ?_, ?_⟩
            · have := hc j hj
              rwa [addrX, addrX] at this
            · have hi' : i < l.length := hi
              have e : l[i]?.getD default = (Ex.mk k s1 s2 n3 l).sub[i]'hi := by rw [List.getElem?_eq_getElem hi']; rfl
              rw [e] at hx
              exact ExAt.up (by omega) hx


/-- What a look-up among the shapes yields, in every later world. -/
def ShpAt (w : World) : Prop := ∃ bm, w.cell? ⟨0, 0, none⟩ = some (.map (some bm)) ∧ ∀ k : Int, 0 ≤ k → k ≤ 255 →
  (shpL k = none → ∀ W, Below w.heap.size w W → (Instr.lookup 70 (.map (some bm)) (.int .u8 k) true).run Tryz.prog W = .ok (.tuple #[.agg #[.slice none 0 0, .int .u8 0], .bool false]) W) ∧
  (∀ ps own, shpL k = some (ps, own) → ∃ g o cap, g < w.heap.size ∧ (∀ W, Below w.heap.size w W → (Instr.lookup 70 (.map (some bm)) (.int .u8 k) true).run Tryz.prog W = .ok (.tuple #[.agg #[.slice (some ⟨g, o, none⟩) ps.length cap, .int .u8 own], .bool true]) W) ∧
    ∀ i, i < ps.length → w.cell? ⟨g, o + i, none⟩ = some (.int .u8 (ps[i]?.getD 0)))
theorem ShpAt.below {w w' : World} (h : ShpAt w) (hb : Below w.heap.size w w') : ShpAt w' := by
  obtain ⟨bm, hc, hk⟩ := h
  refine ⟨bm, ((bcell hb).1 _ _ (cell_lt (a := ⟨_, 0, none⟩) hc)).trans hc, fun k h0 h1 => ⟨fun hs W hW => (hk k h0 h1).1 hs W (hb.trans (hW.mono hb.size)), fun ps own hs => ?_⟩⟩
  obtain ⟨g, o, cap, hg, hl, hcs⟩ := (hk k h0 h1).2 ps own hs
  exact ⟨g, o, cap, Nat.lt_of_lt_of_le hg hb.size, fun W hW => hl W (hb.trans (hW.mono hb.size)), fun i hi => ((bcell hb).1 _ _ hg).trans (hcs i hi)⟩

theorem gShapes : Tryz.prog.globalNamed "novation/observable.shapes" = some 0 := by kernel_rfl
theorem tShapes : (Tryz.prog.globals[0]?).map (·.type) = some 70 := by kernel_rfl
theorem cellsShp : Tryz.prog.cellsOf 68 = 2 := by kernel_rfl
theorem cellsSorts : Tryz.prog.cellsOf 66 = 1 := by kernel_rfl
theorem cellsSort : Tryz.prog.cellsOf 55 = 1 := by kernel_rfl
/-- The datum of a shape. -/
def shpD {H : Type} (ps : List Int) (own : Int) : DataW H := .agg [.slice (ps.map fun p => .lit (.int .u8 p)) [], .lit (.int .u8 own)]
set_option maxRecDepth 100000 in
theorem shp_key {H : Type} (k : Int) : (shpL k = none → (Rows.laid_novation_observable_shapes (H := H)).atKey (.int .u8 k) .nil = .nil) ∧ (∀ ps own, shpL k = some (ps, own) → (Rows.laid_novation_observable_shapes (H := H)).atKey (.int .u8 k) .nil = shpD ps own) := by
  by_cases h4 : k = 4
  · subst h4
    exact ⟨fun h => by simp [shpL] at h, fun ps own h => by simp [shpL] at h; obtain ⟨rfl, rfl⟩ := h; rfl⟩
  by_cases h5 : k = 5
  · subst h5
    exact ⟨fun h => by simp [shpL] at h, fun ps own h => by simp [shpL] at h; obtain ⟨rfl, rfl⟩ := h; rfl⟩
  by_cases h6 : k = 6
  · subst h6
    exact ⟨fun h => by simp [shpL] at h, fun ps own h => by simp [shpL] at h; obtain ⟨rfl, rfl⟩ := h; rfl⟩
  by_cases h7 : k = 7
  · subst h7
    exact ⟨fun h => by simp [shpL] at h, fun ps own h => by simp [shpL] at h; obtain ⟨rfl, rfl⟩ := h; rfl⟩
  by_cases h8 : k = 8
  · subst h8
    exact ⟨fun h => by simp [shpL] at h, fun ps own h => by simp [shpL] at h; obtain ⟨rfl, rfl⟩ := h; rfl⟩
  by_cases h9 : k = 9
  · subst h9
    exact ⟨fun h => by simp [shpL] at h, fun ps own h => by simp [shpL] at h; obtain ⟨rfl, rfl⟩ := h; rfl⟩
  by_cases h11 : k = 11
  · subst h11
    exact ⟨fun h => by simp [shpL] at h, fun ps own h => by simp [shpL] at h; obtain ⟨rfl, rfl⟩ := h; rfl⟩
  by_cases h12 : k = 12
  · subst h12
    exact ⟨fun h => by simp [shpL] at h, fun ps own h => by simp [shpL] at h; obtain ⟨rfl, rfl⟩ := h; rfl⟩
  by_cases h13 : k = 13
  · subst h13
    exact ⟨fun h => by simp [shpL] at h, fun ps own h => by simp [shpL] at h; obtain ⟨rfl, rfl⟩ := h; rfl⟩
  by_cases h14 : k = 14
  · subst h14
    exact ⟨fun h => by simp [shpL] at h, fun ps own h => by simp [shpL] at h; obtain ⟨rfl, rfl⟩ := h; rfl⟩
  by_cases h15 : k = 15
  · subst h15
    exact ⟨fun h => by simp [shpL] at h, fun ps own h => by simp [shpL] at h; obtain ⟨rfl, rfl⟩ := h; rfl⟩
  refine ⟨fun _ => ?_, fun ps own h => ?_⟩
  · simp [Rows.laid_novation_observable_shapes, DataW.atKey, Lit.sameKey, Ne.symm h4, Ne.symm h5, Ne.symm h6, Ne.symm h7, Ne.symm h8, Ne.symm h9, Ne.symm h11, Ne.symm h12, Ne.symm h13, Ne.symm h14, Ne.symm h15]
  · unfold shpL at h
    rw [if_neg (by omega), if_neg (by omega), if_neg (by omega), if_neg (by omega), if_neg (by omega)] at h
    cases h
set_option maxRecDepth 100000 in
/-- A shape that is laid, its cells. -/
theorem open_shape {H : Type} {enc : TypeId × Value → H} {w : World} {base : Nat} {spare : Nat → Bool} {held : Bool} {fuel : Nat} {cs : List Value} {ps : List Int} {own : Int} {q : List MemPlace} (hn : ps ≠ [])
    (h : DataW.trod enc Tryz.prog w base spare held fuel 68 cs = some (shpD ps own, q)) : ∃ g o cap, cs = [.slice (some ⟨g, o, none⟩) ps.length cap, .int .u8 own] ∧ g < w.heap.size ∧ ∀ i, i < ps.length → w.cell? ⟨g, o + i, none⟩ = some (.int .u8 (ps[i]?.getD 0)) := by
  obtain ⟨xs, n, _, hx, hlen, hxl, hf⟩ := DataW.trod_struct Tryz.underlying68 h
  rw [cellsShp] at hlen
  match cs, hlen with
  | [c0, c1], _ =>
    match xs, hxl with
    | [y0, y1], _ =>
      have h0 := hf 0 ⟨"parts", 66, 0, false, "", "novation/observable", 0⟩ rfl
      have h1 := hf 1 ⟨"own", 55, 1, false, "", "novation/observable", 24⟩ rfl
      simp only [cellsSorts, cellsSort, List.drop_succ_cons, List.drop_zero, List.take_succ_cons, List.take_zero, List.getElem?_cons_succ, List.getElem?_cons_zero] at h0 h1
      simp only [shpD, Prod.mk.injEq, DataW.agg.injEq, List.map_cons, List.map_nil, List.cons.injEq, and_true] at hx
      obtain ⟨⟨hy0, hy1⟩, _⟩ := hx
      obtain ⟨k, e1, e2, _⟩ := DataW.trod_int Tryz.underlying55 h1
      simp only [List.cons.injEq, and_true] at e1
      subst e1
      rw [e2] at hy1
      simp only [DataW.lit.injEq, Lit.int.injEq, true_and] at hy1
      subst hy1
      rcases DataW.trod_slice Tryz.underlying66 h0 with ⟨_, hx0⟩ | ⟨ad, len, cap, elems, rest, m, hfm, hcs, hx0, _, _, _, hel, hat, _, _⟩
      · rw [hx0] at hy0
        cases hy0
      · simp only [List.cons.injEq, and_true] at hcs
        subst hcs
        rw [hx0] at hy0
        simp only [DataW.slice.injEq] at hy0
        obtain ⟨hy0, _⟩ := hy0
        rw [cellsSort] at hat
        have hpl : ps.length = len := by
          have := congrArg List.length hy0
          simpa [hel] using this
        have hp0 : 0 < len := by
          rw [← hpl]; exact List.length_pos_iff.2 hn
        have hone : ∀ i, i < len → w.cell? (ad.add i) = some (.int .u8 (ps[i]?.getD 0)) := fun i hi => by
          have ha := hat i hi
          rw [List.getElem?_eq_getElem (by omega), Nat.mul_one] at ha
          obtain ⟨cs', hc, ht⟩ := Option.bind_eq_some_iff.1 ha
          obtain ⟨hl1, _, hcell⟩ := World.cells?_some hc
          obtain ⟨k, e1, e2, _⟩ := DataW.trod_int Tryz.underlying55 ht
          subst e1
          have h2 := hcell 0 (by decide)
          have hz : (ad.add i).add 0 = ad.add i := by simp [Addr.add]
          rw [hz] at h2
          rw [h2]
          have e3 : (elems.map (·.1))[i]? = (ps.map fun p => (DataW.lit (.int .u8 p) : DataW H))[i]? := by rw [hy0]
          rw [List.getElem?_map, List.getElem?_map, List.getElem?_eq_getElem (show i < elems.length by omega), List.getElem?_eq_getElem (show i < ps.length by omega)] at e3
          simp only [Option.map_some, Option.some.injEq] at e3
          rw [e2] at e3
          simp only [DataW.lit.injEq, Lit.int.injEq, true_and] at e3
          rw [List.getElem?_eq_getElem (show i < ps.length by omega)]
          simp [e3]
        have h00 := hone 0 hp0
        have hz : ad.add 0 = ad := by simp [Addr.add]
        rw [hz] at h00
        have hsp : ad.spot = none := addr_plainX h00
        have hbl : ad.block < w.heap.size := cell_lt h00
        obtain ⟨g, o, sp⟩ := ad
        subst hsp
        refine ⟨g, o, cap, by rw [hpl], hbl, fun i hi => ?_⟩
        have := hone i (by omega)
        rwa [addrX] at this
theorem keys_apart {H : Type} {P : Program} {k : TypeId} {R : Value → Option (DataW H × List MemPlace)} {es : Array MapEntry} {clock : Nat} (F : Go.WideElems.Fit P k R es clock) {a b : MapEntry} (ha : a ∈ es.toList) (hb : b ∈ es.toList) (hne : a ≠ b) : a.key ≠ b.key := by
  have hp := ((Go.MapKept.stamped_iff es clock).1 F.stamped).2.2
  obtain ⟨i, hi, rfl⟩ := List.getElem_of_mem ha
  obtain ⟨j, hj, rfl⟩ := List.getElem_of_mem hb
  rw [List.pairwise_iff_getElem] at hp
  rcases Nat.lt_trichotomy i j with h | h | h
  · exact hp i j hi hj h
  · subst h; exact absurd rfl hne
  · exact fun e => hp j i hj hi h e.symm
set_option maxRecDepth 100000 in
theorem agg_formed {v : Value} {l : List Value} (hf : v.formed Tryz.prog 68 = true) (hl : v.cells.toList = l) : v = .agg l.toArray := by
  unfold Value.formed at hf
  rw [Tryz.underlying68] at hf
  cases v <;> simp at hf
  rw [← hl]; rfl
theorem zeroShp (w : World) : (zeroValue 68).run Tryz.prog w = .ok (.agg #[.slice none 0 0, .int .u8 0]) w := by kernel_rfl
set_option maxRecDepth 100000 in
theorem laidShp {laid : List (String × DataW Unit)} (hl : laid = [("novation/observable.shapes", Rows.laid_novation_observable_shapes)]) {W : World} (h : laidMet Tryz.prog laid W) : ShpAt W := by
  subst hl
  obtain ⟨ps, ⟨g0, t0, cs0, f0, p0, q0, hg0, ht0, hv0, hd0, _, _⟩, _, _⟩ := h
  obtain rfl := Option.some.inj (gShapes.symm.trans hg0)
  obtain rfl := Option.some.inj (tShapes.symm.trans ht0)
  rcases Go.WideElems.open_map Tryz.underlying70 hd0 with ⟨_, hx⟩ | ⟨bm, es, clock, m, rfl, hcs, hb, _, F, hx⟩
  · simp [Rows.laid_novation_observable_shapes] at hx
  simp only [Prod.mk.injEq] at hx
  have hcell : W.cell? ⟨0, 0, none⟩ = some (.map (some bm)) := by
    have := World.var?_cell hg0 hv0 0
    rw [Array.eq_one_of_toList hcs] at this
    simpa using this
  have hbl : bm < W.heap.size := (Array.getElem?_eq_some_iff.1 hb).1
  refine ⟨bm, hcell, fun k hk0 hk1 => ?_⟩
  have hkey : keyOf Tryz.prog 5 (.int .u8 k) = some (.int .u8 k) := Maps.keyOf_int_mk Tryz.underlying5 (by
    have h0 : IntKind.u8.min = 0 := rfl
    have h1 : IntKind.u8.max = 255 := rfl
    simp [Lit.wf]; omega)
  have look : ∀ W', Below W.heap.size W W' → _ := fun W' hW' => Maps.fit_look (w := W') true (Maps.int_keyed Tryz.underlying5) Tryz.underlying70 (zeroShp W') ((hW'.block _ hbl).trans hb) F hkey
  refine ⟨fun hs W' hW' => ?_, fun psl own hs => ?_⟩
  · rcases look W' hW' with ⟨hr, _, _⟩ | ⟨e0, y, _, _, _, hR, hat, _⟩
    · simpa using hr
    · have h2 := hat .nil
      rw [← hx.1, (shp_key k).1 hs] at h2
      unfold Go.WideElems.elemAt at hR
      split at hR
      · obtain ⟨xs, n, _, hxy, _⟩ := DataW.trod_struct Tryz.underlying68 hR
        rw [hxy] at h2
        cases h2
      · cases hR
  · rcases look W (Below.refl _ _) with ⟨_, _, hat⟩ | ⟨e0, y, hm0, hk0', _, hR, hat, _⟩
    · have h2 := hat .nil
      rw [← hx.1, (shp_key k).2 psl own hs] at h2
      cases h2
    · have h2 := hat .nil
      rw [← hx.1, (shp_key k).2 psl own hs] at h2
      unfold Go.WideElems.elemAt at hR
      split at hR
      · rename_i hfm
        obtain ⟨y1, y2⟩ := y
        have hy1 : shpD psl own = y1 := h2
        subst hy1
        obtain ⟨g, o, cap, hcs2, hg, hcells⟩ := open_shape (by
          intro e
          subst e
          unfold shpL at hs
          (repeat' split at hs) <;> simp at hs) hR
        have hval : e0.val = .agg #[.slice (some ⟨g, o, none⟩) psl.length cap, .int .u8 own] := by
          exact agg_formed hfm hcs2
        refine ⟨g, o, cap, hg, fun W' hW' => ?_, hcells⟩
        rcases look W' hW' with ⟨_, hne, _⟩ | ⟨e1, y1, hm1, hk1', hr, _, _, _⟩
        · exact absurd hk0' (hne e0 hm0)
        · have e01 : e1 = e0 := by
            by_cases h : e1 = e0
            · exact h
            · exfalso
              exact keys_apart F hm1 hm0 h (hk1'.trans hk0'.symm)
          rw [e01, hval] at hr
          simpa using hr
      · cases hR

end Go.Proofs.YtdgmpgejemgbbaaGreatDoor
