/-
  Keywords: the reference's Words and Keyword walked. No condition. Quoted names: the reference's name and Quote. No condition. Quoted names: the reference's name and Quote as one function each; the program's list of keywords. No condition. The program's halving over its list of keywords finds what the reference finds. No condition, no program. The program's Keyword: the library's BinarySearch by the shelf's contract. No condition. Quoted names: the program's name and Quote. No condition.
-/
import Derived.Test.YtdgmpgejemgbbaaGreatDoorOa
import Derived.Test.YtdgmpgejemgbbaaGreatDoorVd
import Derived.Shelf.Spec.SearchS
namespace Go.Proofs.YtdgmpgejemgbbaaGreatDoor
open Go.RowKit

/-- The keywords. -/
def kwL : List (List UInt8) := [[110, 111, 116, 104, 105, 110, 103], [112, 97, 121, 115], [116, 111], [98, 111, 116, 104], [115, 99, 97, 108, 101], [105, 102], [101, 108, 115, 101], [111, 110], [99, 104, 111, 105, 99, 101], [98, 121], [99, 97, 108, 108], [117, 110, 116, 105, 108], [119, 104, 101, 110], [109, 97, 120], [109, 105, 110], [110, 111, 119], [99, 97, 115, 101], [108, 101, 115, 115], [101, 113, 117, 97, 108], [97, 110, 100], [111, 114], [110, 111, 116]]
def kwB (l : List UInt8) : Bool := decide (l ∈ kwL)
def kwS (k : Nat) : ByteArray := ⟨(kwL[k]?.getD []).toArray⟩
def kwO : Array Value := ((List.range 22).map fun k => Value.string (kwS k)).toArray
set_option maxRecDepth 100000 in
theorem rwords_any (w : World) : Calls Tryz.prog 48 #[] w fun e w' => e = .returned (.slice (some ⟨w.heap.size, 0, none⟩) 22 22) ∧ w' = w.alloc (.cells kwO 9) := by
  go_enter Tryz.func48, Tryz.ntmps48
  go_wp2_with fail
  go_ret
  exact ⟨rfl, rfl⟩
theorem kwS_cell (w : World) (k : Nat) (hk : k < 22) : (w.alloc (.cells kwO 9)).cell? ⟨w.heap.size, k, none⟩ = some (.string (kwS k)) := by
  have h : (w.alloc (.cells kwO 9)).heap[w.heap.size]? = some (.cells kwO 9) := by show (w.heap.push _)[w.heap.size]? = _; simp
  rw [exCell h k]
  unfold kwO
  simp [hk]
theorem kw_at {s : ByteArray} {k : Nat} (hk : k < 22) (h : kwS k = s) : kwB s.data.toList = true := by
  subst h
  have : kwL[k]?.getD [] ∈ kwL := by
    rw [List.getElem?_eq_getElem (show k < kwL.length from hk)]
    exact List.getElem_mem _
  exact decide_eq_true this
theorem kw_no {s : ByteArray} (h : ∀ k, k < 22 → kwS k ≠ s) : kwB s.data.toList = false := by
  refine decide_eq_false fun hm => ?_
  obtain ⟨k, hk, e⟩ := List.getElem_of_mem hm
  refine h k hk (Go.WideShapes.bytes_inj ?_)
  show kwL[k]?.getD [] = _
  rw [List.getElem?_eq_getElem hk]
  exact e

set_option maxHeartbeats 1000000 in
theorem rkeyword_any (s : ByteArray) (w : World) : Calls Tryz.prog 39 #[.string s] w (BelB w (kwB s.data.toList)) := by
  obtain ⟨b, hb⟩ : ∃ b, b = kwB s.data.toList := ⟨_, rfl⟩
  rw [← hb]
  have HBB := Lib.hid hb
  have HW := Lib.hid (fun W => rwords_any W)
  have HCELL := Lib.hid (fun k hk => kwS_cell w k hk)
  have HB := Lib.hid (own_below w (.cells kwO 9))
  clear hb
  go_enter Tryz.func39, Tryz.ntmps39
  go_wp2_with fail
  refine (HW.out _).mono ?_
  rintro e w' ⟨rfl, rfl⟩
  obtain ⟨W1, hW1⟩ : ∃ W1, W1 = w.alloc (.cells kwO 9) := ⟨_, rfl⟩
  rw [← hW1] at HCELL HB ⊢
  clear hW1
  go_wp2_with fail
  go_loop [4] (fun v => ∃ k : Nat, k ≤ 22 ∧ v = .int .i64 (k : Int) ∧ Hid (∀ j, j < k → kwS j ≠ s)) (fun v => 22 - (intOf v).toNat)
  case atStart => exact ⟨0, Nat.zero_le _, rfl, Lib.hid (fun j h => absurd h (Nat.not_lt_zero _))⟩
  case round =>
    obtain ⟨k, hk, rfl, HK⟩ := hrel
    by_cases hlt : k < 22
    · have hc := HCELL.out k hlt
      obtain ⟨K, hKK⟩ : ∃ K, K = kwS k := ⟨_, rfl⟩
      rw [← hKK] at hc
      by_cases he : K = s
      · have e1 : (K.toList == s.toList) = true := by rw [he]; exact beq_self_eq_true _
        have HT : Hid (b = true) := HBB.out.trans (kw_at hlt (by rw [← hKK]; exact he))
        have HEq := Lib.hid he
        clear he hKK
        go_wp2_with fail
        go_ret
        exact ⟨ret_bool HT.out.symm, HB.out⟩
      · have e1 : (K.toList == s.toList) = false := by
          rw [beq_eq_false_iff_ne, ByteArray.toList_eq, ByteArray.toList_eq]
          exact fun e => he (Go.WideShapes.bytes_inj e)
        have HX : Hid (∀ j, j < k + 1 → kwS j ≠ s) := fun j hj => by
          by_cases e : j = k
          · subst e; rw [← hKK]; exact he
          · exact HK.out j (by omega)
        clear he hKK
        go_wp2_with fail
        go_round
        case rel => exact ⟨k + 1, hlt, by go_num, HX⟩
        case measure => simp [intOf] <;> omega
    · obtain rfl : k = 22 := by omega
      have HF : Hid (b = false) := HBB.out.trans (kw_no HK.out)
      go_wp2_with fail
      go_ret
      exact ⟨ret_bool HF.out.symm, HB.out⟩

end Go.Proofs.YtdgmpgejemgbbaaGreatDoor

namespace Go.Proofs.YtdgmpgejemgbbaaGreatDoor
open Go.RowKit

/-- A keyword is short. -/
theorem kw_short {s : ByteArray} (h : kwB s.data.toList = true) : s.size ≤ 40 := by
  have h1 : s.data.toList ∈ kwL := of_decide_eq_true h
  have h2 : ∀ l ∈ kwL, l.length ≤ 40 := by decide
  have := h2 _ h1
  simpa using this

set_option maxHeartbeats 1000000 in
theorem rqname_kw (s : ByteArray) (w : World) (hk : kwB s.data.toList = true) : Calls Tryz.prog 21 #[.string s] w (fun e w' => e = .returned (.string (ByteArray.mk #[34] ++ s ++ ByteArray.mk #[34])) ∧ Below w.heap.size w w') := by
  have HK := Lib.hid (rkeyword_any s)
  have hz := kw_short hk
  rw [hk] at HK
  clear hk
  go_enter Tryz.func21, Tryz.ntmps21
  go_wp2_with fail
  refine (HK.out _).mono ?_
  rintro e w' ⟨rfl, hb⟩
  have HBL := Lib.hid hb
  clear hb
  go_wp2_with fail
  go_ret
  exact ⟨rfl, HBL.out⟩

set_option maxHeartbeats 1000000 in
theorem rqname_no (s : ByteArray) (w : World) (hk : kwB s.data.toList = false) : Calls Tryz.prog 21 #[.string s] w (fun e w' => e = .returned (.string s) ∧ Below w.heap.size w w') := by
  have HK := Lib.hid (rkeyword_any s)
  rw [hk] at HK
  clear hk
  go_enter Tryz.func21, Tryz.ntmps21
  go_wp2_with fail
  refine (HK.out _).mono ?_
  rintro e w' ⟨rfl, hb⟩
  have HBL := Lib.hid hb
  clear hb
  go_wp2_with fail
  go_ret
  exact ⟨rfl, HBL.out⟩

end Go.Proofs.YtdgmpgejemgbbaaGreatDoor

namespace Go.Proofs.YtdgmpgejemgbbaaGreatDoor
open Go.RowKit

/-- A name as a text bears it. -/
def qn (s : ByteArray) : ByteArray := if kwB s.data.toList = true then ByteArray.mk #[34] ++ s ++ ByteArray.mk #[34] else s

theorem rqname_any (s : ByteArray) (w : World) : Calls Tryz.prog 21 #[.string s] w (fun e w' => e = .returned (.string (qn s)) ∧ Below w.heap.size w w') := by
  unfold qn
  by_cases h : kwB s.data.toList = true
  · rw [if_pos h]; exact rqname_kw s w h
  · rw [if_neg h]; exact rqname_no s w (by simpa using h)

set_option maxHeartbeats 1000000 in
theorem rquote_any (s : ByteArray) (w : World) : Calls Tryz.prog 9 #[.string s] w (fun e w' => e = .returned (if nmB s.data.toList = true then .tuple #[.string (qn s), .int .i64 0] else .tuple #[.string ByteArray.empty, .int .i64 8]) ∧ Below w.heap.size w w') := by
  have HN := Lib.hid (rname_any s)
  have HQ := Lib.hid (rqname_any s)
  have HR := Lib.hid (Below.refl w.heap.size w)
  obtain ⟨q, hq⟩ : ∃ q, q = qn s := ⟨_, rfl⟩
  rw [← hq] at HQ ⊢
  clear hq
  cases hb : nmB s.data.toList with
  | true =>
    rw [hb] at HN
    clear hb
    go_enter Tryz.func9, Tryz.ntmps9
    go_wp2_with fail
    refine (HN.out _).mono ?_
    rintro e w' ⟨rfl, rfl⟩
    go_wp2_with fail
    refine (HQ.out _).mono ?_
    rintro e w' ⟨rfl, hB⟩
    have HBL := Lib.hid hB
    clear hB
    go_wp2_with fail
    go_ret2
    exact ⟨rfl, HBL.out⟩
  | false =>
    rw [hb] at HN
    clear hb
    go_enter Tryz.func9, Tryz.ntmps9
    go_wp2_with fail
    refine (HN.out _).mono ?_
    rintro e w' ⟨rfl, rfl⟩
    go_wp2_with fail
    go_ret2
    exact ⟨rfl, HR.out⟩

/-- The keywords in the program's order. -/
def kqL : List (List UInt8) := [[97, 110, 100], [98, 111, 116, 104], [98, 121], [99, 97, 108, 108], [99, 97, 115, 101], [99, 104, 111, 105, 99, 101], [101, 108, 115, 101], [101, 113, 117, 97, 108], [105, 102], [108, 101, 115, 115], [109, 97, 120], [109, 105, 110], [110, 111, 116], [110, 111, 116, 104, 105, 110, 103], [110, 111, 119], [111, 110], [111, 114], [112, 97, 121, 115], [115, 99, 97, 108, 101], [116, 111], [117, 110, 116, 105, 108], [119, 104, 101, 110]]
def kqS (k : Nat) : ByteArray := ⟨(kqL[k]?.getD []).toArray⟩
def kqO : Array Value := ((List.range 22).map fun k => Value.string (kqS k)).toArray
set_option maxRecDepth 100000 in
theorem pwords_any (w : World) : Calls Tryz.prog 47 #[] w fun e w' => e = .returned (.slice (some ⟨w.heap.size, 0, none⟩) 22 22) ∧ w' = w.alloc (.cells kqO 9) := by
  go_enter Tryz.func47, Tryz.ntmps47
  go_wp2_with fail
  go_ret
  exact ⟨rfl, rfl⟩
theorem kqS_cell (w : World) (k : Nat) (hk : k < 22) : (w.alloc (.cells kqO 9)).cell? ⟨w.heap.size, k, none⟩ = some (.string (kqS k)) := by
  have h : (w.alloc (.cells kqO 9)).heap[w.heap.size]? = some (.cells kqO 9) := by show (w.heap.push _)[w.heap.size]? = _; simp
  rw [exCell h k]
  unfold kqO
  simp [hk]
/-- The two lists hold the same words. -/
theorem kq_kw (l : List UInt8) : kwB l = decide (l ∈ kqL) := by
  have h1 : ∀ x ∈ kwL, x ∈ kqL := by decide
  have h2 : ∀ x ∈ kqL, x ∈ kwL := by decide
  unfold kwB
  exact decide_eq_decide.2 ⟨h1 l, h2 l⟩

end Go.Proofs.YtdgmpgejemgbbaaGreatDoor

namespace Go.Proofs.YtdgmpgejemgbbaaGreatDoor
open Go.RowKit

theorem kq_less : ∀ t, t < 22 → ∀ j, j < 22 → Op.bytesLess (kqL[t]?.getD []) (kqL[j]?.getD []) = decide (t < j) := by decide +kernel

/-- The halving of a row of which a head is less, within the row. -/
theorem halve {less : Nat → Bool} {n k : Nat} (h1 : ∀ t, t < k → less t = true) (h2 : ∀ t, k ≤ t → t < n → less t = false) : ∀ f lo hi : Nat, hi - lo ≤ f → lo ≤ k → k ≤ hi → hi ≤ n → Lib.bsGo less f lo hi = k := by
  intro f
  induction f with
  | zero => intro lo hi a b c d; show lo = k; omega
  | succ f ih =>
    intro lo hi a b c d
    rw [Lib.bsGo]
    split
    · cases hm : less ((lo + hi) / 2) with
      | true =>
        have : (lo + hi) / 2 < k := Nat.lt_of_not_le fun h => by
          rw [h2 _ h (by omega)] at hm; exact Bool.noConfusion hm
        rw [if_pos rfl]
        exact ih _ _ (by omega) (by omega) c d
      | false =>
        have : k ≤ (lo + hi) / 2 := Nat.le_of_not_lt fun h => by
          rw [h1 _ h] at hm; exact Bool.noConfusion hm
        rw [if_neg Bool.false_ne_true]
        exact ih _ _ (by omega) b this (by omega)
    · omega

theorem kq_found (s : ByteArray) : decide (Lib.bsGo (fun t => Op.bytesLess (kqS t).toList s.toList) 22 0 22 < 22 ∧ kqS (Lib.bsGo (fun t => Op.bytesLess (kqS t).toList s.toList) 22 0 22) = s) = kwB s.data.toList := by
  rw [kq_kw]
  refine decide_eq_decide.2 ⟨fun h => ?_, fun h => ?_⟩
  · obtain ⟨h1, h2⟩ := h
    revert h1 h2
    generalize Lib.bsGo (fun t => Op.bytesLess (kqS t).toList s.toList) 22 0 22 = I
    intro h1 h2
    rw [← h2]
    show kqL[I]?.getD [] ∈ kqL
    rw [List.getElem?_eq_getElem (show I < kqL.length from h1)]
    exact List.getElem_mem _
  · obtain ⟨j, hj, e⟩ := List.getElem_of_mem h
    have hj' : j < 22 := hj
    have hs : kqS j = s := by
      apply Go.WideShapes.bytes_inj
      show kqL[j]?.getD [] = _
      rw [List.getElem?_eq_getElem hj]
      exact e
    have hl : ∀ t, t < 22 → Op.bytesLess (kqS t).toList s.toList = decide (t < j) := fun t ht => by
      rw [← hs, ByteArray.toList_eq, ByteArray.toList_eq]
      exact kq_less t ht j hj'
    have hk : Lib.bsGo (fun t => Op.bytesLess (kqS t).toList s.toList) 22 0 22 = j :=
      halve (n := 22) (fun t ht => (hl t (by omega)).trans (decide_eq_true ht)) (fun t a b => (hl t b).trans (decide_eq_false (by omega))) 22 0 22 (by omega) (by omega) (by omega) (by omega)
    rw [hk]
    exact ⟨hj', hs⟩

end Go.Proofs.YtdgmpgejemgbbaaGreatDoor

namespace Go.Proofs
open Go.Shelf
def Tryz.laysQ26_ren : Go.Shelf.Ren := ⟨fun | 26 => 46 | 33 => 60 | 34 => 61 | 38 => 75 | n => n, fun | 0 => 0 | 3 => 3 | 4 => 4 | 9 => 9 | 24 => 71 | 40 => 99 | n => n, fun | n => n⟩
theorem Tryz.laysQ26 : Go.Proofs.Lays2.n26 Tryz.prog Tryz.laysQ26_ren := {
  mixed := by kernel_rfl
  f26 := Tryz.func46.trans (congrArg some (by kernel_rfl))
  f33 := Tryz.func60.trans (congrArg some (by kernel_rfl))
  f34 := Tryz.func61.trans (congrArg some (by kernel_rfl))
  f38 := Tryz.func75.trans (congrArg some (by kernel_rfl))
  t0 := Tryz.underlying0
  a0 := Tryz.isAgg0
  z0 := Tryz.sizeOf0
  v0 := Tryz.zeroValue0
  t3 := Tryz.underlying3
  a3 := Tryz.isAgg3
  z3 := Tryz.sizeOf3
  v3 := Tryz.zeroValue3
  t4 := Tryz.underlying4
  a4 := Tryz.isAgg4
  z4 := Tryz.sizeOf4
  v4 := Tryz.zeroValue4
  t9 := Tryz.underlying9
  a9 := Tryz.isAgg9
  z9 := Tryz.sizeOf9
  v9 := Tryz.zeroValue9
  t24 := Tryz.underlying71
  a24 := Tryz.isAgg71
  z24 := Tryz.sizeOf71
  v24 := Tryz.zeroValue71
  t40 := Tryz.underlying99
  a40 := Tryz.isAgg99
  z40 := Tryz.sizeOf99
  v40 := Tryz.zeroValue99 }

end Go.Proofs
namespace Go.Proofs.YtdgmpgejemgbbaaGreatDoor
open Go.RowKit


set_option maxHeartbeats 1000000 in
theorem pkeyword_any (s : ByteArray) (w : World) : Calls Tryz.prog 38 #[.string s] w (BelB w (kwB s.data.toList)) := by
  have HW := Lib.hid (fun W => pwords_any W)
  have HB := Lib.hid (own_below w (.cells kqO 9))
  have HS : Hid (Calls Tryz.prog 46 #[.slice (some ⟨w.heap.size, 0, none⟩) 22 22, .string s] (w.alloc (.cells kqO 9)) fun e w' => ∃ I : Int, e = .returned (.tuple #[.int .i64 I, .bool (kwB s.data.toList)]) ∧ ∃ q, w' = (w.alloc (.cells kqO 9)).drewN q) := by
    refine Lib.hid (Calls.mono (Any2.slices_BinarySearch_string Tryz.laysQ26 w.heap.size 0 22 22 kqS s _ (by decide) (fun j hj => by rw [Nat.zero_add]; exact kqS_cell w j hj)) ?_)
    rintro e w' ⟨h1, h2⟩
    exact ⟨_, by rw [h1, kq_found], h2⟩
  obtain ⟨b, hb⟩ : ∃ b, b = kwB s.data.toList := ⟨_, rfl⟩
  rw [← hb] at HS ⊢
  clear hb
  go_enter Tryz.func38, Tryz.ntmps38
  go_wp2_with fail
  refine (HW.out _).mono ?_
  rintro e w' ⟨rfl, rfl⟩
  obtain ⟨W1, hW1⟩ : ∃ W1, W1 = w.alloc (.cells kqO 9) := ⟨_, rfl⟩
  rw [← hW1] at HS HB ⊢
  clear hW1
  go_wp2_with fail
  refine HS.out.mono ?_
  rintro e w' ⟨I, rfl, q, rfl⟩
  have HD := Lib.hid (below_drewN HB.out q)
  go_wp2_with fail
  go_ret
  exact ⟨rfl, HD.out⟩

end Go.Proofs.YtdgmpgejemgbbaaGreatDoor

namespace Go.Proofs.YtdgmpgejemgbbaaGreatDoor
open Go.RowKit

set_option maxHeartbeats 1000000 in
theorem pqname_kw (s : ByteArray) (w : World) (hk : kwB s.data.toList = true) : Calls Tryz.prog 19 #[.string s] w (fun e w' => e = .returned (.string (ByteArray.mk #[34] ++ s ++ ByteArray.mk #[34])) ∧ Below w.heap.size w w') := by
  have HK := Lib.hid (pkeyword_any s)
  have hz := kw_short hk
  rw [hk] at HK
  clear hk
  go_enter Tryz.func19, Tryz.ntmps19
  go_wp2_with fail
  refine (HK.out _).mono ?_
  rintro e w' ⟨rfl, hb⟩
  have HBL := Lib.hid hb
  clear hb
  go_wp2_with fail
  go_ret
  exact ⟨rfl, HBL.out⟩

set_option maxHeartbeats 1000000 in
theorem pqname_no (s : ByteArray) (w : World) (hk : kwB s.data.toList = false) : Calls Tryz.prog 19 #[.string s] w (fun e w' => e = .returned (.string s) ∧ Below w.heap.size w w') := by
  have HK := Lib.hid (pkeyword_any s)
  rw [hk] at HK
  clear hk
  go_enter Tryz.func19, Tryz.ntmps19
  go_wp2_with fail
  refine (HK.out _).mono ?_
  rintro e w' ⟨rfl, hb⟩
  have HBL := Lib.hid hb
  clear hb
  go_wp2_with fail
  go_ret
  exact ⟨rfl, HBL.out⟩

theorem pqname_any (s : ByteArray) (w : World) : Calls Tryz.prog 19 #[.string s] w (fun e w' => e = .returned (.string (qn s)) ∧ Below w.heap.size w w') := by
  unfold qn
  by_cases h : kwB s.data.toList = true
  · rw [if_pos h]; exact pqname_kw s w h
  · rw [if_neg h]; exact pqname_no s w (by simpa using h)

set_option maxHeartbeats 1000000 in
theorem pquote_any (s : ByteArray) (w : World) : Calls Tryz.prog 8 #[.string s] w (fun e w' => e = .returned (if nmB s.data.toList = true then .tuple #[.string (qn s), .int .i64 0] else .tuple #[.string ByteArray.empty, .int .i64 8]) ∧ Below w.heap.size w w') := by
  have HN := Lib.hid (name_any s)
  have HQ := Lib.hid (pqname_any s)
  have HR := Lib.hid (Below.refl w.heap.size w)
  obtain ⟨q, hq⟩ : ∃ q, q = qn s := ⟨_, rfl⟩
  rw [← hq] at HQ ⊢
  clear hq
  cases hb : nmB s.data.toList with
  | true =>
    rw [hb] at HN
    clear hb
    go_enter Tryz.func8, Tryz.ntmps8
    go_wp2_with fail
    refine (HN.out _).mono ?_
    rintro e w' ⟨rfl, rfl⟩
    go_wp2_with fail
    refine (HQ.out _).mono ?_
    rintro e w' ⟨rfl, hB⟩
    have HBL := Lib.hid hB
    clear hB
    go_wp2_with fail
    go_ret2
    exact ⟨rfl, HBL.out⟩
  | false =>
    rw [hb] at HN
    clear hb
    go_enter Tryz.func8, Tryz.ntmps8
    go_wp2_with fail
    refine (HN.out _).mono ?_
    rintro e w' ⟨rfl, rfl⟩
    go_wp2_with fail
    go_ret2
    exact ⟨rfl, HR.out⟩

end Go.Proofs.YtdgmpgejemgbbaaGreatDoor
