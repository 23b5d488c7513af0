/-
  The collector of a text (printer.out): its block, its buffer; copyCheck, WriteString, Len and String of a Builder that lies at its head. No condition but lengths. (*out).put and (*out).text walked. No condition but lengths. The words of the kinds: the map that the program makes, its look-ups. No condition.
-/
import Derived.Test.YtdgmpgejemgbbaaGreatDoorOc
import Derived.Lib.FrozenHead2
import Derived.Lib.OthersKept
import Derived.Lib.UnsafeStr
import Derived.Lib.MakeNoZero
import Derived.Laws.Externs
import Derived.Maps.Own
namespace Go.Proofs.YtdgmpgejemgbbaaGreatDoor
open Go.RowKit

/-- Block b is a collector: its Builder (address p, a buffer), its words m; it holds the bytes l. -/
def OutAt (B b : Nat) (p m : Value) (l : List UInt8) (w : World) : Prop :=
  B ≤ b ∧ ∃ v, w.heap[b]? = some (.cells #[p, v, m] 47 (0, 0)) ∧ w.ownsRowF B 5 1 v l.length (Lib.byteCells l) ∧ v.ownBlock ≠ some b
/-- Fresh or used. -/
def IsOut (B b : Nat) (m : Value) (l : List UInt8) (w : World) : Prop := OutAt B b (.pointer none) m l w ∨ OutAt B b (.pointer (some ⟨b, 0, none⟩)) m l w
/-- What a writer leaves of all else. -/
def OutK (B b : Nat) (w w' : World) : Prop := Below B w w' ∧ Lib.OthersKept 5 (some b) w w'
theorem OutK.refl (B b : Nat) (w : World) : OutK B b w w := ⟨Below.refl _ _, Lib.OthersKept.refl _ _ _⟩
theorem OutK.trans {B b : Nat} {w w' w'' : World} (h : OutK B b w w') (k : OutK B b w' w'') : OutK B b w w'' := ⟨h.1.trans k.1, h.2.trans k.2⟩
theorem OutK.alloc {B b : Nat} {w w' : World} (h : OutK B b w w') (hB : B ≤ w'.heap.size) (o : Obj) : OutK B b w (w'.alloc o) := ⟨h.1.alloc hB o, h.2.alloc o⟩
theorem OutK.drew {B b : Nat} {w w' : World} (h : OutK B b w w') : OutK B b w w'.drew := ⟨h.1.drew, h.2.drew⟩
/-- A call that leaves all that there was. -/
theorem OutK.below {B b : Nat} {w w' : World} (h : Below w.heap.size w w') (hB : B ≤ w.heap.size) : OutK B b w w' :=
  ⟨h.mono hB, fun k _ hk _ _ => (h.block k (Array.getElem?_eq_some_iff.1 hk).1).trans hk⟩
theorem OutAt.lt {B b : Nat} {p m : Value} {l : List UInt8} {w : World} (h : OutAt B b p m l w) : b < w.heap.size := by
  obtain ⟨_, v, hb, _⟩ := h
  exact (Array.getElem?_eq_some_iff.1 hb).1
theorem OutAt.below {B b : Nat} {p m : Value} {l : List UInt8} {w w' : World} (h : OutAt B b p m l w) (hb : Below w.heap.size w w') : OutAt B b p m l w' := by
  have hlt := h.lt
  obtain ⟨hB, v, h1, h2, h3⟩ := h
  exact ⟨hB, v, (hb.block _ hlt).trans h1, h2.kept (row := none) ⟨hb.os, hb.tape, hb.output, hb.size, fun i hi _ => hb.block i hi⟩ (by cases hv : v.ownBlock <;> simp), h3⟩
theorem IsOut.below {B b : Nat} {m : Value} {l : List UInt8} {w w' : World} (h : IsOut B b m l w) (hb : Below w.heap.size w w') : IsOut B b m l w' := h.imp (·.below hb) (·.below hb)
theorem IsOut.at {B b : Nat} {m : Value} {l : List UInt8} {w : World} (h : IsOut B b m l w) : ∃ p, OutAt B b p m l w := h.elim (fun x => ⟨_, x⟩) (fun x => ⟨_, x⟩)

theorem infoBuilder : (Tryz.prog.info? 45).map (·.size) = some 2 := by kernel_rfl
theorem infoOut : (Tryz.prog.info? 47).map (·.size) = some 3 := by kernel_rfl
theorem infoB8 : (Tryz.prog.info? 5).map (fun i => (i.zero, i.size, i.bytes)) = some (some (.int .u8 0), 1, 1) := by kernel_rfl
theorem liesOut : liesAt Tryz.prog Tryz.prog.depth 47 (3 / Tryz.prog.cellsOf 47) 0 45 1 = true := by kernel_rfl

set_option maxHeartbeats 1000000 in
set_option maxRecDepth 100000 in
theorem bcopy_used (b : Nat) (w : World) (h0 : w.cell? ⟨b, 0, none⟩ = some (.pointer (some ⟨b, 0, none⟩))) :
    Calls Tryz.prog 51 #[.pointer (some ⟨b, 0, none⟩)] w fun e w' => e = .returned (.tuple #[]) ∧ w' = w := by
  obtain ⟨j, hj, _⟩ := Option.map_eq_some_iff.1 infoBuilder
  go_enter Tryz.func51, Tryz.ntmps51
  go_wp2
  rw [Lib.run_neq_ptr_same w _ Tryz.underlying42 hj]
  go_wp2
  go_end0
  exact ⟨rfl, rfl⟩

set_option maxHeartbeats 1000000 in
set_option maxRecDepth 100000 in
theorem bcopy_fresh (b : Nat) (w : World) (h0 : w.cell? ⟨b, 0, none⟩ = some (.pointer none)) (hsh : w.shape? b = some (47, 3)) (hfz : w.frozen? ⟨b, 0, none⟩ = false) :
    Calls Tryz.prog 51 #[.pointer (some ⟨b, 0, none⟩)] w fun e w' => e = .returned (.tuple #[]) ∧ w' = w.setCell ⟨b, 0, none⟩ (.pointer (some ⟨b, 0, none⟩)) := by
  obtain ⟨j, hj, hjs⟩ := Option.map_eq_some_iff.1 infoBuilder
  go_enter Tryz.func51, Tryz.ntmps51
  go_wp2
  rw [Lib.run_to_unsafe w ⟨b, 0, none⟩ Tryz.underlying42 Tryz.underlying106 hj (by rw [hjs]; decide) hsh (Nat.zero_lt_succ 2)]
  simp only [Result.andThen]
  rw [Oper.upon_value]
  go_wp2
  rw [run_callFunc_extern Tryz.func66 (by kernel_rfl) (by kernel_rfl) (by kernel_rfl) (e := Extern.AbiNoEscape.same) (by kernel_rfl)]
  rw [Lib.run_noEscape]
  simp only [Result.andThen]
  rw [Oper.upon_value]
  go_wp2
  rw [Lib.run_from_unsafe w ⟨b, 0, none⟩ Tryz.underlying106 Tryz.underlying42 hj hsh liesOut]
  simp only [Result.andThen]
  rw [Oper.upon_value]
  go_wp2
  go_end0
  exact ⟨rfl, rfl⟩

theorem OutAt.used {B b : Nat} {p m : Value} {l : List UInt8} {w : World} (h : OutAt B b p m l w) (q : Value) : OutAt B b q m l (w.setCell ⟨b, 0, none⟩ q) := by
  obtain ⟨hB, v, hb, hown, hne⟩ := h
  refine ⟨hB, v, ?_, ?_, hne⟩
  · simp [World.setCell, Array.getElem?_modify, hb]
  · exact hown.kept (row := some b) ⟨rfl, rfl, rfl, by simp [World.setCell], fun k _ hk => Below.heap_setCell _ _ _ _ (fun e => hk (by simp [e]))⟩ (Or.inr hne)
theorem OutAt.put {B b : Nat} {p v v' m : Value} {l' : List UInt8} {w : World} (hB : B ≤ b) (hb : w.heap[b]? = some (.cells #[p, v, m] 47 (0, 0))) (hown : w.ownsRowF B 5 1 v' l'.length (Lib.byteCells l')) :
    OutAt B b p m l' (w.setCell ⟨b, 1, none⟩ v') := by
  have hne := Lib.ownBlock_neF hown hb (by decide)
  refine ⟨hB, v', ?_, ?_, hne⟩
  · simp [World.setCell, Array.getElem?_modify, hb]
  · exact hown.kept (row := some b) ⟨rfl, rfl, rfl, by simp [World.setCell], fun k _ hk => Below.heap_setCell _ _ _ _ (fun e => hk (by simp [e]))⟩ (Or.inr hne)

theorem bcopy_any (B b : Nat) (m : Value) (l : List UInt8) (w : World) (h : IsOut B b m l w) :
    Calls Tryz.prog 51 #[.pointer (some ⟨b, 0, none⟩)] w fun e w' => e = .returned (.tuple #[]) ∧ OutAt B b (.pointer (some ⟨b, 0, none⟩)) m l w' ∧ OutK B b w w' := by
  rcases h with h | h
  · have hA := h
    obtain ⟨hB, v, hb, hown, hne⟩ := h
    refine (bcopy_fresh b w (by simp [World.cell?, hb]) (by simp [World.shape?, hb]) (by simp [World.frozen?, hb])).mono ?_
    rintro e w' ⟨rfl, rfl⟩
    exact ⟨rfl, hA.used _, (Below.refl B w).setCell (p := ⟨b, 0, none⟩) hB _, (Lib.OthersKept.refl _ _ w).setCell ⟨b, 0, none⟩ rfl _⟩
  · have hA := h
    obtain ⟨hB, v, hb, hown, hne⟩ := h
    refine (bcopy_used b w (by simp [World.cell?, hb])).mono ?_
    rintro e w' ⟨rfl, rfl⟩
    exact ⟨rfl, hA, OutK.refl _ _ _⟩

set_option maxHeartbeats 2000000 in
set_option maxRecDepth 100000 in
theorem bwrite_any (B b : Nat) (m : Value) (l : List UInt8) (s : ByteArray) (w : World) (h : IsOut B b m l w) (hlen : l.length + s.size ≤ 140737488355328) (hBw : B ≤ w.heap.size) :
    Calls Tryz.prog 41 #[.pointer (some ⟨b, 0, none⟩), .string s] w fun e w' => e = .returned (.tuple #[.int .i64 s.size, .nilIface]) ∧ IsOut B b m (l ++ s.data.toList) w' ∧ OutK B b w w' := by
  obtain ⟨i0, hi, hz0, hz1, hz2⟩ := info_parts infoB8
  have HC := Lib.hid (bcopy_any B b m l w h)
  clear h
  go_enter Tryz.func41, Tryz.ntmps41
  go_wp2_with fail
  refine HC.out.mono ?_
  rintro e w1 ⟨rfl, h1, hb1, hk1⟩
  obtain ⟨hB, v, hbk, hown, hne⟩ := h1
  have c0 : w1.cell? ⟨b, 0, none⟩ = some (.pointer (some ⟨b, 0, none⟩)) := by rw [Lib.cell_of_heap hbk]; rfl
  have c1 : w1.cell? ⟨b, 1, none⟩ = some v := by rw [Lib.cell_of_heap hbk]; rfl
  have hsz1 := hb1.size
  have HBK := Lib.hid hbk
  have HOWN := Lib.hid hown
  clear hbk hown
  go_wp2_with (at_builtin; refine Lib.wpList_append_own_stringF _ rfl _ _ 43 9 rfl B 5 i0 Tryz.underlying43 Tryz.underlying9 hi hz0 hz1 hz2 _ _ _ rfl HOWN.out s rfl ?c3 ?c4 ?c5 ?_)
  case c3 => unfold maxLen; omega
  case c4 => omega
  case c5 => omega
  intro v' w2 hown' hgrow _
  have hbk := HBK.out
  have hown := HOWN.out
  have hlt : b < w1.heap.size := (Array.getElem?_eq_some_iff.1 hbk).1
  have hb2 : w2.heap[b]? = some (.cells #[.pointer (some ⟨b, 0, none⟩), v, m] 47 (0, 0)) := by
    rw [hgrow.block b hlt (fun e => hne e.symm)]
    exact hbk
  have d0 : w2.cell? ⟨b, 0, none⟩ = some (.pointer (some ⟨b, 0, none⟩)) := by rw [Lib.cell_of_heap hb2]; rfl
  have d1 : w2.cell? ⟨b, 1, none⟩ = some v := by rw [Lib.cell_of_heap hb2]; rfl
  have f1 : w2.frozen? ⟨b, 1, none⟩ = false := Lib.frozen_of_heap hb2 1
  have HP : Hid (OutAt B b (.pointer (some ⟨b, 0, none⟩)) m (l ++ s.data.toList) (w2.setCell ⟨b, 1, none⟩ v')) := OutAt.put hB hb2 (by
    have e : Lib.byteCells (l ++ s.data.toList) = Lib.byteCells l ++ Lib.strCells s := by simp [Lib.byteCells, Lib.strCells]
    rw [e]
    simpa using hown')
  have HK : Hid (OutK B b w (w2.setCell ⟨b, 1, none⟩ v')) := ⟨(hb1.grown hgrow (by omega) (fun k hk => (hown.lt k hk).1)).setCell (p := ⟨b, 1, none⟩) hB _, (hk1.grown hgrow (Lib.ownsRowF_kind hown)).setCell ⟨b, 1, none⟩ rfl _⟩
  obtain ⟨ao, n', cap, rfl⟩ : ∃ ao n' cap, v' = .slice ao n' cap := by
    rcases hown'.2 with ⟨hv, _⟩ | ⟨g, cap, cur, fz, hv, _⟩
    · exact ⟨_, _, _, hv⟩
    · exact ⟨_, _, _, hv⟩
  clear hbk hown hb2 hown'
  go_wp2
  go_ret2
  exact ⟨rfl, .inr HP.out, HK.out⟩

set_option maxHeartbeats 1000000 in
set_option maxRecDepth 100000 in
theorem blen_any (B b : Nat) (m : Value) (l : List UInt8) (w : World) (h : IsOut B b m l w) :
    Calls Tryz.prog 28 #[.pointer (some ⟨b, 0, none⟩)] w fun e w' => e = .returned (.int .i64 l.length) ∧ w = w' := by
  obtain ⟨p, hB, v, hbk, hown, hne⟩ := h.at
  obtain ⟨ao, cap, rfl⟩ : ∃ ao cap, v = .slice ao l.length cap := by
    rcases hown.2 with ⟨hv, h0⟩ | ⟨g, cap, cur, fz, hv, _⟩
    · exact ⟨none, 0, by rw [hv, h0]⟩
    · exact ⟨_, _, hv⟩
  have c1 : w.cell? ⟨b, 1, none⟩ = some (.slice ao l.length cap) := by rw [Lib.cell_of_heap hbk]; rfl
  clear hbk hown h
  go_enter Tryz.func28, Tryz.ntmps28
  go_wp2
  go_ret
  exact ⟨rfl, rfl⟩

set_option maxHeartbeats 1000000 in
set_option maxRecDepth 100000 in
theorem bstring_any (B b : Nat) (m : Value) (l : List UInt8) (w : World) (h : IsOut B b m l w) (h0 : l ≠ []) :
    Calls Tryz.prog 29 #[.pointer (some ⟨b, 0, none⟩)] w fun e w' => e = .returned (.string ⟨l.toArray⟩) ∧ Below B w w' := by
  obtain ⟨p, hB, v, hbk, hown, hne⟩ := h.at
  have hl0 : l.length ≠ 0 := by simpa using h0
  obtain ⟨g, cap, cur, fz, rfl, hbg, hg, hfz, hnc, hcm, hcs, htake⟩ : ∃ g cap cur fz, v = .slice (some ⟨g, 0, none⟩) l.length cap ∧ B ≤ g ∧ w.heap[g]? = some (.cells cur 5 fz) ∧ fz.2 ≤ l.length * 1 ∧ l.length ≤ cap ∧ cap ≤ maxLen ∧ cur.size = cap * 1 ∧ cur.toList.take (l.length * 1) = Lib.byteCells l := by
    rcases hown.2 with ⟨_, hz⟩ | ⟨g, cap, cur, fz, hv, r⟩
    · exact absurd hz hl0
    · exact ⟨g, cap, cur, fz, hv, r⟩
  have c1 : w.drew.cell? ⟨b, 1, none⟩ = some (.slice (some ⟨g, 0, none⟩) l.length cap) := by
    have : w.drew.heap[b]? = some (.cells #[p, .slice (some ⟨g, 0, none⟩) l.length cap, m] 47 (0, 0)) := hbk
    rw [Lib.cell_of_heap this]; rfl
  have hSD : (Builtin.unsafeSliceData_ #[43] 77 #[.slice (some ⟨g, 0, none⟩) l.length cap]).run Tryz.prog w.drew = .ok (.pointer (some ⟨g, 0, none⟩)) w.drew :=
    Lib.run_unsafeSliceData_row _ _ _ _ _ _ (by omega)
  have hUS : (Builtin.unsafeString_ #[77, 3] 9 #[.pointer (some ⟨g, 0, none⟩), .int .i64 l.length]).run Tryz.prog w.drew = .ok (.string ⟨l.toArray⟩) (w.drew.freeze ⟨g, 0, none⟩ l.length) := by
    refine Lib.run_unsafeString_row w.drew 77 3 9 5 Tryz.underlying77 (by kernel_rfl) g cur.size (by have hg' : w.drew.heap[g]? = some (.cells cur 5 fz) := hg; simp [World.shape?, hg']) l h0 (by omega) (by unfold maxLen at hcm; omega) ?_
    intro j x hx
    have := hown.cells (g := g) rfl j (.int .u8 x.toNat) (by simp [Lib.byteCells, hx])
    exact this
  have HB : Hid (Below B w (w.drew.freeze ⟨g, 0, none⟩ l.length)) := Lib.below_freeze (Below.drew (Below.refl B w)) (p := ⟨g, 0, none⟩) hbg _
  clear hbk hown h hg htake hcs hl0 hfz
  go_enter Tryz.func29, Tryz.ntmps29
  go_wp2
  go_region
  all_goals (go_wp2; go_ret; exact ⟨rfl, HB.out⟩)

end Go.Proofs.YtdgmpgejemgbbaaGreatDoor

namespace Go.Proofs.YtdgmpgejemgbbaaGreatDoor
open Go.RowKit

/-- The bytes of strings, one after the other. -/
def catB (ss : List ByteArray) : List UInt8 := ss.flatMap fun s => s.data.toList
theorem catB_take (ss : List ByteArray) (k : Nat) (h : k < ss.length) : catB (ss.take (k + 1)) = catB (ss.take k) ++ ss[k].data.toList := by
  unfold catB
  rw [List.take_succ_eq_append_getElem h, List.flatMap_append]; simp
theorem catB_le (ss : List ByteArray) (k : Nat) : (catB (ss.take k)).length ≤ (catB ss).length := by
  have : catB ss = catB (ss.take k) ++ catB (ss.drop k) := by
    unfold catB
    rw [← List.flatMap_append, List.take_append_drop]
  rw [this, List.length_append]; omega
/-- A writer's end. -/
def WrP (B b : Nat) (m : Value) (l : List UInt8) (w : World) (e : Ending) (w' : World) : Prop := e = .returned (.tuple #[]) ∧ IsOut B b m l w' ∧ OutK B b w w'

set_option maxHeartbeats 2000000 in
set_option maxRecDepth 100000 in
theorem put_any (B b g : Nat) (m : Value) (l : List UInt8) (ss : List ByteArray) (w : World) (n : Nat) (h : IsOut B b m l w) (hg : w.heap[g]? = some (.cells (ss.map Value.string).toArray 9 (0, 0))) (hn : ss.length = n) (hn1 : n ≤ 1000) (hlen : l.length + (catB ss).length ≤ 140737488355328) (hBw : B ≤ w.heap.size) :
    Calls Tryz.prog 26 #[.pointer (some ⟨b, 0, none⟩), .slice (some ⟨g, 0, none⟩) n n] w (WrP B b m (l ++ catB ss) w) := by
  have hgb : g ≠ b := by
    rintro rfl
    obtain ⟨p, _, v, hb, _⟩ := h.at
    rw [hg] at hb
    simp at hb
  have HG := Lib.hid hg
  have HO := Lib.hid h
  have HN := Lib.hid hn
  clear hg h hn
  go_enter Tryz.func26, Tryz.ntmps26
  go_wp2_with fail
  go_loopw [5, 8] (fun _ iv wr => ∃ k : Nat, k ≤ n ∧ iv = .int .i64 (k : Int) ∧ IsOut B b m (l ++ catB (ss.take k)) wr ∧ OutK B b w wr) (fun _ iv _ => n - (intOf iv).toNat)
  case atStart => exact ⟨0, Nat.zero_le _, rfl, by simpa [catB] using HO.out, OutK.refl _ _ _⟩
  case round =>
    obtain ⟨w1, rfl⟩ : ∃ w1 : World, w1 = wr := ⟨_, rfl⟩
    obtain ⟨k, hk, rfl, hio, hok⟩ := hrel
    have hB1 : B ≤ w1.heap.size := Nat.le_trans hBw hok.1.size
    have HIO := Lib.hid hio
    have HOK := Lib.hid hok
    have hg1 : w1.heap[g]? = some (.cells (ss.map Value.string).toArray 9 (0, 0)) := hok.2 g _ HG.out (by simpa using hgb) (by intro c fz e; simp at e)
    have hlt1 : b < w1.heap.size := by obtain ⟨p, hp⟩ := hio.at; exact hp.lt
    clear hio hok
    by_cases hlt : k < n
    · have hlt2 : k < ss.length := by rw [HN.out]; exact hlt
      obtain ⟨s, hs⟩ : ∃ s, s = ss[k] := ⟨_, rfl⟩
      have c0 : w1.cell? ⟨g, k, none⟩ = some (.string s) := by rw [Lib.cell_of_heap hg1, hs]; simp [hlt2]
      have HT : Hid (catB (ss.take (k + 1)) = catB (ss.take k) ++ s.data.toList) := by rw [hs]; exact catB_take ss k hlt2
      have HC := Lib.hid (bwrite_any B b m (l ++ catB (ss.take k)) s w1 HIO.out (by
        have q1 := catB_le ss (k + 1)
        have q2 := HT.out
        have q3 : s.data.toList.length = s.size := by simp
        rw [q2, List.length_append, q3] at q1
        rw [List.length_append]; omega) hB1)
      clear hg1 hs
      go_wp2_with fail
      refine HC.out.mono ?_
      rintro e w2 ⟨rfl, hio2, hok2⟩
      have HIO2 := Lib.hid hio2
      have HOK2 := Lib.hid (HOK.out.trans hok2)
      clear hio2 hok2
      go_wp2_with fail
      go_roundw
      case rel => exact ⟨k + 1, by omega, by go_num, by rw [HT.out, ← List.append_assoc]; exact HIO2.out, HOK2.out⟩
      case measure => simp [intOf] <;> omega
    · have HE : Hid (ss.take k = ss) := Lib.hid (List.take_of_length_le (by rw [HN.out]; omega))
      clear hg1
      go_wp2_with fail
      go_end0
      exact ⟨rfl, by rw [← HE.out]; exact HIO.out, HOK.out⟩

theorem alloc_at (w : World) (o : Obj) : (w.alloc o).heap[w.heap.size]? = some o := by show (w.heap.push o)[w.heap.size]? = _; simp
theorem put1 (B b : Nat) (m : Value) (l : List UInt8) (s : ByteArray) (w : World) (h : IsOut B b m l w) (hlen : l.length + s.size ≤ 140737488355328) (hBw : B ≤ w.heap.size) :
    Calls Tryz.prog 26 #[.pointer (some ⟨b, 0, none⟩), .slice (some ⟨w.heap.size, 0, none⟩) 1 1] (w.alloc (.cells #[.string s] 9)) (WrP B b m (l ++ s.data.toList) w) := by
  have hK := OutK.below (b := b) (own_below w (.cells #[.string s] 9)) hBw
  refine (put_any B b w.heap.size m l [s] _ 1 (h.below (own_below w _)) (alloc_at _ _) rfl (by omega) (by simpa [catB] using hlen) (by simp; omega)).mono ?_
  rintro e w' ⟨rfl, h1, h2⟩
  exact ⟨rfl, by simpa [catB] using h1, hK.trans h2⟩
theorem put2 (B b : Nat) (m : Value) (l : List UInt8) (s t : ByteArray) (w : World) (h : IsOut B b m l w) (hlen : l.length + (s.size + t.size) ≤ 140737488355328) (hBw : B ≤ w.heap.size) :
    Calls Tryz.prog 26 #[.pointer (some ⟨b, 0, none⟩), .slice (some ⟨w.heap.size, 0, none⟩) 2 2] (w.alloc (.cells #[.string s, .string t] 9)) (WrP B b m (l ++ (s.data.toList ++ t.data.toList)) w) := by
  have hK := OutK.below (b := b) (own_below w (.cells #[.string s, .string t] 9)) hBw
  refine (put_any B b w.heap.size m l [s, t] _ 2 (h.below (own_below w _)) (alloc_at _ _) rfl (by omega) (by simpa [catB] using hlen) (by simp; omega)).mono ?_
  rintro e w' ⟨rfl, h1, h2⟩
  exact ⟨rfl, by simpa [catB] using h1, hK.trans h2⟩
theorem put3 (B b : Nat) (m : Value) (l : List UInt8) (s t u : ByteArray) (w : World) (h : IsOut B b m l w) (hlen : l.length + (s.size + (t.size + u.size)) ≤ 140737488355328) (hBw : B ≤ w.heap.size) :
    Calls Tryz.prog 26 #[.pointer (some ⟨b, 0, none⟩), .slice (some ⟨w.heap.size, 0, none⟩) 3 3] (w.alloc (.cells #[.string s, .string t, .string u] 9)) (WrP B b m (l ++ (s.data.toList ++ (t.data.toList ++ u.data.toList))) w) := by
  have hK := OutK.below (b := b) (own_below w (.cells #[.string s, .string t, .string u] 9)) hBw
  refine (put_any B b w.heap.size m l [s, t, u] _ 3 (h.below (own_below w _)) (alloc_at _ _) rfl (by omega) (by simpa [catB] using hlen) (by simp; omega)).mono ?_
  rintro e w' ⟨rfl, h1, h2⟩
  exact ⟨rfl, by simpa [catB] using h1, hK.trans h2⟩

/-- What text returns. -/
def TxP (B : Nat) (l : List UInt8) (w : World) (e : Ending) (w' : World) : Prop :=
  e = .returned (if 20000 < l.length then .tuple #[.string ⟨#[]⟩, .int .i64 4] else .tuple #[.string ⟨l.toArray⟩, .int .i64 0]) ∧ Below B w w'
set_option maxHeartbeats 1000000 in
theorem otext_any (B b : Nat) (m : Value) (l : List UInt8) (w : World) (h : IsOut B b m l w) (h0 : l ≠ []) (hm : l.length ≤ 1000000000) :
    Calls Tryz.prog 15 #[.pointer (some ⟨b, 0, none⟩)] w (TxP B l w) := by
  have HL := Lib.hid (blen_any B b m l w h)
  have HS := Lib.hid (bstring_any B b m l w h h0)
  have hlt1 : b < w.heap.size := by obtain ⟨p, hp⟩ := h.at; exact hp.lt
  unfold TxP
  obtain ⟨n, hn⟩ : ∃ n, n = l.length := ⟨_, rfl⟩
  rw [← hn] at HL hm ⊢
  clear h h0 hn
  by_cases hc : 20000 < n
  · rw [if_pos hc]
    go_enter Tryz.func15, Tryz.ntmps15
    go_wp2_with fail
    refine HL.out.mono ?_
    rintro e w' ⟨rfl, rfl⟩
    go_wp2_with fail
    go_ret2
    exact ⟨rfl, Below.refl _ _⟩
  · rw [if_neg hc]
    go_enter Tryz.func15, Tryz.ntmps15
    go_wp2_with fail
    refine HL.out.mono ?_
    rintro e w' ⟨rfl, rfl⟩
    go_wp2_with fail
    refine HS.out.mono ?_
    rintro e w' ⟨rfl, hb⟩
    have HB := Lib.hid hb
    clear hb
    go_wp2_with fail
    go_ret2
    exact ⟨rfl, HB.out⟩

end Go.Proofs.YtdgmpgejemgbbaaGreatDoor

namespace Go.Proofs.YtdgmpgejemgbbaaGreatDoor
open Go.RowKit

theorem run_upd_new (w : World) (es : Array MapEntry) (c : Nat) (k : Int) (val : Value) (hf : Instr.findNow (.int .u8) (.int .u8 k) es.toList 0 = some none) :
    (Instr.mapUpdate 40 (.map (some w.heap.size)) (.int .u8 k) val).run Tryz.prog (w.alloc (.map es c)) = .ok () (w.alloc (.map (es.push ⟨.int .u8 k, val, c⟩) (c + 1))) := by
  have hb : (w.alloc (.map es c)).heap[w.heap.size]? = some (.map es c) := alloc_at _ _
  have hc : (Instr.checkKey false 10000 5 (.int .u8 k)).run Tryz.prog (w.alloc (.map es c)) = .ok () (w.alloc (.map es c)) := MapKept.run_checkKey Tryz.underlying5 (by simp [MapKept.IsKey]) false 9999
  have e : (w.heap.push (Obj.map es c)).setIfInBounds w.heap.size (Obj.map (es.push ⟨.int .u8 k, val, c⟩) (c + 1)) = w.heap.push (Obj.map (es.push ⟨.int .u8 k, val, c⟩) (c + 1)) := by
    apply Array.ext'
    simp [Array.toList_setIfInBounds]
  have hs : (setObj w.heap.size (.map (es.push ⟨.int .u8 k, val, c⟩) (c + 1))).run Tryz.prog (w.alloc (.map es c)) = .ok () (w.alloc (.map (es.push ⟨.int .u8 k, val, c⟩) (c + 1))) := by
    rw [MapKept.run_setObj_map _ hb]
    show Result.ok () { (w.alloc (.map es c)) with heap := (w.heap.push (Obj.map es c)).setIfInBounds w.heap.size _ } = _
    rw [e]; rfl
  simp [Instr.mapUpdate, run_underlying Tryz.underlying40, MapKept.run_getObj_map hb, hc, MapKept.run_findKey Tryz.underlying5 hf, hs, Result.andThen]
theorem run_look_at {W : World} {bm : Nat} {es : Array MapEntry} {c : Nat} (hb : W.heap[bm]? = some (.map es c)) {k : Int} {v : Value} {i : Nat} (hf : Instr.findNow (.int .u8) (.int .u8 k) es.toList 0 = some (some (i, v))) :
    (Instr.lookup 40 (.map (some bm)) (.int .u8 k) false).run Tryz.prog W = .ok v W := by
  have hc : ∀ q, (Instr.checkKey q 10000 5 (.int .u8 k)).run Tryz.prog W = .ok () W := fun q => MapKept.run_checkKey Tryz.underlying5 (by simp [MapKept.IsKey]) q 9999
  simp [Instr.lookup, run_underlying Tryz.underlying40, MapKept.run_getObj_map hb, hc, MapKept.run_findKey Tryz.underlying5 hf, Result.andThen]

/-- The map of the words. -/
def wdEs : Array MapEntry := #[⟨.int .u8 7, .string ⟨#[109, 97, 120]⟩, 0⟩, ⟨.int .u8 8, .string ⟨#[109, 105, 110]⟩, 1⟩, ⟨.int .u8 9, .string ⟨#[99, 97, 115, 101]⟩, 2⟩, ⟨.int .u8 11, .string ⟨#[108, 101, 115, 115]⟩, 3⟩, ⟨.int .u8 12, .string ⟨#[101, 113, 117, 97, 108]⟩, 4⟩, ⟨.int .u8 13, .string ⟨#[97, 110, 100]⟩, 5⟩, ⟨.int .u8 14, .string ⟨#[111, 114]⟩, 6⟩, ⟨.int .u8 15, .string ⟨#[110, 111, 116]⟩, 7⟩]
def WordsAt (m : Value) (w : World) : Prop := ∃ bm, m = .map (some bm) ∧ w.heap[bm]? = some (.map wdEs 8)
theorem WordsAt.keep {B b : Nat} {m : Value} {w w' : World} (h : WordsAt m w) (hk : OutK B b w w') {p : Value} {l : List UInt8} (ho : OutAt B b p m l w) : WordsAt m w' := by
  obtain ⟨bm, rfl, hb⟩ := h
  refine ⟨bm, rfl, hk.2 bm _ hb ?_ (fun _ _ e => by cases e)⟩
  obtain ⟨_, v, h1, _⟩ := ho
  intro e
  injection e with e
  subst e
  rw [hb] at h1
  cases h1
theorem WordsAt.below {m : Value} {w w' : World} (h : WordsAt m w) (hb : Below w.heap.size w w') : WordsAt m w' := by
  obtain ⟨bm, rfl, h1⟩ := h
  exact ⟨bm, rfl, (hb.block _ (Array.getElem?_eq_some_iff.1 h1).1).trans h1⟩
/-- A kind with a word. -/
def HasWd (k : Int) : Prop := k = 7 ∨ k = 8 ∨ k = 9 ∨ k = 11 ∨ k = 12 ∨ k = 13 ∨ k = 14 ∨ k = 15
theorem WordsAt.look {m : Value} {w : World} (h : WordsAt m w) {k : Int} (hk : HasWd k) : (Instr.lookup 40 m (.int .u8 k) false).run Tryz.prog w = .ok (.string ⟨(wdL k).toArray⟩) w := by
  obtain ⟨bm, rfl, hb⟩ := h
  rcases hk with rfl | rfl | rfl | rfl | rfl | rfl | rfl | rfl
  all_goals exact run_look_at hb rfl

def WdP (w : World) (e : Ending) (w' : World) : Prop := ∃ m, e = .returned m ∧ WordsAt m w' ∧ Below w.heap.size w w' ∧ ∃ bm, m = .map (some bm) ∧ w.heap.size ≤ bm
set_option maxHeartbeats 2000000 in
set_option maxRecDepth 100000 in
theorem words_any (w : World) : Calls Tryz.prog 13 #[] w (WdP w) := by
  have hmm := @run_makeMap Tryz.prog
  have u0 : (Instr.mapUpdate 40 (.map (some w.heap.size)) (.int .u8 7) (.string ⟨#[109, 97, 120]⟩)).run Tryz.prog (w.alloc (.map #[] 0)) = .ok () (w.alloc (.map #[⟨.int .u8 7, .string ⟨#[109, 97, 120]⟩, 0⟩] 1)) := run_upd_new w _ _ _ _ rfl
  have u1 : (Instr.mapUpdate 40 (.map (some w.heap.size)) (.int .u8 8) (.string ⟨#[109, 105, 110]⟩)).run Tryz.prog (w.alloc (.map #[⟨.int .u8 7, .string ⟨#[109, 97, 120]⟩, 0⟩] 1)) = .ok () (w.alloc (.map #[⟨.int .u8 7, .string ⟨#[109, 97, 120]⟩, 0⟩, ⟨.int .u8 8, .string ⟨#[109, 105, 110]⟩, 1⟩] 2)) := run_upd_new w _ _ _ _ rfl
  have u2 : (Instr.mapUpdate 40 (.map (some w.heap.size)) (.int .u8 9) (.string ⟨#[99, 97, 115, 101]⟩)).run Tryz.prog (w.alloc (.map #[⟨.int .u8 7, .string ⟨#[109, 97, 120]⟩, 0⟩, ⟨.int .u8 8, .string ⟨#[109, 105, 110]⟩, 1⟩] 2)) = .ok () (w.alloc (.map #[⟨.int .u8 7, .string ⟨#[109, 97, 120]⟩, 0⟩, ⟨.int .u8 8, .string ⟨#[109, 105, 110]⟩, 1⟩, ⟨.int .u8 9, .string ⟨#[99, 97, 115, 101]⟩, 2⟩] 3)) := run_upd_new w _ _ _ _ rfl
  have u3 : (Instr.mapUpdate 40 (.map (some w.heap.size)) (.int .u8 11) (.string ⟨#[108, 101, 115, 115]⟩)).run Tryz.prog (w.alloc (.map #[⟨.int .u8 7, .string ⟨#[109, 97, 120]⟩, 0⟩, ⟨.int .u8 8, .string ⟨#[109, 105, 110]⟩, 1⟩, ⟨.int .u8 9, .string ⟨#[99, 97, 115, 101]⟩, 2⟩] 3)) = .ok () (w.alloc (.map #[⟨.int .u8 7, .string ⟨#[109, 97, 120]⟩, 0⟩, ⟨.int .u8 8, .string ⟨#[109, 105, 110]⟩, 1⟩, ⟨.int .u8 9, .string ⟨#[99, 97, 115, 101]⟩, 2⟩, ⟨.int .u8 11, .string ⟨#[108, 101, 115, 115]⟩, 3⟩] 4)) := run_upd_new w _ _ _ _ rfl
  have u4 : (Instr.mapUpdate 40 (.map (some w.heap.size)) (.int .u8 12) (.string ⟨#[101, 113, 117, 97, 108]⟩)).run Tryz.prog (w.alloc (.map #[⟨.int .u8 7, .string ⟨#[109, 97, 120]⟩, 0⟩, ⟨.int .u8 8, .string ⟨#[109, 105, 110]⟩, 1⟩, ⟨.int .u8 9, .string ⟨#[99, 97, 115, 101]⟩, 2⟩, ⟨.int .u8 11, .string ⟨#[108, 101, 115, 115]⟩, 3⟩] 4)) = .ok () (w.alloc (.map #[⟨.int .u8 7, .string ⟨#[109, 97, 120]⟩, 0⟩, ⟨.int .u8 8, .string ⟨#[109, 105, 110]⟩, 1⟩, ⟨.int .u8 9, .string ⟨#[99, 97, 115, 101]⟩, 2⟩, ⟨.int .u8 11, .string ⟨#[108, 101, 115, 115]⟩, 3⟩, ⟨.int .u8 12, .string ⟨#[101, 113, 117, 97, 108]⟩, 4⟩] 5)) := run_upd_new w _ _ _ _ rfl
  have u5 : (Instr.mapUpdate 40 (.map (some w.heap.size)) (.int .u8 13) (.string ⟨#[97, 110, 100]⟩)).run Tryz.prog (w.alloc (.map #[⟨.int .u8 7, .string ⟨#[109, 97, 120]⟩, 0⟩, ⟨.int .u8 8, .string ⟨#[109, 105, 110]⟩, 1⟩, ⟨.int .u8 9, .string ⟨#[99, 97, 115, 101]⟩, 2⟩, ⟨.int .u8 11, .string ⟨#[108, 101, 115, 115]⟩, 3⟩, ⟨.int .u8 12, .string ⟨#[101, 113, 117, 97, 108]⟩, 4⟩] 5)) = .ok () (w.alloc (.map #[⟨.int .u8 7, .string ⟨#[109, 97, 120]⟩, 0⟩, ⟨.int .u8 8, .string ⟨#[109, 105, 110]⟩, 1⟩, ⟨.int .u8 9, .string ⟨#[99, 97, 115, 101]⟩, 2⟩, ⟨.int .u8 11, .string ⟨#[108, 101, 115, 115]⟩, 3⟩, ⟨.int .u8 12, .string ⟨#[101, 113, 117, 97, 108]⟩, 4⟩, ⟨.int .u8 13, .string ⟨#[97, 110, 100]⟩, 5⟩] 6)) := run_upd_new w _ _ _ _ rfl
  have u6 : (Instr.mapUpdate 40 (.map (some w.heap.size)) (.int .u8 14) (.string ⟨#[111, 114]⟩)).run Tryz.prog (w.alloc (.map #[⟨.int .u8 7, .string ⟨#[109, 97, 120]⟩, 0⟩, ⟨.int .u8 8, .string ⟨#[109, 105, 110]⟩, 1⟩, ⟨.int .u8 9, .string ⟨#[99, 97, 115, 101]⟩, 2⟩, ⟨.int .u8 11, .string ⟨#[108, 101, 115, 115]⟩, 3⟩, ⟨.int .u8 12, .string ⟨#[101, 113, 117, 97, 108]⟩, 4⟩, ⟨.int .u8 13, .string ⟨#[97, 110, 100]⟩, 5⟩] 6)) = .ok () (w.alloc (.map #[⟨.int .u8 7, .string ⟨#[109, 97, 120]⟩, 0⟩, ⟨.int .u8 8, .string ⟨#[109, 105, 110]⟩, 1⟩, ⟨.int .u8 9, .string ⟨#[99, 97, 115, 101]⟩, 2⟩, ⟨.int .u8 11, .string ⟨#[108, 101, 115, 115]⟩, 3⟩, ⟨.int .u8 12, .string ⟨#[101, 113, 117, 97, 108]⟩, 4⟩, ⟨.int .u8 13, .string ⟨#[97, 110, 100]⟩, 5⟩, ⟨.int .u8 14, .string ⟨#[111, 114]⟩, 6⟩] 7)) := run_upd_new w _ _ _ _ rfl
  have u7 : (Instr.mapUpdate 40 (.map (some w.heap.size)) (.int .u8 15) (.string ⟨#[110, 111, 116]⟩)).run Tryz.prog (w.alloc (.map #[⟨.int .u8 7, .string ⟨#[109, 97, 120]⟩, 0⟩, ⟨.int .u8 8, .string ⟨#[109, 105, 110]⟩, 1⟩, ⟨.int .u8 9, .string ⟨#[99, 97, 115, 101]⟩, 2⟩, ⟨.int .u8 11, .string ⟨#[108, 101, 115, 115]⟩, 3⟩, ⟨.int .u8 12, .string ⟨#[101, 113, 117, 97, 108]⟩, 4⟩, ⟨.int .u8 13, .string ⟨#[97, 110, 100]⟩, 5⟩, ⟨.int .u8 14, .string ⟨#[111, 114]⟩, 6⟩] 7)) = .ok () (w.alloc (.map #[⟨.int .u8 7, .string ⟨#[109, 97, 120]⟩, 0⟩, ⟨.int .u8 8, .string ⟨#[109, 105, 110]⟩, 1⟩, ⟨.int .u8 9, .string ⟨#[99, 97, 115, 101]⟩, 2⟩, ⟨.int .u8 11, .string ⟨#[108, 101, 115, 115]⟩, 3⟩, ⟨.int .u8 12, .string ⟨#[101, 113, 117, 97, 108]⟩, 4⟩, ⟨.int .u8 13, .string ⟨#[97, 110, 100]⟩, 5⟩, ⟨.int .u8 14, .string ⟨#[111, 114]⟩, 6⟩, ⟨.int .u8 15, .string ⟨#[110, 111, 116]⟩, 7⟩] 8)) := run_upd_new w _ _ _ _ rfl
  have HF : Hid (WdP w (.returned (.map (some w.heap.size))) (w.alloc (.map wdEs 8))) := ⟨_, rfl, ⟨_, rfl, alloc_at _ _⟩, own_below _ _, _, rfl, Nat.le_refl _⟩
  go_enter Tryz.func13, Tryz.ntmps13
  go_wp2_with fail
  go_ret
  exact HF.out

end Go.Proofs.YtdgmpgejemgbbaaGreatDoor
