/-
  The reference's Sort of an expression, walked. No condition but the size.
-/
import Derived.Test.YtdgmpgejemgbbaaGreatDoorQa
namespace Go.Proofs.YtdgmpgejemgbbaaGreatDoor
open Go.RowKit

theorem infoInt64 : (Tryz.prog.info? 3).map (fun i => (i.zero, i.size, i.bytes)) = some (some (.int .i64 0), 1, 8) := by kernel_rfl
theorem one_cell {u : Value} (h : u.oneCell' = true) : ∀ x ∈ [u], x.oneCell' = true := fun x hx => by rw [List.mem_singleton.1 hx]; exact h
theorem sm_parts {k : Int} {r nm : ByteArray} {d : Int} {l : List Ex} (h : ∃ dd, SmX dd (Ex.mk k r nm d l)) : (r.size ≤ 2500 ∧ nm.size ≤ 200) ∧ ∀ y ∈ l, ∃ dd, SmX dd y := by
  obtain ⟨dd, h⟩ := h
  match dd, h with
  | _ + 1, ⟨h1, h2, h3⟩ => exact ⟨⟨h2, h1⟩, fun y hy => ⟨_, h3 y hy⟩⟩
def RsC (n : Nat) : Prop := ∀ (x : Ex) (cs : List Value) (w : World), ExAt n w cs x → x.size ≤ 1000 → (∃ dd, SmX dd x) → Calls Tryz.prog 32 #[.agg cs.toArray] w (IntP w (srtP x.kind x.rat x.name x.date (x.sub.map Ex.srt)))
def RsR (W0 : World) (L : List Int) (len : Nat) (lv iv : Value) (wr : World) : Prop :=
  ∃ k : Nat, k ≤ len ∧ iv = .int .i64 (k : Int) ∧ Hid (wr.ownsRow W0.heap.size 3 1 lv k (ints (L.take k))) ∧ Below W0.heap.size W0 wr
/-- What a row of sorts looks like. -/
theorem sorts_at {w : World} {B : Nat} {v : Value} {n : Nat} {L : List Int} (h : w.ownsRow B 3 1 v n (ints L)) : (v = .slice none 0 0 ∧ n = 0) ∨ ∃ g cap, v = .slice (some ⟨g, 0, none⟩) n cap ∧ g < w.heap.size ∧ ∀ i, i < L.length → w.cell? ⟨g, i, none⟩ = some (.int .i64 (L[i]?.getD 0)) := by
  rcases rowAt_of_owns h with ⟨rfl, rfl, _⟩ | ⟨g, cap, rfl, _, _, _, _, hr⟩
  · exact .inl ⟨rfl, rfl⟩
  · refine .inr ⟨g, cap, rfl, hr.lt, fun i hi => ?_⟩
    rw [hr.cell (by rw [ints_length]; exact hi), ints_get L i hi]

theorem srt_bare {k : Int} {r n : ByteArray} {d : Int} {l ps : List Int} {own : Int} (hs : shpL k = some (ps, own)) (h : bareB r n d = false) : srtP k r n d l = 0 := by
  unfold srtP; rw [hs]; simp [h]
theorem srt_ne {k : Int} {r n : ByteArray} {d : Int} {l ps : List Int} {own : Int} (hs : shpL k = some (ps, own)) (h : l ≠ ps) : srtP k r n d l = 0 := by
  unfold srtP; rw [hs]; simp [h]
theorem srt_yes {k : Int} {r n : ByteArray} {d : Int} {l ps : List Int} {own : Int} (hs : shpL k = some (ps, own)) (hb : bareB r n d = true) (h : l = ps) : srtP k r n d l = own := by
  unfold srtP; rw [hs]; simp [h, hb]
theorem srt_leaf {k : Int} {r n : ByteArray} {d : Int} {l : List Int} (hs : shpL k = none) (h : l = []) : srtP k r n d l = leafV k r n d := by
  unfold srtP; rw [hs]; simp [h]
theorem srt_leaf_no {k : Int} {r n : ByteArray} {d : Int} {l : List Int} (hs : shpL k = none) (h : l ≠ []) : srtP k r n d l = 0 := by
  unfold srtP; rw [hs]; simp [h]
theorem shp_5 {k : Int} (h4 : 4 ≤ k) (h8 : k ≤ 8) : shpL k = some ([1, 1], 1) := by
  unfold shpL; rw [if_pos (by omega)]
theorem shp_no {k : Int} (h : k < 4 ∨ k = 10 ∨ 15 < k) : shpL k = none := by
  unfold shpL; rw [if_neg (by omega), if_neg (by omega), if_neg (by omega), if_neg (by omega), if_neg (by omega)]
theorem leaf_no {k : Int} (r n : ByteArray) (d : Int) (h1 : k ≠ 1) (h2 : k ≠ 2) (h3 : k ≠ 3) : leafV k r n d = 0 := by
  unfold leafV; rw [if_neg h1, if_neg h2, if_neg h3]
theorem list_1 {l : List Int} {a : Int} (h : l.length = 1) (h0 : l[0]?.getD 0 = a) : l = [a] := by
  match l, h with
  | [x], _ => simp at h0; rw [h0]
theorem list_2 {l : List Int} {a b : Int} (h : l.length = 2) (h0 : l[0]?.getD 0 = a) (h1 : l[1]?.getD 0 = b) : l = [a, b] := by
  match l, h with
  | [x, y], _ => simp at h0 h1; rw [h0, h1]
theorem list_3 {l : List Int} {a b c : Int} (h : l.length = 3) (h0 : l[0]?.getD 0 = a) (h1 : l[1]?.getD 0 = b) (h2 : l[2]?.getD 0 = c) : l = [a, b, c] := by
  match l, h with
  | [x, y, z], _ => simp at h0 h1 h2; rw [h0, h1, h2]
theorem list_at_ne {l ps : List Int} {i : Nat} (h : l[i]?.getD 0 ≠ ps[i]?.getD 0) : l ≠ ps := fun e => h (by rw [e])
theorem list_len_ne {l ps : List Int} (h : l.length ≠ ps.length) : l ≠ ps := fun e => h (by rw [e])
/-- What a row of sorts looks like, in one form. -/
theorem sorts_one {w : World} {B : Nat} {v : Value} {n : Nat} {L : List Int} (h : w.ownsRow B 3 1 v n (ints L)) : ∃ av cv, v = .slice av n cv ∧ (n = 0 ∨ ∃ g, av = some ⟨g, 0, none⟩ ∧ g < w.heap.size ∧ ∀ i, i < L.length → w.cell? ⟨g, i, none⟩ = some (.int .i64 (L[i]?.getD 0))) := by
  rcases sorts_at h with ⟨rfl, rfl⟩ | ⟨g, cap, rfl, h1, h2⟩
  · exact ⟨none, 0, rfl, .inl rfl⟩
  · exact ⟨_, _, rfl, .inr ⟨g, rfl, h1, h2⟩⟩
theorem kd_lo {k : Int} (h4 : k < 4) : (k ≠ 9 ∧ k ≠ 11 ∧ k ≠ 12 ∧ k ≠ 13 ∧ k ≠ 14 ∧ k ≠ 15) ∧ decide ((4 : Int) ≤ k) = false ∧ (k < 4 ∨ k = 10 ∨ 15 < k) := by
  refine ⟨by omega, by simp; omega, by omega⟩
theorem kd_hi {k : Int} (h4 : k = 10 ∨ 15 < k) : (k ≠ 1 ∧ k ≠ 2 ∧ k ≠ 3) ∧ (k ≠ 9 ∧ k ≠ 11 ∧ k ≠ 12 ∧ k ≠ 13 ∧ k ≠ 14 ∧ k ≠ 15) ∧ (decide ((4 : Int) ≤ k) = true ∧ decide (k ≤ 8) = false) ∧ (k < 4 ∨ k = 10 ∨ 15 < k) := by
  refine ⟨by omega, by omega, ⟨by simp; omega, by simp; omega⟩, by omega⟩
theorem ieq_false {a b : Int} (h : a ≠ b) : (a == b) = false := by simpa using h
theorem ieq_true {a b : Int} (h : a = b) : (a == b) = true := by simpa using h

set_option maxHeartbeats 1000000 in
theorem rdayok_any (n : Int) (w : World) : Calls Tryz.prog 44 #[.int .i64 n] w (fun e w' => e = .returned (.bool (decide (0 ≤ n) && decide (n ≤ 99999))) ∧ w = w') := by
  by_cases h0 : 0 ≤ n
  · by_cases h1 : n ≤ 99999
    · have e : (decide (0 ≤ n) && decide (n ≤ 99999)) = true := by simp [h0, h1]
      rw [e]
      clear e
      go_enter Tryz.func44, Tryz.ntmps44
      go_wp2
      go_ret
      exact ⟨rfl, rfl⟩
    · have e : (decide (0 ≤ n) && decide (n ≤ 99999)) = false := by simp [h1]
      rw [e]
      clear e
      go_enter Tryz.func44, Tryz.ntmps44
      go_wp2
      go_ret
      exact ⟨rfl, rfl⟩
  · have e : (decide (0 ≤ n) && decide (n ≤ 99999)) = false := by simp [h0]
    have d0 : decide (0 ≤ n) = false := by simpa using h0
    rw [e]
    clear e
    go_enter Tryz.func44, Tryz.ntmps44
    go_wp2
    go_ret
    exact ⟨rfl, rfl⟩
end Go.Proofs.YtdgmpgejemgbbaaGreatDoor
