/-
  slices.Reverse of bytes; the program's write. No condition.
-/
import Derived.Test.YtnmiiimbjojcmaaMf
import Derived.Test.YtnmiiimbjojcmaaIf
namespace Go.Proofs.Ytnmiiimbjojcmaa
open Go.RowKit

/-- A list of bytes while it is turned round: i have been swapped. -/
def revAt (l : List UInt8) (i : Nat) : List UInt8 := (List.range l.length).map fun k => if k < i ∨ l.length ≤ k + i then l.getD (l.length - 1 - k) 0 else l.getD k 0
theorem revAt_length (l : List UInt8) (i : Nat) : (revAt l i).length = l.length := by simp [revAt]
theorem revAt_get (l : List UInt8) (i k : Nat) (h : k < l.length) : (revAt l i)[k]? = some (if k < i ∨ l.length ≤ k + i then l.getD (l.length - 1 - k) 0 else l.getD k 0) := by
  simp [revAt, h]
theorem revAt_start (l : List UInt8) : revAt l 0 = l := by
  apply List.ext_getElem?
  intro k
  by_cases h : k < l.length
  · rw [revAt_get l 0 k h, if_neg (by omega), List.getD_eq_getElem?_getD, List.getElem?_eq_getElem h]; rfl
  · rw [List.getElem?_eq_none (by rw [revAt_length]; omega), List.getElem?_eq_none (by omega)]
theorem revAt_end (l : List UInt8) (i : Nat) (hi : l.length ≤ i + i + 1) : revAt l i = l.reverse := by
  apply List.ext_getElem?
  intro k
  by_cases h : k < l.length
  · rw [revAt_get l i k h, List.getElem?_reverse h]
    by_cases hk : k < i ∨ l.length ≤ k + i
    · rw [if_pos hk, List.getD_eq_getElem?_getD, List.getElem?_eq_getElem (by omega)]; rfl
    · rw [if_neg hk, List.getD_eq_getElem?_getD, show l.length - 1 - k = k by omega, List.getElem?_eq_getElem h]; rfl
  · rw [List.getElem?_eq_none (by rw [revAt_length]; omega), List.getElem?_eq_none (by rw [List.length_reverse]; omega)]
theorem revAt_step (l : List UInt8) (i : Nat) (hi : i + i + 1 < l.length) : ((revAt l i).set i (l.getD (l.length - 1 - i) 0)).set (l.length - 1 - i) (l.getD i 0) = revAt l (i + 1) := by
  apply List.ext_getElem?
  intro k
  by_cases h : k < l.length
  · rw [revAt_get l (i + 1) k h, List.getElem?_set, List.getElem?_set, List.length_set, revAt_length]
    by_cases h1 : l.length - 1 - i = k
    · rw [if_pos h1, if_pos (by omega), if_pos (by omega), show l.length - 1 - k = i by omega]
    · rw [if_neg h1]
      by_cases h2 : i = k
      · subst h2
        rw [if_pos rfl, if_pos (by omega), if_pos (by omega)]
      · rw [if_neg h2, revAt_get l i k h]
        by_cases h3 : k < i ∨ l.length ≤ k + i
        · rw [if_pos h3, if_pos (by omega)]
        · rw [if_neg h3, if_neg (by omega)]
  · rw [List.getElem?_eq_none (by simp [revAt_length]; omega), List.getElem?_eq_none (by rw [revAt_length]; omega)]
theorem revAt_mid (l : List UInt8) (i : Nat) (hi : i + i + 1 < l.length) : (revAt l i)[i]? = some (l.getD i 0) ∧ (revAt l i)[l.length - 1 - i]? = some (l.getD (l.length - 1 - i) 0) := by
  rw [revAt_get _ _ _ (by omega), revAt_get _ _ _ (by omega), if_neg (by omega), if_neg (by omega)]
  exact ⟨rfl, rfl⟩
/-- The digits that write lays: k groups. -/
def WrAt (l ds : List Nat) (k : Nat) : Prop := ds.length = 9 * k ∧ (∀ x ∈ ds, x < 10) ∧ dval ds = val (l.take k)
/-- .. and i digits of the next group; t is left of it. -/
def WrIn (l ds : List Nat) (k i t : Nat) : Prop := ds.length = 9 * k + i ∧ (∀ x ∈ ds, x < 10) ∧ t < 10 ^ (9 - i) ∧ dval ds + 10 ^ (9 * k + i) * t = val (l.take (k + 1))
theorem wr_start (l : List Nat) : WrAt l [] 0 := ⟨rfl, by simp, by simp [dval, val]⟩
theorem Bs_pow (k : Nat) : Bs ^ k = 10 ^ (9 * k) := by rw [Bs_eq, show 1000000000 = 10 ^ 9 by rfl, ← Nat.pow_mul]
theorem wr_in (l ds : List Nat) (k : Nat) (hl : ∀ x ∈ l, x < Bs) (h : WrAt l ds k) : WrIn l ds k 0 (l.getD k 0) := by
  obtain ⟨h1, h2, h3⟩ := h
  refine ⟨h1, h2, ?_, ?_⟩
  · have := getD_lt l k hl; rw [Bs_eq] at this; exact this
  · rw [h3, val_take, Bs_pow]; rfl
theorem wr_step (l ds : List Nat) (k i t : Nat) (hi : i < 9) (h : WrIn l ds k i t) : WrIn l (ds ++ [t % 10]) k (i + 1) (t / 10) := by
  obtain ⟨h1, h2, h3, h4⟩ := h
  refine ⟨by simp [h1]; omega, ?_, ?_, ?_⟩
  · intro x hx
    rcases List.mem_append.1 hx with hx | hx
    · exact h2 x hx
    · rw [List.mem_singleton.1 hx]; omega
  · rw [show 9 - i = (9 - (i + 1)) + 1 by omega, Nat.pow_succ] at h3; omega
  · rw [dval_snoc, h1, ← h4, ← Nat.add_assoc, Nat.pow_succ]
    have := Nat.div_add_mod t 10
    generalize 10 ^ (9 * k + i) = P at *
    generalize t / 10 = q at *
    generalize t % 10 = r at *
    generalize dval ds = D at *
    grind
theorem wr_out (l ds : List Nat) (k t : Nat) (h : WrIn l ds k 9 t) : WrAt l ds (k + 1) := by
  obtain ⟨h1, h2, h3, h4⟩ := h
  have : t = 0 := by simpa using h3
  subst this
  exact ⟨by omega, h2, by simpa using h4⟩

theorem bytesV_set (l : List UInt8) (i : Nat) (b : UInt8) : (bytesV l).set i (.int .u8 (b.toNat : Int)) = bytesV (l.set i b) := by simp [bytesV, List.map_set]
theorem bytesV_at (l : List UInt8) (i : Nat) (b : UInt8) (h : l[i]? = some b) : (bytesV l)[i]? = some (.int .u8 (b.toNat : Int)) := by
  unfold bytesV; rw [List.getElem?_map, h]; rfl

/-- The loop of Reverse. -/
def RevR (w : World) (g n : Nat) (l : List UInt8) (iv jv : Value) (wr : World) : Prop :=
  ∃ i : Nat, i + i ≤ n ∧ iv = .int .i64 i ∧ jv = .int .i64 ((n : Int) - 1 - i) ∧ RowAt wr g 5 (bytesV (revAt l i)) ∧ w.grownBy wr (some g)
def RevPost (w : World) (g : Nat) (l : List UInt8) (e : Ending) (w' : World) : Prop :=
  (∃ v, e = .returned v) ∧ RowAt w' g 5 (bytesV l.reverse) ∧ w.grownBy w' (some g)

set_option maxHeartbeats 1000000 in
set_option maxRecDepth 100000 in
theorem reverse_any (g n c : Nat) (l : List UInt8) (w : World) (hl : l.length = n) (hn : n ≤ 1000000) (h : RowAt w g 5 (bytesV l)) :
    Calls Try.prog 66 #[.slice (some ⟨g, 0, none⟩) n c] w (RevPost w g l) := by
  have hst : RevR w g n l (.int .i64 0) (.int .i64 ((n : Int) - 1)) w := ⟨0, Nat.zero_le _, rfl, by simp, by rw [revAt_start]; exact h, only_refl _ _⟩
  have HST := Lib.hid hst
  have HL := Lib.hid hl
  clear h hl hst
  go_enter Try.func66, Try.ntmps66
  go_wp2_with fail
  go_loopw [2, 3] (RevR w g n l) (fun i _ _ => n - (intOf i).toNat)
  case atStart => exact HST.out
  case round =>
    obtain ⟨w1, rfl⟩ : ∃ w1 : World, w1 = wr := ⟨_, rfl⟩
    obtain ⟨i, hin, rfl, rfl, hr, hg⟩ := hrel
    by_cases hlt : i + i + 1 < n
    · obtain ⟨k, hk⟩ : ∃ k : Nat, k = n - 1 - i := ⟨_, rfl⟩
      have hkI : (n : Int) - 1 - (i : Int) = (k : Int) := by omega
      have hmid := revAt_mid l i (by rw [HL.out]; exact hlt)
      have hstp := revAt_step l i (by rw [HL.out]; exact hlt)
      rw [HL.out, ← hk] at hmid hstp
      obtain ⟨x, hx⟩ : ∃ x, x = l.getD i 0 := ⟨_, rfl⟩
      obtain ⟨y, hy⟩ : ∃ y, y = l.getD k 0 := ⟨_, rfl⟩
      rw [← hx, ← hy] at hmid hstp
      have hlen : (bytesV (revAt l i)).length = n := by rw [bytesV_length, revAt_length]; exact HL.out
      have hki : i < k := by omega
      have hkn : k < n := by omega
      have c1 : w1.cell? ⟨g, i, none⟩ = some (.int .u8 (x.toNat : Int)) := by rw [hr.cell (by omega)]; exact bytesV_at _ _ _ hmid.1
      have c2 : w1.cell? ⟨g, k, none⟩ = some (.int .u8 (y.toNat : Int)) := by rw [hr.cell (by omega)]; exact bytesV_at _ _ _ hmid.2
      have f1 : ∀ e, w1.frozen? ⟨g, e, none⟩ = false := fun e => hr.frozen e
      have HR := Lib.hid hr
      have HG := Lib.hid hg
      have HS := Lib.hid hstp
      have hk1 : n - 1 - i ≤ k := by omega
      rw [hkI]
      have hkI2 : (k : Int) = (n : Int) - 1 - i := hkI.symm
      have HKI := Lib.hid hkI2
      clear hr hg hstp hmid hk hx hy hlen hkI hkI2
      go_wp2_with fail
      go_region
      all_goals
        go_wp2_with fail
        go_roundw
        case measure => simp [intOf] <;> omega
        case rel =>
          refine ⟨i + 1, by omega, by go_num, by rw [HKI.out]; congr 1; omega, ?_, ?_⟩
          · have h1 := (HR.out.set i (.int .u8 (y.toNat : Int))).set k (.int .u8 (x.toNat : Int))
            rw [bytesV_set, bytesV_set, HS.out] at h1
            exact h1
          · exact only_drewN (only_setCell (only_setCell HG.out (.inl rfl) _) (.inl rfl) _) 1
    · have he := revAt_end l i (by rw [HL.out]; omega)
      rw [he] at hr
      have HR := Lib.hid hr
      have HG := Lib.hid hg
      clear hr hg he
      have hij : (n : Int) - 1 - (i : Int) ≤ i := by omega
      go_wp2_with fail
      go_end0
      exact ⟨⟨_, rfl⟩, HR.out, HG.out⟩

end Go.Proofs.Ytnmiiimbjojcmaa
