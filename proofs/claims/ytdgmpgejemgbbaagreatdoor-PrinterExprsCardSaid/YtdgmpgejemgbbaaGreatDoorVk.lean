/-
  slices.Reverse of bytes; the program's write. No condition. The program's write. No condition. The program's groups: an iterator over the groups of digits of a text. No condition.
-/
import Derived.Test.YtdgmpgejemgbbaaGreatDoorVj
import Derived.Test.YtdgmpgejemgbbaaGreatDoorVf
import Derived.RangeFuncBox
import Derived.RangeFuncLeaves
import Derived.RangeFuncWrites
import Derived.Shelf.Abstract
import Derived.OwnWalkIn
import Derived.TacticsInMore
import Derived.LoopNIn
import Derived.LoopIn
import Derived.Maps.AppendAt
namespace Go.Proofs.YtdgmpgejemgbbaaGreatDoor
open Go.RowKit

/-- A list of bytes while it is turned round: i have been swapped. -/
def revAt (l : List UInt8) (i : Nat) : List UInt8 := (List.range l.length).map fun k => if k < i ∨ l.length ≤ k + i then l.getD (l.length - 1 - k) 0 else l.getD k 0
theorem revAt_length (l : List UInt8) (i : Nat) : (revAt l i).length = l.length := by simp [revAt]
theorem revAt_get (l : List UInt8) (i k : Nat) (h : k < l.length) : (revAt l i)[k]? = some (if k < i ∨ l.length ≤ k + i then l.getD (l.length - 1 - k) 0 else l.getD k 0) := by
  simp [revAt, h]
theorem revAt_start (l : List UInt8) : revAt l 0 = l := by
  apply List.ext_getElem?
  intro k
  by_cases h : k < l.length
  · rw [revAt_get l 0 k h, if_neg (by omega), List.getD_eq_getElem?_getD, List.getElem?_eq_getElem h]; rfl
  · rw [List.getElem?_eq_none (by rw [revAt_length]; omega), List.getElem?_eq_none (by omega)]
theorem revAt_end (l : List UInt8) (i : Nat) (hi : l.length ≤ i + i + 1) : revAt l i = l.reverse := by
  apply List.ext_getElem?
  intro k
  by_cases h : k < l.length
  · rw [revAt_get l i k h, List.getElem?_reverse h]
    by_cases hk : k < i ∨ l.length ≤ k + i
    · rw [if_pos hk, List.getD_eq_getElem?_getD, List.getElem?_eq_getElem (by omega)]; rfl
    · rw [if_neg hk, List.getD_eq_getElem?_getD, show l.length - 1 - k = k by omega, List.getElem?_eq_getElem h]; rfl
  · rw [List.getElem?_eq_none (by rw [revAt_length]; omega), List.getElem?_eq_none (by rw [List.length_reverse]; omega)]
theorem revAt_step (l : List UInt8) (i : Nat) (hi : i + i + 1 < l.length) : ((revAt l i).set i (l.getD (l.length - 1 - i) 0)).set (l.length - 1 - i) (l.getD i 0) = revAt l (i + 1) := by
  apply List.ext_getElem?
  intro k
  by_cases h : k < l.length
  · rw [revAt_get l (i + 1) k h, List.getElem?_set, List.getElem?_set, List.length_set, revAt_length]
    by_cases h1 : l.length - 1 - i = k
    · rw [if_pos h1, if_pos (by omega), if_pos (by omega), show l.length - 1 - k = i by omega]
    · rw [if_neg h1]
      by_cases h2 : i = k
      · subst h2
        rw [if_pos rfl, if_pos (by omega), if_pos (by omega)]
      · rw [if_neg h2, revAt_get l i k h]
        by_cases h3 : k < i ∨ l.length ≤ k + i
        · rw [if_pos h3, if_pos (by omega)]
        · rw [if_neg h3, if_neg (by omega)]
  · rw [List.getElem?_eq_none (by simp [revAt_length]; omega), List.getElem?_eq_none (by rw [revAt_length]; omega)]
theorem revAt_mid (l : List UInt8) (i : Nat) (hi : i + i + 1 < l.length) : (revAt l i)[i]? = some (l.getD i 0) ∧ (revAt l i)[l.length - 1 - i]? = some (l.getD (l.length - 1 - i) 0) := by
  rw [revAt_get _ _ _ (by omega), revAt_get _ _ _ (by omega), if_neg (by omega), if_neg (by omega)]
  exact ⟨rfl, rfl⟩
/-- The digits that write lays: k groups. -/
def WrAt (l ds : List Nat) (k : Nat) : Prop := ds.length = 9 * k ∧ (∀ x ∈ ds, x < 10) ∧ dval ds = val (l.take k)
/-- .. and i digits of the next group; t is left of it. -/
def WrIn (l ds : List Nat) (k i t : Nat) : Prop := ds.length = 9 * k + i ∧ (∀ x ∈ ds, x < 10) ∧ t < 10 ^ (9 - i) ∧ dval ds + 10 ^ (9 * k + i) * t = val (l.take (k + 1))
theorem wr_start (l : List Nat) : WrAt l [] 0 := ⟨rfl, by simp, by simp [dval, val]⟩
theorem Bs_pow (k : Nat) : Bs ^ k = 10 ^ (9 * k) := by rw [Bs_eq, show 1000000000 = 10 ^ 9 by rfl, ← Nat.pow_mul]
theorem wr_in (l ds : List Nat) (k : Nat) (hl : ∀ x ∈ l, x < Bs) (h : WrAt l ds k) : WrIn l ds k 0 (l.getD k 0) := by
  obtain ⟨h1, h2, h3⟩ := h
  refine ⟨h1, h2, ?_, ?_⟩
  · have := getD_lt l k hl; rw [Bs_eq] at this; exact this
  · rw [h3, val_take, Bs_pow]; rfl
theorem wr_step (l ds : List Nat) (k i t : Nat) (hi : i < 9) (h : WrIn l ds k i t) : WrIn l (ds ++ [t % 10]) k (i + 1) (t / 10) := by
  obtain ⟨h1, h2, h3, h4⟩ := h
  refine ⟨by simp [h1]; omega, ?_, ?_, ?_⟩
  · intro x hx
    rcases List.mem_append.1 hx with hx | hx
    · exact h2 x hx
    · rw [List.mem_singleton.1 hx]; omega
  · rw [show 9 - i = (9 - (i + 1)) + 1 by omega, Nat.pow_succ] at h3; omega
  · rw [dval_snoc, h1, ← h4, ← Nat.add_assoc, Nat.pow_succ]
    have := Nat.div_add_mod t 10
    generalize 10 ^ (9 * k + i) = P at *
    generalize t / 10 = q at *
    generalize t % 10 = r at *
    generalize dval ds = D at *
    grind
theorem wr_out (l ds : List Nat) (k t : Nat) (h : WrIn l ds k 9 t) : WrAt l ds (k + 1) := by
  obtain ⟨h1, h2, h3, h4⟩ := h
  have : t = 0 := by simpa using h3
  subst this
  exact ⟨by omega, h2, by simpa using h4⟩

theorem bytesV_set (l : List UInt8) (i : Nat) (b : UInt8) : (bytesV l).set i (.int .u8 (b.toNat : Int)) = bytesV (l.set i b) := by simp [bytesV, List.map_set]
theorem bytesV_at (l : List UInt8) (i : Nat) (b : UInt8) (h : l[i]? = some b) : (bytesV l)[i]? = some (.int .u8 (b.toNat : Int)) := by
  unfold bytesV; rw [List.getElem?_map, h]; rfl

/-- The loop of Reverse. -/
def RevR (w : World) (g n : Nat) (l : List UInt8) (iv jv : Value) (wr : World) : Prop :=
  ∃ i : Nat, i + i ≤ n ∧ iv = .int .i64 i ∧ jv = .int .i64 ((n : Int) - 1 - i) ∧ RowAt wr g 5 (bytesV (revAt l i)) ∧ w.grownBy wr (some g)
def RevPost (w : World) (g : Nat) (l : List UInt8) (e : Ending) (w' : World) : Prop :=
  (∃ v, e = .returned v) ∧ RowAt w' g 5 (bytesV l.reverse) ∧ w.grownBy w' (some g)

set_option maxHeartbeats 1000000 in
set_option maxRecDepth 100000 in
theorem reverse_any (g n c : Nat) (l : List UInt8) (w : World) (hl : l.length = n) (hn : n ≤ 1000000) (h : RowAt w g 5 (bytesV l)) :
    Calls Tryz.prog 95 #[.slice (some ⟨g, 0, none⟩) n c] w (RevPost w g l) := by
  have hst : RevR w g n l (.int .i64 0) (.int .i64 ((n : Int) - 1)) w := ⟨0, Nat.zero_le _, rfl, by simp, by rw [revAt_start]; exact h, only_refl _ _⟩
  have HST := Lib.hid hst
  have HL := Lib.hid hl
  clear h hl hst
  go_enter Tryz.func95, Tryz.ntmps95
  go_wp2_with fail
  go_loopw [2, 3] (RevR w g n l) (fun i _ _ => n - (intOf i).toNat)
  case atStart => exact HST.out
  case round =>
    obtain ⟨w1, rfl⟩ : ∃ w1 : World, w1 = wr := ⟨_, rfl⟩
    obtain ⟨i, hin, rfl, rfl, hr, hg⟩ := hrel
    by_cases hlt : i + i + 1 < n
    · obtain ⟨k, hk⟩ : ∃ k : Nat, k = n - 1 - i := ⟨_, rfl⟩
      have hkI : (n : Int) - 1 - (i : Int) = (k : Int) := by omega
      have hmid := revAt_mid l i (by rw [HL.out]; exact hlt)
      have hstp := revAt_step l i (by rw [HL.out]; exact hlt)
      rw [HL.out, ← hk] at hmid hstp
      obtain ⟨x, hx⟩ : ∃ x, x = l.getD i 0 := ⟨_, rfl⟩
      obtain ⟨y, hy⟩ : ∃ y, y = l.getD k 0 := ⟨_, rfl⟩
      rw [← hx, ← hy] at hmid hstp
      have hlen : (bytesV (revAt l i)).length = n := by rw [bytesV_length, revAt_length]; exact HL.out
      have hki : i < k := by omega
      have hkn : k < n := by omega
      have c1 : w1.cell? ⟨g, i, none⟩ = some (.int .u8 (x.toNat : Int)) := by rw [hr.cell (by omega)]; exact bytesV_at _ _ _ hmid.1
      have c2 : w1.cell? ⟨g, k, none⟩ = some (.int .u8 (y.toNat : Int)) := by rw [hr.cell (by omega)]; exact bytesV_at _ _ _ hmid.2
      have f1 : ∀ e, w1.frozen? ⟨g, e, none⟩ = false := fun e => hr.frozen e
      have HR := Lib.hid hr
      have HG := Lib.hid hg
      have HS := Lib.hid hstp
      have hk1 : n - 1 - i ≤ k := by omega
      rw [hkI]
      have hkI2 : (k : Int) = (n : Int) - 1 - i := hkI.symm
      have HKI := Lib.hid hkI2
      clear hr hg hstp hmid hk hx hy hlen hkI hkI2
      go_wp2_with fail
      go_region
      all_goals
        go_wp2_with fail
        go_roundw
        case measure => simp [intOf] <;> omega
        case rel =>
          refine ⟨i + 1, by omega, by go_num, by rw [HKI.out]; congr 1; omega, ?_, ?_⟩
          · have h1 := (HR.out.set i (.int .u8 (y.toNat : Int))).set k (.int .u8 (x.toNat : Int))
            rw [bytesV_set, bytesV_set, HS.out] at h1
            exact h1
          · exact only_drewN (only_setCell (only_setCell HG.out (.inl rfl) _) (.inl rfl) _) 1
    · have he := revAt_end l i (by rw [HL.out]; omega)
      rw [he] at hr
      have HR := Lib.hid hr
      have HG := Lib.hid hg
      clear hr hg he
      have hij : (n : Int) - 1 - (i : Int) ≤ i := by omega
      go_wp2_with fail
      go_end0
      exact ⟨⟨_, rfl⟩, HR.out, HG.out⟩

end Go.Proofs.YtdgmpgejemgbbaaGreatDoor

namespace Go.Proofs.YtdgmpgejemgbbaaGreatDoor
open Go.RowKit

/-- What write hands back. -/
def WritePost (w : World) (z : Int) (e : Ending) (w' : World) : Prop :=
  ((bigZ z = true ∧ e = .returned (.tuple #[.string ByteArray.empty, .int .i64 14])) ∨ (bigZ z = false ∧ e = .returned (.tuple #[.string ⟨(txtZ z).toArray⟩, .int .i64 0]))) ∧ Below w.heap.size w w'
def bytesD (ds : List Nat) : List Value := bytesV (ds.map dgB)
theorem bytesD_length (ds : List Nat) : (bytesD ds).length = ds.length := by simp [bytesD, bytesV]
theorem bytesD_snoc (ds : List Nat) (d : Nat) (h : d < 10) : bytesD ds ++ [.int .u8 ((48 : Int) + (d : Int))] = bytesD (ds ++ [d]) := by
  have : ((dgB d).toNat : Int) = (48 : Int) + (d : Int) := by rw [dgB_toNat h]; omega
  unfold bytesD bytesV
  simp [this]
theorem bytesD_get (ds : List Nat) (i : Nat) (hi : i < ds.length) (h : ∀ x ∈ ds, x < 10) : (bytesD ds)[i]? = some (.int .u8 ((48 : Int) + ((ds.getD i 0 : Nat) : Int))) := by
  unfold bytesD bytesV
  have h1 : ds.getD i 0 < 10 := digD_lt ds i h
  have : ((dgB (ds.getD i 0)).toNat : Int) = (48 : Int) + ((ds.getD i 0 : Nat) : Int) := by rw [dgB_toNat h1]; omega
  rw [← this, List.getD_eq_getElem?_getD, List.getElem?_eq_getElem hi]
  simp [hi]
theorem bytesD_take (ds : List Nat) (k : Nat) : (bytesD ds).take k = bytesD (ds.take k) := by simp [bytesD, bytesV, List.map_take]

def WrO (w W0 : World) (l : List Nat) (n : Nat) (bv iv : Value) (wr : World) : Prop :=
  ∃ (k : Nat) (ds : List Nat), k ≤ n ∧ iv = .int .i64 k ∧ wr.ownsRow W0.heap.size 5 1 bv ds.length (bytesD ds) ∧ WrAt l ds k ∧ Below W0.heap.size W0 wr ∧ Below w.heap.size w wr
def WrJ (w W0 : World) (l : List Nat) (k : Nat) (bv tv jv : Value) (wr : World) : Prop :=
  ∃ (i t : Nat) (ds : List Nat), i ≤ 9 ∧ jv = .int .i64 i ∧ tv = .int .u32 t ∧ t < 1000000000 ∧ wr.ownsRow W0.heap.size 5 1 bv ds.length (bytesD ds) ∧ WrIn l ds k i t ∧ Below W0.heap.size W0 wr ∧ Below w.heap.size w wr
def WrT (g c : Nat) (ds : List Nat) (bv : Value) : Prop := ∃ k : Nat, 1 ≤ k ∧ k ≤ ds.length ∧ bv = .slice (some ⟨g, 0, none⟩) k c ∧ dval (ds.take k) = dval ds

/-- The bytes, the last one first. -/
def WrC (w : World) (z : Int) (v : Value) (wx : World) : Prop :=
  ∃ g c bs, v = .slice (some ⟨g, 0, none⟩) (bs : List UInt8).length c ∧ RowAt wx g 5 (bytesV bs) ∧ bs.reverse = txtZ z ∧ bs.length ≤ 460000 ∧ w.heap.size ≤ g ∧ Below w.heap.size w wx
theorem conv_row {w : World} {g c : Nat} {l : List UInt8} (h : RowAt w g 5 (bytesV l)) (dst : TypeId) (hd : Tryz.prog.underlying dst = some .string) :
    (convert 43 dst (.slice (some ⟨g, 0, none⟩) l.length c)).run Tryz.prog w = .ok (.string ⟨l.toArray⟩) w :=
  run_convert_bytes_back (P := Tryz.prog) w 43 dst 5 ⟨g, 0, none⟩ c l Tryz.underlying43 Tryz.underlying5 hd (fun j hj => by
    rw [add_plain, Nat.zero_add, h.cell (by rw [bytesV_length]; exact hj), bytesV_get l j hj])

set_option maxHeartbeats 2000000 in
set_option maxRecDepth 100000 in
theorem write_any (neg : Bool) (a : Option Addr) (n c N : Nat) (l : List Nat) (w : World) (hl : l.length = n) (hn : n ≤ 50000) (hr : Rep l N) (ha : Nums .u32 w a l) :
    Calls Tryz.prog 79 #[.agg #[.bool neg, .slice a n c]] w (WritePost w (if neg = true then -(N : Int) else (N : Int))) := by
  obtain ⟨i0, hi, hz0, hz1, hz2⟩ := info_parts infoU8
  obtain ⟨z, hz⟩ : ∃ z, z = (if neg = true then -(N : Int) else (N : Int)) := ⟨_, rfl⟩
  rw [← hz]
  have HZ := Lib.hid hz
  have HL := Lib.hid hl
  have HR := Lib.hid hr
  have HA := Lib.hid ha
  clear hz hl hr ha
  by_cases h0 : n < 1
  · have hz0' : z = 0 := by
      have hN : N = 0 := by
        have h1 := HR.out.2.2
        rw [List.eq_nil_of_length_eq_zero (l := l) (by have := HL.out; omega)] at h1
        simpa [val] using h1.symm
      rw [HZ.out, hN]; cases neg <;> rfl
    have t1 : ((n : Int) == 0) = true := by rw [beq_iff_eq]; omega
    have hzb : bigZ z = false := by rw [hz0']; rfl
    have HZB := Lib.hid hzb
    have HZ0 := Lib.hid hz0'
    clear hz0' hzb
    go_enter Tryz.func79, Tryz.ntmps79
    go_wp2_with fail
    go_ret2
    exact ⟨.inr ⟨HZB.out, by rw [HZ0.out]; rfl⟩, (Below.refl _ _).alloc (Nat.le_refl _) _⟩
  · have t1 : ((n : Int) == 0) = false := by rw [beq_eq_false_iff_ne]; omega
    obtain ⟨W0, hW0⟩ : ∃ W0, W0 = w.alloc (.cells #[.bool neg, .slice a n c] 121) := ⟨_, rfl⟩
    have hbx := rowAt_alloc (w := w) (c := #[.bool neg, .slice a n c]) (t := 121) rfl rfl
    rw [← hW0] at hbx
    have hsz : w.heap.size < W0.heap.size := hbx.lt
    have hb0 : Below w.heap.size w W0 := by rw [hW0]; exact (Below.refl _ _).alloc (Nat.le_refl _) _
    have hNp : 0 < N := by
      have h1 := HR.out
      rw [← h1.2.2]
      refine val_pos l h1.2.1 (fun h => ?_)
      have := HL.out
      rw [h] at this; simp at this; omega
    have hst : WrO w W0 l n (.slice none 0 0) (.int .i64 0) W0 := ⟨0, [], Nat.zero_le _, rfl, World.ownsRow_nil _ _ _ _, wr_start l, Below.refl _ _, hb0⟩
    have HST := Lib.hid hst
    have HBX := Lib.hid hbx
    have HB0 := Lib.hid hb0
    have HW0 := Lib.hid hW0
    have HNP := Lib.hid hNp
    clear hst hbx hb0 hW0 hNp
    go_enter Tryz.func79, Tryz.ntmps79
    go_wp2_with fail
    rw [← HW0.out]
    go_loopw [4, 14] (WrO w W0 l n) (fun _ i _ => n - (intOf i).toNat)
    case atStart => exact HST.out
    case round =>
      obtain ⟨w1, rfl⟩ : ∃ w1 : World, w1 = wr := ⟨_, rfl⟩
      obtain ⟨k, ds, hkn, rfl, ho, hat, hb1, hb2⟩ := hrel
      have HO := Lib.hid ho
      have HT := Lib.hid hat
      have HB1 := Lib.hid hb1
      have HB2 := Lib.hid hb2
      clear ho hat hb1 hb2 HST
      by_cases hlt : k < n
      · obtain ⟨g, og, rfl, hg, hc⟩ := HA.out.below HB2.out k (by have := HL.out; omega)
        obtain ⟨x, hx⟩ : ∃ x, x = l.getD k 0 := ⟨_, rfl⟩
        rw [← hx] at hc
        have hxb : x < 1000000000 := by rw [hx]; exact getD_lt l k HR.out.1
        have hst : WrJ w W0 l k u4 (.int .u32 x) (.int .i64 0) w1 := ⟨0, x, ds, by omega, rfl, rfl, hxb, HO.out, by rw [hx]; exact wr_in l ds k HR.out.1 HT.out, HB1.out, HB2.out⟩
        have HST2 := Lib.hid hst
        clear hst hx HO HT
        go_wp2_with fail
        go_loopw [4, 6, 18] (WrJ w W0 l k) (fun _ _ j _ => 9 - (intOf j).toNat)
        case atStart => exact HST2.out
        case round =>
          obtain ⟨w2, rfl⟩ : ∃ w2 : World, w2 = wr := ⟨_, rfl⟩
          obtain ⟨i, t, ds, hi9, rfl, rfl, htb, ho, hat, hb1, hb2⟩ := hrel
          have HO := Lib.hid ho
          have HT := Lib.hid hat
          have HB3 := Lib.hid hb1
          have HB4 := Lib.hid hb2
          have hdl : ds.length ≤ 450009 := by have := hat.1; omega
          clear ho hat hb1 hb2 HST2
          by_cases hlt2 : i < 9
          · have hstp := wr_step l ds k i t hlt2 HT.out
            obtain ⟨d, hd⟩ : ∃ d, d = t % 10 := ⟨_, rfl⟩
            obtain ⟨q, hq⟩ : ∃ q, q = t / 10 := ⟨_, rfl⟩
            rw [← hd, ← hq] at hstp
            have hdI : (t : Int) % 10 = (d : Int) := by omega
            have hqI : (t : Int) / 10 = (q : Int) := by omega
            have hdb : d < 10 := by omega
            have hqb : q < 1000000000 := by omega
            have HSTP := Lib.hid hstp
            have HDI := Lib.hid hdI
            have HQI := Lib.hid hqI
            obtain ⟨m, hm⟩ : ∃ m, m = ds.length := ⟨_, rfl⟩
            have HO' := HO.out
            rw [← hm] at HO' hdl
            have HO2 := Lib.hid HO'
            have HM := Lib.hid hm
            clear hstp hd hq hqI HO' HO hm
            go_wp2_with (at_builtin; refine wpList_append1 _ rfl (.tmp 20) (.tmp 25) 43 rfl W0.heap.size 5 i0 (.int .u8 0) 1 Tryz.underlying43 hi hz0 hz1 hz2 rfl _ _ _ rfl (HO2.out.alloc _) ⟨w2.heap.size, 0, none⟩ 1 (.int .u8 ((48 : Int) + (d : Int))) rfl ?c1 rfl ?c3 ?c4 ?c5 ?_)
            case c1 => simp
            case c3 => unfold maxLen; omega
            case c4 => omega
            case c5 => have := HB3.out.size; simp; omega
            intro v3 w3 ho3 hg3 hne3 hpl3
            have n3 : Below W0.heap.size W0 w3 := (HB3.out.alloc HB3.out.size _).grown hg3 (by have := HB3.out.size; simp; omega) (fun k hk => (HO2.out.lt k hk).1)
            have n4 : Below w.heap.size w w3 := (HB4.out.alloc HB4.out.size _).grown hg3 (by have := HB4.out.size; simp; omega) (fun k hk => by have := (HO2.out.lt k hk).1; omega)
            rw [bytesD_snoc ds d hdb] at ho3
            have HO3 := Lib.hid ho3
            have N3 := Lib.hid n3
            have N4 := Lib.hid n4
            clear ho3 hg3 hne3 hpl3 n3 n4 hdI
            go_wp2_with fail
            go_roundw
            case rel => exact ⟨i + 1, q, ds ++ [d], by omega, by go_num, by rw [HQI.out], by omega, by rw [List.length_append, ← HM.out]; exact HO3.out, HSTP.out, N3.out, N4.out⟩
            case measure => simp [intOf] <;> omega
          · obtain rfl : i = 9 := by omega
            have hout := wr_out l ds k t HT.out
            have HOUT := Lib.hid hout
            clear hout
            go_wp2_with fail
            go_roundw
            case rel => exact ⟨k + 1, ds, by omega, by go_num, HO.out, HOUT.out, HB3.out, HB4.out⟩
            case measure => simp [intOf] <;> omega
      · obtain rfl : k = n := by omega
        have hdv : dval ds = N := by rw [HT.out.2.2, List.take_of_length_le (by have := HL.out; omega)]; exact HR.out.2.2
        have hdl : ds.length = 9 * k := HT.out.1
        have hd10 := HT.out.2.1
        rcases rowAt_of_owns HO.out with ⟨_, hz, _⟩ | ⟨g, cb, rfl, hg, hcb, hcm, _, hrow⟩
        · omega
        obtain ⟨m, hm⟩ : ∃ m, m = ds.length := ⟨_, rfl⟩
        rw [← hm] at hdl
        have HO' := HO.out
        rw [← hm] at HO' hcb ⊢
        have HO2 := Lib.hid HO'
        have HROW := Lib.hid hrow
        have HDV := Lib.hid hdv
        have HD10 := Lib.hid hd10
        have HM := Lib.hid hm
        have hm1 : 1 ≤ m := by omega
        have hm2 : m ≤ 450000 := by omega
        clear HO HO' hrow hdv hd10 hdl hm
        go_wp2_with fail
        go_loop [4] (WrT g cb ds) (fun v => match v with | .slice _ k _ => k | _ => 0)
        case atStart => exact ⟨m, hm1, by rw [HM.out]; omega, rfl, by rw [HM.out, List.take_of_length_le (Nat.le_refl _)]⟩
        case round =>
          obtain ⟨e, he1, he2, rfl, hv⟩ := hrel
          rw [← HM.out] at he2
          obtain ⟨j, rfl⟩ : ∃ j, e = j + 1 := ⟨e - 1, by omega⟩
          have HV := Lib.hid hv
          have hce : w1.cell? ⟨g, j, none⟩ = some (.int .u8 ((48 : Int) + ((ds.getD j 0 : Nat) : Int))) := by
            rw [HROW.out.cell (by rw [bytesD_length, ← HM.out]; omega)]
            exact bytesD_get ds j (by rw [← HM.out]; omega) HD10.out
          obtain ⟨y, hy⟩ : ∃ y, y = ds.getD j 0 := ⟨_, rfl⟩
          rw [← hy] at hce
          have hyb : y < 10 := by rw [hy]; exact digD_lt ds j HD10.out
          have HY := Lib.hid hy
          clear hv hy
          by_cases hy0 : y < 1
          · have hst := dtrim_step ds j HV.out (by rw [← HY.out]; omega)
            have t2 : (((48 : Int) + (y : Int)) == 48) = true := by rw [beq_iff_eq]; omega
            have hj1 : 1 ≤ j := by
              rcases Nat.eq_zero_or_pos j with h | h
              · exfalso
                rw [h] at hst
                have := HNP.out
                rw [HDV.out] at hst
                simp [dval] at hst; omega
              · exact h
            have HSTP := Lib.hid hst
            clear hst
            go_wp2_with fail
            go_round
            case rel => exact ⟨j, hj1, by rw [← HM.out]; omega, rfl, HSTP.out⟩
            case measure => simp
          · have t2 : (((48 : Int) + (y : Int)) == 48) = false := by rw [beq_eq_false_iff_ne]; omega
            have htop := (top_dig ds j (by rw [← HM.out]; omega) HD10.out HV.out (by rw [← HY.out]; omega)).1
            rw [HDV.out] at htop
            have hlen : (decN N).length = j + 1 := by rw [htop, List.length_take, ← HM.out]; omega
            have hbz : bigZ z = decide (1000 < j + 1) := by
              unfold bigZ
              rw [HZ.out]
              cases neg
              · simp [hlen]
              · simp [hlen]
            have HTOP := Lib.hid htop
            have HBZ := Lib.hid hbz
            clear htop hlen hbz
            by_cases hbig : 1000 < j + 1
            · have e : bigZ z = true := by rw [HBZ.out]; simpa using hbig
              have E := Lib.hid e
              have t3 : decide ((1000 : Int) < (j : Int) + 1) = true := by simp; omega
              clear e
              go_wp2_with fail
              go_ret2
              exact ⟨.inl ⟨E.out, rfl⟩, HB2.out⟩
            · have e : bigZ z = false := by rw [HBZ.out]; simpa using hbig
              have E := Lib.hid e
              have t3 : decide ((1000 : Int) < (j : Int) + 1) = false := by simp; omega
              have hneg : w1.cell? ⟨w.heap.size, 0, none⟩ = some (.bool neg) := (HB1.out.cell (p := ⟨w.heap.size, 0, none⟩) hsz).trans (HBX.out.cell (i := 0) (by simp))
              have hown := ownsRow_take HO2.out (show j + 1 ≤ m by omega)
              rw [bytesD_take, ← HTOP.out] at hown
              have HOWN := Lib.hid hown
              clear e hown
              go_upto_if 47 with (fail)
              go_cut [4] (fun v wx => WrC w z v wx)
              case first => as_aux_lemma =>
                have hjl : (decN N).length = j + 1 := by rw [HTOP.out, List.length_take, ← HM.out]; omega
                cases neg with
                | false =>
                  have hfin : WrC w z (.slice (some ⟨g, 0, none⟩) (j + 1) cb) w1 := by
                    refine ⟨g, cb, (decN N).map dgB, by rw [List.length_map, hjl], ?_, ?_, by rw [List.length_map, hjl]; omega, by omega, HB2.out⟩
                    · rcases rowAt_of_owns HOWN.out with ⟨h, _⟩ | ⟨g', c', h, _, _, _, _, hr⟩
                      · injection h with h; cases h
                      · injection h with h; injection h with h; injection h with h
                        subst h; exact hr
                    · rw [HZ.out]; simp [txtZ_pos, txtN]
                  have HF := Lib.hid hfin
                  clear hfin hjl
                  go_wp2_with fail
                  go_meet
                  exact HF.out
                | true =>
                  go_wp2_with (at_builtin; refine wpList_append1 _ rfl (.tmp 48) (.tmp 49) 43 rfl W0.heap.size 5 i0 (.int .u8 0) 1 Tryz.underlying43 hi hz0 hz1 hz2 rfl _ _ _ rfl (HOWN.out.alloc _) ⟨w1.heap.size, 0, none⟩ 1 (.int .u8 45) rfl ?d1 rfl ?d3 ?d4 ?d5 ?_)
                  case d3 => unfold maxLen; omega
                  case d4 => omega
                  case d5 => have := HB1.out.size; simp; omega
                  intro v4 w4 ho4 hg4 hne4 hpl4
                  have n4 : Below w.heap.size w w4 := (HB2.out.alloc HB2.out.size _).grown hg4 (by have := HB2.out.size; simp; omega) (fun k hk => by have := (HOWN.out.lt k hk).1; omega)
                  have hfin : WrC w z v4 w4 := by
                    rcases rowAt_of_owns ho4 with ⟨_, h, _⟩ | ⟨g', c', h, hgB, _, _, _, hr⟩
                    · omega
                    · refine ⟨g', c', (decN N).map dgB ++ [45], by rw [h, List.length_append, List.length_map, hjl]; rfl, ?_, ?_, by rw [List.length_append, List.length_map, hjl]; simp; omega, by omega, n4⟩
                      · have : bytesD (decN N) ++ [.int .u8 45] = bytesV ((decN N).map dgB ++ [45]) := by simp [bytesD, bytesV]
                        rw [this] at hr; exact hr
                      · have hzn : z = -(N : Int) := by have := HZ.out; simpa using this
                        rw [hzn, txtZ_neg HNP.out]; simp [txtN]
                  have HF := Lib.hid hfin
                  clear ho4 hg4 hne4 hpl4 n4 hfin hjl
                  go_wp2_with fail
                  go_meet
                  exact HF.out
              case rest => as_aux_lemma =>
                obtain ⟨g5, c5, bs, rfl, hr5, htx, hbl, hg5, hb5⟩ := hcut
                have HR5 := Lib.hid hr5
                have HTX := Lib.hid htx
                have HB5 := Lib.hid hb5
                have hlt5 := hr5.lt
                obtain ⟨w5, hw5⟩ : ∃ w5 : World, w5 = wc := ⟨_, rfl⟩
                subst hw5
                have hrev := reverse_any g5 bs.length c5 bs w5 rfl (by omega) hr5
                have HREV := Lib.hid hrev
                clear hr5 htx hb5 hrev hlt5
                go_wp2_with fail
                refine HREV.out.mono ?_
                rintro e w6 ⟨⟨v6, rfl⟩, hr6, hg6⟩
                have hcv := conv_row (c := c5) hr6 89 Tryz.underlying89
                rw [List.length_reverse, HTX.out] at hcv
                have hb6 : Below w.heap.size w w6 := below_only HB5.out hg6 HB5.out.size hg5
                have HB6 := Lib.hid hb6
                clear hr6 hg6 hb6
                go_wp2_with fail
                go_ret2
                exact ⟨.inr ⟨E.out, rfl⟩, HB6.out⟩

end Go.Proofs.YtdgmpgejemgbbaaGreatDoor

namespace Go.Proofs.YtdgmpgejemgbbaaGreatDoor
open Go.RowKit Go.Shelf

attribute [local go_sem] Oper.semAt_some

/-- The k-th group of digits, the last one first. -/
def chunk (t : ByteArray) (k : Nat) : ByteArray := t.extract (t.size - 9 * (k + 1)) (t.size - 9 * k)
/-- What a round keeps for the iterator: the boxed text. -/
def KeepBox (B : Nat) (W W' : World) : Prop := W'.heap[B]? = W.heap[B]?
theorem keepBox_t {B : Nat} {W1 W2 W3 : World} (h : KeepBox B W1 W2) (k : KeepBox B W2 W3) : KeepBox B W1 W3 := k.trans h
theorem keepBox_b {B : Nat} {w : World} (hB : B < w.heap.size) (W : World) (l : Nat) (o o' : Obj) (hl : w.heap.size ≤ l) (h : W.heap[l]? = some o) (_ho : o.isCells = false) (_ : o.isWalk = false) : KeepBox B W (W.putObj l o') := by
  have hlt := (Array.getElem?_eq_some_iff.1 h).1
  by_cases hb : B < W.heap.size
  · exact (grownBy_putObj' W l o').block B hb (by intro e; injection e with e; omega)
  · unfold KeepBox
    rw [Array.getElem?_eq_none (by omega), Array.getElem?_eq_none (by have := (grownBy_putObj' W l o').size; omega)]
theorem range_succ' (k : Nat) : List.range k ++ [k] = List.range (k + 1) := List.range_succ.symm
theorem range_prefix {k m : Nat} (h : k ≤ m) : List.range k <+: List.range m := by
  refine ⟨(List.range' k (m - k)), ?_⟩
  rw [List.range_eq_range', List.range_eq_range']
  have := List.range'_append (s := 0) (m := k) (n := m - k) (step := 1)
  simp only [Nat.zero_add, Nat.one_mul] at this
  rw [this]; congr 1; omega

set_option maxRecDepth 100000 in
set_option maxHeartbeats 2000000 in
theorem groups1_in (F : Fence) (n : Nat) (hF : F.fn 103) (hro : F.round = none) (hn : 1 ≤ n) (l Bs m : Nat) (t : ByteArray) (hs : t.size ≤ 1000000) (hm1 : t.size ≤ 9 * m) (hm2 : 9 * m < t.size + 9) (J Jx : List Nat → World → Prop)
    (hY : ∀ pre x W, J pre W → pre.length < m → YieldAt F (n - 1) Tryz.prog l #[.string (chunk t x)] W fun e W' =>
      (e = .returned (.bool true) ∧ J (pre ++ [x]) W' ∧ KeepBox Bs W W') ∨ (e = .returned (.bool false) ∧ Jx (pre ++ [x]) W'))
    (W : World) (hBs : Boxed W Bs 9 (.string t)) (h0 : J [] W) :
    CallsIn F n Tryz.prog 103 #[.func (.yield l) #[] #[], .pointer (some ⟨Bs, 0, none⟩)] W fun e W' => (∃ v, e = .returned v) ∧
      ((∃ ys, ys = List.range m ∧ J ys W') ∨ (∃ pre, pre <+: List.range m ∧ Jx pre W')) := by
  refine callsIn_of_wp Tryz.func103 rfl hF ?_ hro
  simp only [Tryz.ntmps103, List.size_toArray, List.length_cons, List.length_nil, Nat.reduceAdd, Nat.reduceSub, Array.replicate_succ, Array.replicate_zero, List.push_toArray, List.append_toArray, List.nil_append, List.cons_append]
  have hc0 := hBs.cell
  gi_wp2
  clear hc0
  gi_loopw [3] (fun i wr => ∃ k : Nat, k ≤ m ∧ i = .int .i64 ((t.size : Int) - 9 * (k : Int)) ∧ J (List.range k) wr ∧ Boxed wr Bs 9 (.string t))
    (fun i _ => (intOf i + 9).toNat)
  case atStart => exact ⟨0, Nat.zero_le _, by simp, h0, hBs⟩
  case round =>
    obtain ⟨k, hk, rfl, hJs, hnx⟩ := hrel
    have hcx : wr.cell? ⟨Bs, 0, none⟩ = some (.string t) := hnx.cell
    by_cases hlt : k < m
    · obtain ⟨e, he⟩ : ∃ e, e = t.size - 9 * k := ⟨_, rfl⟩
      have he1 : 1 ≤ e := by omega
      have heI : ((t.size : Int) - 9 * (k : Int)) = (e : Int) := by omega
      have hes : e ≤ t.size := by omega
      obtain ⟨fn, tmps, assign, body, hy, hR⟩ := hY _ k wr hJs (by simpa using hlt)
      have hch : chunk t k = t.extract (e - 9) e := by unfold chunk; rw [he]; congr 1
      rw [hch] at hy
      rw [heI]
      have HCH := Lib.hid hch
      have HE := Lib.hid he
      have HEI := Lib.hid heI
      clear hch he heI hJs
      by_cases h9 : 10 ≤ e
      · obtain ⟨f, rfl⟩ : ∃ f, e = f + 9 := ⟨e - 9, by omega⟩
        rw [Nat.add_sub_cancel] at hy
        have hf : ((f + 9 : Nat) : Int) = (f : Int) + 9 := by omega
        have hf1 : 1 ≤ f := by omega
        rw [hf]
        clear hf h9
        gi_wp2
        refine hR.mono ?_
        rintro ee W3 (⟨rfl, hJ3, hk3⟩ | ⟨rfl, hJx3⟩)
        · gi_wp2
          go_roundw
          case rel => exact ⟨k + 1, by omega, by congr 1; have := HEI.out; omega, by rw [← range_succ']; exact hJ3, hk3.trans hnx⟩
          case measure => simp [intOf] <;> omega
        · gi_wp2
          refine bodyPost_ret (results_none rfl _ _ _) rfl ?_
          exact ⟨⟨_, rfl⟩, .inr ⟨_, by rw [range_succ']; exact range_prefix (by omega), hJx3⟩⟩
      · rw [show e - 9 = 0 by omega] at hy
        gi_wp2
        refine hR.mono ?_
        rintro ee W3 (⟨rfl, hJ3, hk3⟩ | ⟨rfl, hJx3⟩)
        · gi_wp2
          go_roundw
          case rel => exact ⟨k + 1, by omega, by congr 1; have := HEI.out; omega, by rw [← range_succ']; exact hJ3, hk3.trans hnx⟩
          case measure => simp [intOf] <;> omega
        · gi_wp2
          refine bodyPost_ret (results_none rfl _ _ _) rfl ?_
          exact ⟨⟨_, rfl⟩, .inr ⟨_, by rw [range_succ']; exact range_prefix (by omega), hJx3⟩⟩
    · obtain rfl : k = m := by omega
      have hle : ((t.size : Int) - 9 * (k : Int)) ≤ 0 := by omega
      gi_wp2
      go_end0
      exact ⟨⟨_, rfl⟩, .inl ⟨_, rfl, hJs⟩⟩

set_option maxHeartbeats 1000000 in
/-- groups(s): the text is boxed; the function value captures the box. -/
theorem groups_in (F : Fence) (n : Nat) (hF : F.fn 98) (hro : F.round = none) (t : ByteArray) (w : World) :
    CallsIn F n Tryz.prog 98 #[.string t] w fun e w' => e = .returned (.func (.func 103) #[] #[.pointer (some ⟨w.heap.size, 0, none⟩)]) ∧ w' = w.alloc (.cells #[.string t] 9) := by
  refine callsIn_of_wp Tryz.func98 rfl hF ?_ hro
  simp only [Tryz.ntmps98, List.size_toArray, List.length_cons, List.length_nil, Nat.reduceAdd, Nat.reduceSub, Array.replicate_succ, Array.replicate_zero, List.push_toArray, List.append_toArray, List.nil_append, List.cons_append]
  gi_wp2
  go_ret
  exact ⟨rfl, rfl⟩

/-- groups(s) hands back a value that yields the groups, one after the other. -/
theorem groups_stops (F : Fence) (n : Nat) (hF : F.fn 103) (hro : F.round = none) (hn : 1 ≤ n) (Bs m : Nat) (t : ByteArray) (hs : t.size ≤ 1000000) (hm1 : t.size ≤ 9 * m) (hm2 : 9 * m < t.size + 9) (w : World) (hc : Boxed w Bs 9 (.string t)) :
    SeqStopsK F n Tryz.prog 103 #[.pointer (some ⟨Bs, 0, none⟩)] (fun x : Nat => #[Value.string (chunk t x)]) (KeepBox Bs) (fun ys => ys = List.range m) (fun pre => pre <+: List.range m) m w := fun l J Jx W hW _ _ hY h0 =>
  groups1_in F n hF hro hn l Bs m t hs hm1 hm2 J Jx hY W ((hW.block Bs hc.lt).trans hc) h0

end Go.Proofs.YtdgmpgejemgbbaaGreatDoor
