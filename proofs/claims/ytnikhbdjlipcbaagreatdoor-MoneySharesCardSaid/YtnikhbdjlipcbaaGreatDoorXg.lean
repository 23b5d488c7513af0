/-
  novationlaw07.MoneyShares returns true at every total and weights. Condition: what the package-level variables hold.
-/
import Derived.Test.YtnikhbdjlipcbaaGreatDoorXf
import Derived.OpenShut
namespace Go.Proofs.YtnikhbdjlipcbaaGreatDoor
open Go.RowKit Go.Shelf

theorem take_sum (l : List Int) (k : Nat) (hk : k < l.length) : Spl.sumL (l.take (k + 1)) = Spl.sumL (l.take k) + l[k]?.getD 0 := by
  rw [List.take_succ_eq_append_getElem hk, Spl.sumL_snoc, List.getElem?_eq_getElem hk]; rfl
theorem take_bd (l : List Int) (M : Int) (h : ∀ i, i < l.length → 0 ≤ l[i]?.getD 0 ∧ l[i]?.getD 0 ≤ M) (k : Nat) (hk : k ≤ l.length) : 0 ≤ Spl.sumL (l.take k) ∧ Spl.sumL (l.take k) ≤ M * (k : Int) := by
  induction k with
  | zero => simp [Spl.sumL]
  | succ k ih =>
    obtain ⟨h1, h2⟩ := ih (by omega)
    obtain ⟨h3, h4⟩ := h k (by omega)
    rw [take_sum l k (by omega)]
    have : M * ((k + 1 : Nat) : Int) = M * (k : Int) + M := by rw [Int.natCast_add, Int.mul_add]; simp
    omega
/-- What the walk asks of a split that is good. -/
theorem shares_good (size b o n c : Nat) (neg : Bool) (ws : List Int) (w : World) (HAL : Hid (AlY w)) (hl : ws.length = n) (hb : b < w.heap.size) (hg : Spl.Good (size : Int) ws) (hz : neg = true → 0 < size) (hc : Spl.Lies w b o n ws) :
    Calls Tryz.prog 3 #[.int .i64 (if neg = true then -(size : Int) else (size : Int)), .slice (some ⟨b, o, none⟩) n c] w (RetBD w true) := by
  obtain ⟨P, hP⟩ : ∃ P, P = Spl.parts (size : Int) ws := ⟨_, rfl⟩
  have hPl : P.length = n := by rw [hP, Spl.parts_length, hl]
  have hPb : ∀ i, i < n → 0 ≤ P[i]?.getD 0 ∧ P[i]?.getD 0 ≤ 1125899906842624 := fun i hi => by
    have h1 := Spl.part_each hg i (by omega)
    rw [← hP] at h1
    have hs := hg.s2
    have hq0 : 0 ≤ Spl.qOf (size : Int) (Spl.sumL ws) ws i := Int.ediv_nonneg (Int.mul_nonneg hg.s0 (hg.w1 i (by omega)).1) (by omega)
    have hd := Int.mul_ediv_add_emod ((size : Int) * (ws[i]?.getD 0)) (Spl.sumL ws)
    have hr0 := Int.emod_nonneg ((size : Int) * (ws[i]?.getD 0)) (by omega : Spl.sumL ws ≠ 0)
    have hwi : ws[i]?.getD 0 ≤ Spl.sumL ws := by
      have h2 := take_sum ws i (by omega)
      have h3 := (take_bd ws 4000 hg.w1 i (by omega)).1
      have h4 := Spl.sumL_mono ws hg.w1 (i + 1) (by omega)
      omega
    have hq1 : Spl.qOf (size : Int) (Spl.sumL ws) ws i ≤ (size : Int) := by
      have h5 : (size : Int) * (ws[i]?.getD 0) ≤ (size : Int) * Spl.sumL ws := Int.mul_le_mul_of_nonneg_left hwi hg.s0
      have := Int.ediv_le_ediv hs h5
      rwa [Int.mul_ediv_cancel _ (by omega)] at this
    have hq2 : Spl.rOf (size : Int) (Spl.sumL ws) ws i ≠ 0 → Spl.qOf (size : Int) (Spl.sumL ws) ws i < (size : Int) := fun hr => by
      rcases Int.lt_or_eq_of_le hq1 with h | h
      · exact h
      · exfalso
        have e1 : Spl.qOf (size : Int) (Spl.sumL ws) ws i = (size : Int) * (ws[i]?.getD 0) / Spl.sumL ws := rfl
        have e2 : Spl.rOf (size : Int) (Spl.sumL ws) ws i = (size : Int) * (ws[i]?.getD 0) % Spl.sumL ws := rfl
        rw [← e1, ← e2, h] at hd
        rw [← e2] at hr0
        have h5 : (size : Int) * (ws[i]?.getD 0) ≤ (size : Int) * Spl.sumL ws := Int.mul_le_mul_of_nonneg_left hwi hg.s0
        rw [Int.mul_comm (Spl.sumL ws) (size : Int)] at hd
        omega
    have hs1 := hg.s1
    rcases h1 with h1 | ⟨h1, h2⟩
    · omega
    · have := hq2 h2; omega
  have hsum : Spl.sumL P = (size : Int) := by rw [hP]; exact Spl.parts_sum hg
  have hn100 : n ≤ 100 := by have := hg.n1; omega
  have hsz : size ≤ 1125899906842624 := by have := hg.s1; omega
  have hS := hg.s2
  have cW : ∀ i, i < n → (((ws[i]?.getD 0).toNat : Nat) : Int) = ws[i]?.getD 0 := fun i hi => by have := hg.w1 i (by omega); omega
  have cP : ∀ i, i < n → (((P[i]?.getD 0).toNat : Nat) : Int) = P[i]?.getD 0 := fun i hi => by have := hPb i hi; omega
  have bA : ∀ k, k ≤ n → 0 ≤ Spl.sumL (ws.take k) ∧ Spl.sumL (ws.take k) ≤ 400000 := fun k hk => by
    have := take_bd ws 4000 hg.w1 k (by omega)
    omega
  have bS : ∀ k, k ≤ n → 0 ≤ Spl.sumL (P.take k) ∧ Spl.sumL (P.take k) ≤ 112589990684262400 := fun k hk => by
    have := take_bd P 1125899906842624 (fun i hi => hPb i (by omega)) k (by omega)
    omega
  have HW : Hid (∀ i, i < n → w.cell? ⟨b, o + i, none⟩ = some (.int .i64 (((ws[i]?.getD 0).toNat : Nat) : Int))) := fun i hi => by rw [cW i hi]; exact hc i hi
  have HB : Hid (∀ i, i < n → (ws[i]?.getD 0).toNat ≤ 4000 ∧ (P[i]?.getD 0).toNat ≤ 1125899906842624 ∧ (Spl.sumL (ws.take i)).toNat ≤ 400000 ∧ (Spl.sumL (P.take i)).toNat ≤ 112589990684262400) := fun i hi => by
    have h1 := hg.w1 i (by omega)
    have h2 := hPb i hi
    have h3 := bA i (by omega)
    have h4 := bS i (by omega)
    omega
  have HA : Hid ((Spl.sumL (ws.take 0)).toNat = 0 ∧ (Spl.sumL (P.take 0)).toNat = 0 ∧ (∀ i, i < n → (Spl.sumL (ws.take (i + 1))).toNat = (Spl.sumL (ws.take i)).toNat + (ws[i]?.getD 0).toNat ∧ (Spl.sumL (P.take (i + 1))).toNat = (Spl.sumL (P.take i)).toNat + (P[i]?.getD 0).toNat) ∧ (Spl.sumL (ws.take n)).toNat = (Spl.sumL ws).toNat ∧ (Spl.sumL (P.take n)).toNat = size) := by
    refine ⟨by simp [Spl.sumL], by simp [Spl.sumL], fun i hi => ?_, by rw [← hl, List.take_length], by rw [← hPl, List.take_length, hsum]; omega⟩
    have h1 := hg.w1 i (by omega)
    have h2 := hPb i hi
    have h3 := bA i (by omega)
    have h4 := bS i (by omega)
    rw [take_sum ws i (by omega), take_sum P i (by omega)]
    omega
  have hEach : ∀ i, i < n → size * (ws[i]?.getD 0).toNat = (Spl.sumL ws).toNat * (Spl.qOf (size : Int) (Spl.sumL ws) ws i).toNat + (Spl.rOf (size : Int) (Spl.sumL ws) ws i).toNat ∧ (Spl.rOf (size : Int) (Spl.sumL ws) ws i).toNat < (Spl.sumL ws).toNat ∧ ((P[i]?.getD 0).toNat = (Spl.qOf (size : Int) (Spl.sumL ws) ws i).toNat ∨ ((P[i]?.getD 0).toNat = (Spl.qOf (size : Int) (Spl.sumL ws) ws i).toNat + 1 ∧ (Spl.rOf (size : Int) (Spl.sumL ws) ws i).toNat ≠ 0)) := fun i hi => by
    have h1 := Spl.part_each hg i (by omega)
    rw [← hP] at h1
    have hw0 := (hg.w1 i (by omega)).1
    have hq0 : 0 ≤ Spl.qOf (size : Int) (Spl.sumL ws) ws i := Int.ediv_nonneg (Int.mul_nonneg hg.s0 hw0) (by omega)
    have hr0 : 0 ≤ Spl.rOf (size : Int) (Spl.sumL ws) ws i := Int.emod_nonneg _ (by omega)
    have hr1 : Spl.rOf (size : Int) (Spl.sumL ws) ws i < Spl.sumL ws := Int.emod_lt_of_pos _ hS
    have hd : Spl.sumL ws * Spl.qOf (size : Int) (Spl.sumL ws) ws i + Spl.rOf (size : Int) (Spl.sumL ws) ws i = (size : Int) * (ws[i]?.getD 0) := Int.mul_ediv_add_emod _ _
    refine ⟨?_, by omega, ?_⟩
    · have e : (((size * (ws[i]?.getD 0).toNat : Nat)) : Int) = (((Spl.sumL ws).toNat * (Spl.qOf (size : Int) (Spl.sumL ws) ws i).toNat + (Spl.rOf (size : Int) (Spl.sumL ws) ws i).toNat : Nat) : Int) := by
        rw [Int.natCast_add, Int.natCast_mul, Int.natCast_mul, Int.toNat_of_nonneg hw0, Int.toNat_of_nonneg hq0, Int.toNat_of_nonneg hr0, Int.toNat_of_nonneg (by omega), hd]
      exact Int.ofNat.inj e
    · rcases h1 with h1 | ⟨h1, h2⟩
      · exact .inl (by omega)
      · exact .inr ⟨by omega, by omega⟩
  have HM : Hid (∀ i k, i < n → k < n → (ws[k]?.getD 0).toNat < (ws[i]?.getD 0).toNat → (P[k]?.getD 0).toNat ≤ (P[i]?.getD 0).toNat) := fun i k hi hk h => by
    have := Spl.part_mono hg i k (by omega) (by omega) (by omega)
    rw [← hP] at this
    omega
  cases neg with
  | false =>
    rw [if_neg (by decide)]
    refine mshares_pos size (Spl.sumL ws).toNat b o n c _ _ _ _ _ _ w HAL hn100 hb hsz (by omega) P (Lib.hid fun i hi => (cP i hi).symm) (Lib.hid hPl) (Lib.hid fun W hW => ?_) HW HB HA (Lib.hid hEach) HM
    have := Spl.split_pos b o c n (size : Int) ws W hl (by have := hW.size; omega) hg (fun i hi => ((bcell hW).1 _ _ hb).trans (hc i hi))
    rwa [← hP] at this
  | true =>
    rw [if_pos rfl]
    have hz0 := hz rfl
    refine mshares_neg size (Spl.sumL ws).toNat b o n c _ _ _ _ _ _ w HAL hn100 hb hz0 hsz (by omega) (P.map fun x => -x) (Lib.hid fun i hi => ?_) (Lib.hid (by rw [List.length_map]; exact hPl)) (Lib.hid fun W hW => ?_) HW HB HA (Lib.hid fun i hi => ⟨(hEach i hi).1, (hEach i hi).2.1, (hEach i hi).2.2, trivial⟩) HM
    · rw [cP i hi, List.getElem?_map, List.getElem?_eq_getElem (by omega)]; rfl
    · have := Spl.split_neg b o c n (size : Int) ws W hl (by have := hW.size; omega) hg (by omega) (fun i hi => ((bcell hW).1 _ _ hb).trans (hc i hi))
      rwa [← hP] at this
theorem shares_some (total : Int) (b o n c : Nat) (ws : List Int) (w : World) (HAL : Hid (AlY w)) (hn : n ≤ 200) (hl : ws.length = n) (hb : b < w.heap.size) (hc : Spl.Lies w b o n ws) :
    Calls Tryz.prog 3 #[.int .i64 total, .slice (some ⟨b, o, none⟩) n c] w (RetBD w true) := by
  by_cases hbad : Spl.Bad total ws
  · exact mshares_bad total _ n c w HAL hn (Lib.hid fun W hW => Spl.split_bad b o c n total ws W hl (by omega) (by have := hW.size; omega) hbad (fun i hi => ((bcell hW).1 _ _ hb).trans (hc i hi)))
  · unfold Spl.Bad at hbad
    have h1 : Spl.amtB total = true := by
      cases h : Spl.amtB total with
      | true => rfl
      | false => exact absurd (.inl h) hbad
    have h2 : ¬ 100 < ws.length := fun h => hbad (.inr (.inl h))
    have h3 : ∀ i, i < ws.length → 0 ≤ ws[i]?.getD 0 ∧ ws[i]?.getD 0 ≤ 4000 := fun i hi => by
      by_cases h : 0 ≤ ws[i]?.getD 0 ∧ ws[i]?.getD 0 ≤ 4000
      · exact h
      · exact absurd (.inr (.inr (.inl ⟨i, hi, h⟩))) hbad
    have h4 : Spl.sumL ws ≠ 0 := fun h => hbad (.inr (.inr (.inr h)))
    have h5 := (take_bd ws 4000 h3 ws.length (Nat.le_refl _)).1
    rw [List.take_length] at h5
    unfold Spl.amtB at h1
    rw [decide_eq_true_eq] at h1
    have hg : Spl.Good (total.natAbs : Int) ws := ⟨by omega, by omega, by omega, h3, by omega⟩
    by_cases ht : total < 0
    · have := shares_good total.natAbs b o n c true ws w HAL hl hb hg (fun _ => by omega) hc
      rwa [if_pos rfl, show -(total.natAbs : Int) = total by omega] at this
    · have := shares_good total.natAbs b o n c false ws w HAL hl hb hg (fun h => by cases h) hc
      rwa [if_neg (by decide), show (total.natAbs : Int) = total by omega] at this
/-- A slice of integers that came in. -/
def IsRowZ (w : World) (a : Option Addr) (len cap : Nat) (zs : List Int) : Prop :=
  (a = none ∧ len = 0 ∧ cap = 0 ∧ zs = []) ∨
  ∃ x, a = some x ∧ len ≤ cap ∧ cap ≤ maxLen ∧ zs.length = cap ∧ ∀ i, i < zs.length → w.cell? (x.add i) = some (.int .i64 (zs.getD i 0))
theorem mshares_any (total : Int) (a : Option Addr) (len cap : Nat) (zs : List Int) (w : World) (hr : IsRowZ w a len cap zs) (hE : Env w) (hA : AwayEnv w) :
    Calls Tryz.prog 3 #[.int .i64 total, .slice a len cap] w (RetBD w true) := by
  have HAL := alY hE hA
  by_cases hlong : 200 < len
  · exact mshares_long total a len cap w HAL hlong
  · by_cases h0 : len = 0
    · subst h0
      exact mshares_bad total a 0 cap w HAL (by omega) (Lib.hid fun W _ => Spl.split_nil a cap total W)
    · rcases hr with ⟨rfl, rfl, rfl, rfl⟩ | ⟨x, rfl, hlc, hm, hz, hcell⟩
      · omega
      · obtain ⟨b, o, rfl, hc⟩ := ints_at hcell (by omega)
        have hb : b < w.heap.size := cell_lt (hc 0 (by omega))
        refine shares_some total b o len cap (zs.take len) w HAL (by omega) (by simp; omega) hb fun i hi => ?_
        have := hc i (by omega)
        rw [List.getElem?_take_of_lt hi]
        exact this

end Go.Proofs.YtnikhbdjlipcbaaGreatDoor
