/-
  The reference's day of a text that has the form of a date, with its error. No condition.
-/
import Derived.Test.YtnmiiimbjojcmaaGreatDoorMrc
import Derived.Test.YtnmiiimbjojcmaaGreatDoorWc
import Derived.Test.YtnmiiimbjojcmaaGreatDoorXb
namespace Go.Proofs.YtnmiiimbjojcmaaGreatDoor
open Go.RowKit

theorem objSet {w : World} {g : Nat} {cs : Array Value} {t : TypeId} (h : w.heap[g]? = some (.cells cs t)) (i : Nat) (v : Value) : (w.setCell ⟨g, i, none⟩ v).heap[g]? = some (.cells (cs.setIfInBounds i v) t) := by
  simp [World.setCell, Array.getElem?_modify, h]
theorem objHere (V : World) (O : Obj) : (V.alloc O).heap[V.heap.size]? = some O := by
  show (V.heap.push O)[V.heap.size]? = some O
  rw [Array.getElem?_push, if_pos rfl]
theorem objLt {V : World} {O : Obj} {q : Nat} (h : V.heap[q]? = some O) : q < V.heap.size := (Array.getElem?_eq_some_iff.1 h).1
def pA (l : List UInt8) (k : Nat) : Nat := numV ((l.take k).take 4)
def pB (l : List UInt8) (k : Nat) : Nat := numV (((l.take k).drop 5).take 2)
def pC (l : List UInt8) (k : Nat) : Nat := numV (((l.take k).drop 8).take 2)
def pAt (k : Nat) : Nat := if k ≤ 4 then 0 else if k ≤ 7 then 1 else 2
/-- A letter that may stand at a place of a date's text. -/
def dOk (k : Nat) (c : UInt8) : Prop := if k = 4 ∨ k = 7 then c.toNat = 45 else 48 ≤ c.toNat ∧ c.toNat ≤ 57
def OkD (l : List UInt8) (k : Nat) : Prop := ∀ i c, i < k → l[i]? = some c → dOk i c
theorem list10 {l : List UInt8} (h : l.length = 10) : ∃ a b c d e f g i j k, l = [a, b, c, d, e, f, g, i, j, k] := by
  match l, h with
  | [a, b, c, d, e, f, g, i, j, k], _ => exact ⟨a, b, c, d, e, f, g, i, j, k, rfl⟩
theorem OkD.next {l : List UInt8} {k : Nat} {c : UInt8} (h : OkD l k) (hc : l[k]? = some c) (h2 : dOk k c) : OkD l (k + 1) := fun i x hi hx => by
  by_cases e : i = k
  · subst e
    rw [hc] at hx
    rwa [← Option.some.inj hx]
  · exact h i x (by omega) hx
theorem pNext {l : List UInt8} (hl : l.length = 10) {k : Nat} {c : UInt8} (hk : k < 10) (hc : l[k]? = some c) :
    (k < 4 → pA l (k + 1) = 10 * pA l k + (c.toNat - 48) ∧ pB l (k + 1) = pB l k ∧ pC l (k + 1) = pC l k ∧ pAt (k + 1) = pAt k ∧ pAt k = 0) ∧
    (k = 4 → pA l (k + 1) = pA l k ∧ pB l (k + 1) = pB l k ∧ pC l (k + 1) = pC l k ∧ pAt (k + 1) = 1 ∧ pAt k = 0) ∧
    (k = 5 ∨ k = 6 → pA l (k + 1) = pA l k ∧ pB l (k + 1) = 10 * pB l k + (c.toNat - 48) ∧ pC l (k + 1) = pC l k ∧ pAt (k + 1) = pAt k ∧ pAt k = 1) ∧
    (k = 7 → pA l (k + 1) = pA l k ∧ pB l (k + 1) = pB l k ∧ pC l (k + 1) = pC l k ∧ pAt (k + 1) = 2 ∧ pAt k = 1) ∧
    (k = 8 ∨ k = 9 → pA l (k + 1) = pA l k ∧ pB l (k + 1) = pB l k ∧ pC l (k + 1) = 10 * pC l k + (c.toNat - 48) ∧ pAt (k + 1) = pAt k ∧ pAt k = 2) := by
  obtain ⟨c0, c1, c2, c3, c4, c5, c6, c7, c8, c9, rfl⟩ := list10 hl
  have h10 : k = 0 ∨ k = 1 ∨ k = 2 ∨ k = 3 ∨ k = 4 ∨ k = 5 ∨ k = 6 ∨ k = 7 ∨ k = 8 ∨ k = 9 := by omega
  rcases h10 with rfl | rfl | rfl | rfl | rfl | rfl | rfl | rfl | rfl | rfl
  all_goals
    obtain rfl := Option.some.inj hc
    refine ⟨?_, ?_, ?_, ?_, ?_⟩ <;> intro hk' <;> first | (exfalso; omega; done) | exact ⟨rfl, rfl, rfl, rfl, rfl⟩
theorem pBound {l : List UInt8} (hl : l.length = 10) {k : Nat} (hk : k ≤ 10) (h : OkD l k) : pA l k ≤ 9999 ∧ pB l k ≤ 99 ∧ pC l k ≤ 99 ∧ (k ≤ 3 → pA l k ≤ 999) ∧ (k ≤ 6 → pB l k ≤ 9) ∧ (k ≤ 9 → pC l k ≤ 9) := by
  have key : ∀ m : List UInt8, ∀ n, (∀ c ∈ m, 48 ≤ c.toNat ∧ c.toNat ≤ 57) → m.length ≤ n → numV m < 10 ^ n := fun m n hm hn => Nat.lt_of_lt_of_le (numV_le m hm) (Nat.pow_le_pow_right (by omega) hn)
  have dg : ∀ i c, i < k → l[i]? = some c → i ≠ 4 → i ≠ 7 → 48 ≤ c.toNat ∧ c.toNat ≤ 57 := fun i c hi hc h4 h7 => by
    have := h i c hi hc
    unfold dOk at this
    rwa [if_neg (by omega)] at this
  have d1 : ∀ c ∈ (l.take k).take 4, 48 ≤ c.toNat ∧ c.toNat ≤ 57 := fun c hc => by
    obtain ⟨i, hi⟩ := List.getElem?_of_mem hc
    have hi4 : i < 4 ∧ i < k := by
      have := (List.getElem?_eq_some_iff.1 hi).1
      simp at this; omega
    rw [List.getElem?_take_of_lt hi4.1, List.getElem?_take_of_lt hi4.2] at hi
    exact dg i c hi4.2 hi (by omega) (by omega)
  have d2 : ∀ a, a + 2 ≤ 10 → 5 ≤ a → a ≠ 6 → a ≠ 7 → ∀ c ∈ ((l.take k).drop a).take 2, 48 ≤ c.toNat ∧ c.toNat ≤ 57 := fun a ha ha5 ha6 ha7 c hc => by
    obtain ⟨i, hi⟩ := List.getElem?_of_mem hc
    have hi4 : i < 2 ∧ a + i < k := by
      have := (List.getElem?_eq_some_iff.1 hi).1
      simp at this; omega
    rw [List.getElem?_take_of_lt hi4.1, List.getElem?_drop, List.getElem?_take_of_lt hi4.2] at hi
    exact dg (a + i) c hi4.2 hi (by omega) (by omega)
  have e1 := key _ 4 d1 (by simp; omega)
  have e2 := key _ 2 (d2 5 (by omega) (by omega) (by omega) (by omega)) (by simp; omega)
  have e3 := key _ 2 (d2 8 (by omega) (by omega) (by omega) (by omega)) (by simp; omega)
  have e4 : k ≤ 3 → numV ((l.take k).take 4) < 10 ^ 3 := fun hk3 => key _ 3 d1 (by simp; omega)
  have e5 : k ≤ 6 → numV (((l.take k).drop 5).take 2) < 10 ^ 1 := fun hk3 => key _ 1 (d2 5 (by omega) (by omega) (by omega) (by omega)) (by simp; omega)
  have e6 : k ≤ 9 → numV (((l.take k).drop 8).take 2) < 10 ^ 1 := fun hk3 => key _ 1 (d2 8 (by omega) (by omega) (by omega) (by omega)) (by simp; omega)
  unfold pA pB pC
  refine ⟨by omega, by omega, by omega, fun h => ?_, fun h => ?_, fun h => ?_⟩
  · have := e4 h; omega
  · have := e5 h; omega
  · have := e6 h; omega

/-- The loop: the three numbers so far. -/
def PdR (w : World) (l : List UInt8) (av iv : Value) (wr : World) : Prop :=
  ∃ k : Nat, k ≤ 10 ∧ iv = .int .i64 (k : Int) ∧ av = .int .i64 (pAt k : Int) ∧ wr.heap[w.heap.size]? = some (.cells #[.int .i64 (pA l k : Int), .int .i64 (pB l k : Int), .int .i64 (pC l k : Int)] 68) ∧ Below w.heap.size w wr ∧ OkD l k
theorem PdR.drew {w wr : World} {l : List UInt8} {a i : Value} (h : PdR w l a i wr) : PdR w l a i wr.drew := by
  obtain ⟨k, h1, h2, h3, h4, h5, h6⟩ := h
  exact ⟨k, h1, h2, h3, h4, h5.drew, h6⟩
theorem cell3 {W : World} {g : Nat} {a b c : Value} {t : TypeId} (h : W.heap[g]? = some (.cells #[a, b, c] t)) : W.cell? ⟨g, 0, none⟩ = some a ∧ W.cell? ⟨g, 1, none⟩ = some b ∧ W.cell? ⟨g, 2, none⟩ = some c := by
  refine ⟨?_, ?_, ?_⟩ <;> simp [World.cell?, h]
theorem frozen3 {W : World} {g : Nat} {a b c : Value} {t : TypeId} (h : W.heap[g]? = some (.cells #[a, b, c] t)) (i : Nat) : W.frozen? ⟨g, i, none⟩ = false := by
  simp [World.frozen?, h]

set_option maxHeartbeats 4000000 in
set_option maxRecDepth 100000 in
theorem rdparse_go (s : ByteArray) (w : World) (h10 : s.size = 10) (R Q : Int) (HN : Hid (∀ k c, k < 10 → s.data.toList[k]? = some c → ¬dOk k c → R = 0 ∧ Q = 12))
    (HY : Hid (OkD s.data.toList 10 → ∀ W, Calls Tryz.prog 48 #[.int .i64 (pA s.data.toList 10 : Int), .int .i64 (pB s.data.toList 10 : Int), .int .i64 (pC s.data.toList 10 : Int)] W (NumQ W R Q))) :
    Calls Tryz.prog 31 #[.string s] w (NumQ w R Q) := by
  obtain ⟨l, hl⟩ : ∃ l, l = s.data.toList := ⟨_, rfl⟩
  have hlen : l.length = 10 := by rw [hl, data_len, h10]
  have HL := Lib.hid hl
  have HLEN := Lib.hid hlen
  rw [← hl] at HN HY
  have h10' := Lib.hid h10
  have HST : Hid (∀ wr, wr.heap[w.heap.size]? = some (.cells #[.int .i64 0, .int .i64 0, .int .i64 0] 68) → Below w.heap.size w wr → PdR w l (.int .i64 0) (.int .i64 0) wr) := fun wr h1 h2 => ⟨0, by omega, rfl, rfl, by simpa [pA, pB, pC, numV] using h1, h2, fun i c hi => absurd hi (Nat.not_lt_zero _)⟩
  clear hl hlen
  go_enter Tryz.func31, Tryz.ntmps31
  go_wp2_with fail
  go_loopw [5, 6] (PdR w l) (fun _ i _ => 10 - (intOf i).toNat)
  case atStart => exact HST.out _ (objHere _ _) (own_below _ _)
  case round =>
    obtain ⟨w1, rfl⟩ : ∃ w1 : World, w1 = wr := ⟨_, rfl⟩
    obtain ⟨k, hk, rfl, rfl, ho, hb, hok⟩ := hrel
    have hgl : w.heap.size < w1.heap.size := objLt ho
    have HB := Lib.hid hb
    have HO := Lib.hid ho
    have HOK := Lib.hid hok
    obtain ⟨q0, q1, q2⟩ := cell3 ho
    have qf := frozen3 ho
    have bd := pBound HLEN.out hk hok
    by_cases hlt : k < 10
    · have hks : k < s.size := by rw [h10]; exact hlt
      have hc : l[k]? = some s[k] := by rw [HL.out]; exact Lib.data_getElem? s k hks
      have HC := Lib.hid hc
      have HNK : Hid (¬dOk k s[k] → R = 0 ∧ Q = 12) := fun h => HN.out k _ hlt hc h
      have hp := pNext HLEN.out hlt hc
      have HP := Lib.hid hp
      clear ho hb hok hc hp HST
      by_cases hd : k = 4 ∨ k = 7
      · by_cases h45 : s[k].toNat = 45
        · have NX : Hid (PdR w l (.int .i64 ((pAt k : Int) + 1)) (.int .i64 ((k : Int) + 1)) w1) := by
            obtain ⟨p1, p2, p3, p4, p5⟩ := HP.out
            refine ⟨k + 1, hlt, by simp, ?_, ?_, HB.out, HOK.out.next HC.out (by unfold dOk; rw [if_pos hd]; exact h45)⟩
            · rcases hd with e | e
              · rw [(p2 e).2.2.2.1, (p2 e).2.2.2.2]; rfl
              · rw [(p4 e).2.2.2.1, (p4 e).2.2.2.2]; rfl
            · rcases hd with e | e
              · rw [(p2 e).1, (p2 e).2.1, (p2 e).2.2.1]; exact HO.out
              · rw [(p4 e).1, (p4 e).2.1, (p4 e).2.2.1]; exact HO.out
          have hat : pAt k ≤ 2 := by
            unfold pAt
            repeat' split
            all_goals omega
          obtain ⟨a, ha⟩ : ∃ a, a = pAt k := ⟨_, rfl⟩
          rw [← ha] at NX hat ⊢
          clear ha HNK bd q0 q1 q2
          rcases hd with rfl | rfl
          all_goals
            go_wp2_with fail
            go_roundw
            case rel => simpa using NX.out
            case measure => simp [intOf]
        · have e := Lib.hid (HNK.out (by unfold dOk; rw [if_pos hd]; exact h45))
          obtain ⟨a, ha⟩ : ∃ a, a = pAt k := ⟨_, rfl⟩
          rw [← ha]
          clear ha HNK bd q0 q1 q2
          rcases hd with rfl | rfl
          all_goals
            go_wp2_with fail
            go_ret2
            exact ⟨ret_two e.out.1.symm e.out.2.symm, HB.out⟩
      · have t4 : ((k : Int) == 4) = false := by simp; omega
        have t7 : ((k : Int) == 7) = false := by simp; omega
        by_cases c1 : s[k].toNat < 48
        · have e := Lib.hid (HNK.out (by unfold dOk; rw [if_neg hd]; omega))
          obtain ⟨a, ha⟩ : ∃ a, a = pAt k := ⟨_, rfl⟩
          rw [← ha]
          clear ha HNK bd q0 q1 q2
          go_wp2_with fail
          go_ret2
          exact ⟨ret_two e.out.1.symm e.out.2.symm, HB.out⟩
        · by_cases c2 : 57 < s[k].toNat
          · have e := Lib.hid (HNK.out (by unfold dOk; rw [if_neg hd]; omega))
            obtain ⟨a, ha⟩ : ∃ a, a = pAt k := ⟨_, rfl⟩
            rw [← ha]
            clear ha HNK bd q0 q1 q2
            go_wp2_with fail
            go_ret2
            exact ⟨ret_two e.out.1.symm e.out.2.symm, HB.out⟩
          · have hdk : dOk k s[k] := by unfold dOk; rw [if_neg hd]; omega
            have NX : Hid (∀ x y z : Int, x = (pA l (k + 1) : Int) → y = (pB l (k + 1) : Int) → z = (pC l (k + 1) : Int) → ∀ W : World, W.heap[w.heap.size]? = some (.cells #[.int .i64 x, .int .i64 y, .int .i64 z] 68) → Below w.heap.size w W → pAt (k + 1) = pAt k → PdR w l (.int .i64 (pAt k : Int)) (.int .i64 ((k : Int) + 1)) W) := fun x y z hx hy hz W hW hbW ha => ⟨k + 1, hlt, by simp, by rw [ha], by rw [hW, hx, hy, hz], hbW, HOK.out.next HC.out hdk⟩
            clear HNK
            by_cases k3 : k < 4
            · have pp := HP.out.1 k3
              have hA := bd.2.2.2.1 (by omega)
              have NX2 : Hid (∀ W : World, W.heap[w.heap.size]? = some (.cells #[.int .i64 (10 * (pA l k : Int) + (s[k].toNat : Int) - 48), .int .i64 (pB l k : Int), .int .i64 (pC l k : Int)] 68) → Below w.heap.size w W → PdR w l (.int .i64 0) (.int .i64 ((k : Int) + 1)) W) := fun W h1 h2 => by
                have := NX.out _ _ _ (by rw [pp.1]; omega) (by rw [pp.2.1]) (by rw [pp.2.2.1]) W h1 h2 pp.2.2.2.1
                rw [pp.2.2.2.2] at this
                exact this
              rw [pp.2.2.2.2]
              obtain ⟨A, hA'⟩ : ∃ A, A = pA l k := ⟨_, rfl⟩
              have NX3 : Hid (PdR w l (.int .i64 0) (.int .i64 ((k : Int) + 1)) (w1.setCell ⟨w.heap.size, 0, none⟩ (.int .i64 (10 * (A : Int) + (s[k].toNat : Int) - 48)))) := by
                rw [hA']
                exact NX2.out _ (by simpa using objSet HO.out 0 _) (HB.out.setCell (Nat.le_refl _) _)
              rw [← hA'] at hA q0
              clear NX NX2 pp bd hA' HP
              go_upto_region 14 with (fail)
              go_region
              all_goals
                go_wp2_with fail
                go_roundw
                case rel => exact PdR.drew NX3.out
                case measure => simp [intOf]; omega
            · by_cases k6 : k < 7
              · have k56 : k = 5 ∨ k = 6 := by omega
                have pp := HP.out.2.2.1 k56
                have hA := bd.2.2.2.2.1 (by omega)
                have NX2 : Hid (∀ W : World, W.heap[w.heap.size]? = some (.cells #[.int .i64 (pA l k : Int), .int .i64 (10 * (pB l k : Int) + (s[k].toNat : Int) - 48), .int .i64 (pC l k : Int)] 68) → Below w.heap.size w W → PdR w l (.int .i64 1) (.int .i64 ((k : Int) + 1)) W) := fun W h1 h2 => by
                  have := NX.out _ _ _ (by rw [pp.1]) (by rw [pp.2.1]; omega) (by rw [pp.2.2.1]) W h1 h2 pp.2.2.2.1
                  rw [pp.2.2.2.2] at this
                  exact this
                rw [pp.2.2.2.2]
                obtain ⟨A, hA'⟩ : ∃ A, A = pB l k := ⟨_, rfl⟩
                have NX3 : Hid (PdR w l (.int .i64 1) (.int .i64 ((k : Int) + 1)) (w1.setCell ⟨w.heap.size, 1, none⟩ (.int .i64 (10 * (A : Int) + (s[k].toNat : Int) - 48)))) := by
                  rw [hA']
                  exact NX2.out _ (by simpa using objSet HO.out 1 _) (HB.out.setCell (Nat.le_refl _) _)
                rw [← hA'] at hA q1
                clear NX NX2 pp bd hA' HP
                go_upto_region 14 with (fail)
                go_region
                all_goals
                  go_wp2_with fail
                  go_roundw
                  case rel => exact PdR.drew NX3.out
                  case measure => simp [intOf]; omega
              · have k89 : k = 8 ∨ k = 9 := by omega
                have pp := HP.out.2.2.2.2 k89
                have hA := bd.2.2.2.2.2 (by omega)
                have NX2 : Hid (∀ W : World, W.heap[w.heap.size]? = some (.cells #[.int .i64 (pA l k : Int), .int .i64 (pB l k : Int), .int .i64 (10 * (pC l k : Int) + (s[k].toNat : Int) - 48)] 68) → Below w.heap.size w W → PdR w l (.int .i64 2) (.int .i64 ((k : Int) + 1)) W) := fun W h1 h2 => by
                  have := NX.out _ _ _ (by rw [pp.1]) (by rw [pp.2.1]) (by rw [pp.2.2.1]; omega) W h1 h2 pp.2.2.2.1
                  rw [pp.2.2.2.2] at this
                  exact this
                rw [pp.2.2.2.2]
                obtain ⟨A, hA'⟩ : ∃ A, A = pC l k := ⟨_, rfl⟩
                have NX3 : Hid (PdR w l (.int .i64 2) (.int .i64 ((k : Int) + 1)) (w1.setCell ⟨w.heap.size, 2, none⟩ (.int .i64 (10 * (A : Int) + (s[k].toNat : Int) - 48)))) := by
                  rw [hA']
                  exact NX2.out _ (by simpa using objSet HO.out 2 _) (HB.out.setCell (Nat.le_refl _) _)
                rw [← hA'] at hA q2
                clear NX NX2 pp bd hA' HP
                go_upto_region 14 with (fail)
                go_region
                all_goals
                  go_wp2_with fail
                  go_roundw
                  case rel => exact PdR.drew NX3.out
                  case measure => simp [intOf]; omega
    · obtain rfl : k = 10 := by omega
      have HOF := Lib.hid (HY.out hok)
      obtain ⟨A, hA⟩ : ∃ A, A = pA l 10 := ⟨_, rfl⟩
      obtain ⟨B, hB⟩ : ∃ A, A = pB l 10 := ⟨_, rfl⟩
      obtain ⟨C, hC⟩ : ∃ A, A = pC l 10 := ⟨_, rfl⟩
      rw [← hA, ← hB, ← hC] at HOF
      rw [← hA] at q0
      rw [← hB] at q1
      rw [← hC] at q2
      have ea : (pAt 10 : Nat) = 2 := rfl
      rw [ea]
      clear ho hb hok HST bd hA hB hC ea HN HY
      go_wp2_with fail
      refine (HOF.out _).mono ?_
      rintro e w2 ⟨rfl, b2⟩
      have B2 := Lib.hid (HB.out.trans (b2.mono HB.out.size))
      clear b2
      go_wp2_with fail
      go_ret2
      exact ⟨rfl, B2.out⟩

/-- The reference's Parse of a text in the form of a date. -/
theorem rdparse_exact (s : ByteArray) (h10 : s.size = 10) (hd : dayQ s.data.toList = true) : ∃ v q : Int, (∀ w, Calls Tryz.prog 31 #[.string s] w (NumQ w v q)) ∧
    (∀ day, datV s.data.toList = some day → v = (day : Int) ∧ q = 0) ∧ (datV s.data.toList = none → q ≠ 0) := by
  have hlen : s.data.toList.length = 10 := by rw [data_len, h10]
  have hok : OkD s.data.toList 10 := by
    obtain ⟨c0, c1, c2, c3, c5, c6, c8, c9, t, e, h0, h1, h2, h3, h5, h6, h8, h9⟩ := dayQ_ten hd
    rw [e] at hlen ⊢
    have dg : ∀ c : UInt8, dgQ c = true → 48 ≤ c.toNat ∧ c.toNat ≤ 57 := fun c hc => by unfold dgQ at hc; simpa using hc
    intro i c hi hc
    match i, hi with
    | 0, _ => injection hc with hc; subst hc; exact dg _ h0
    | 1, _ => injection hc with hc; subst hc; exact dg _ h1
    | 2, _ => injection hc with hc; subst hc; exact dg _ h2
    | 3, _ => injection hc with hc; subst hc; exact dg _ h3
    | 4, _ => injection hc with hc; subst hc; rfl
    | 5, _ => injection hc with hc; subst hc; exact dg _ h5
    | 6, _ => injection hc with hc; subst hc; exact dg _ h6
    | 7, _ => injection hc with hc; subst hc; rfl
    | 8, _ => injection hc with hc; subst hc; exact dg _ h8
    | 9, _ => injection hc with hc; subst hc; exact dg _ h9
  have bd := pBound hlen (Nat.le_refl _) hok
  obtain ⟨v, q, hv, h1, h2⟩ := rof_exact (pA s.data.toList 10) (pB s.data.toList 10) (pC s.data.toList 10)
  have ht : s.data.toList.take 10 = s.data.toList := List.take_of_length_le (by omega)
  have ea : pA s.data.toList 10 = numV (s.data.toList.take 4) := by unfold pA; rw [ht]
  have eb : pB s.data.toList 10 = numV ((s.data.toList.drop 5).take 2) := by unfold pB; rw [ht]
  have ec : pC s.data.toList 10 = numV ((s.data.toList.drop 8).take 2) := by unfold pC; rw [ht]
  refine ⟨v, q, fun w => rdparse_go s w h10 v q (Lib.hid fun k c hk hc hn => absurd (hok k c hk hc) hn) (Lib.hid fun _ W => hv W), ?_, ?_⟩
  · intro day hday
    unfold datV at hday
    dsimp only at hday
    rw [← ea, ← eb, ← ec] at hday
    split at hday
    · rename_i hc
      injection hday with hday
      obtain ⟨e1, e2⟩ := h1 hc
      exact ⟨by rw [e1, hday], e2⟩
    · cases hday
  · intro hday
    unfold datV at hday
    dsimp only at hday
    rw [← ea, ← eb, ← ec] at hday
    split at hday
    · cases hday
    · rename_i hc
      exact h2 hc

end Go.Proofs.YtnmiiimbjojcmaaGreatDoor
