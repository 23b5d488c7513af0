/-
  (*out).expr: whole. The reference's list. No condition but lengths.
-/
import Derived.Test.YtdgmpgejemgbbaaGreatDoorOg
namespace Go.Proofs.YtdgmpgejemgbbaaGreatDoor
open Go.RowKit

theorem ex_two {l : List Ex} (h : l.length = 2) : ∃ x0 x1, l = [x0, x1] := by
  match l, h with
  | [x0, x1], _ => exact ⟨x0, x1, rfl⟩
theorem expr_all (Wb : World) (B b : Nat) (m : Value) : ∀ n, ExprC Wb B b m n := by
  intro n
  induction n with
  | zero => intro x cs least l w h; exact h.elim
  | succ n ih =>
    intro x cs least l w h ho h0 h2 he hlen
    obtain ⟨hk, hs⟩ := ho
    obtain ⟨k, r, nm, d, sub⟩ := x
    rcases hk with hk | ⟨hk, d0, d1⟩ | hk | ⟨hk, hsub⟩ | ⟨hk, hz⟩
    · obtain rfl : k = 1 := hk
      exact expr_rat r nm d sub cs least l w h h2 he hlen
    · obtain rfl : k = 2 := hk
      exact expr_fix r nm d sub cs least l w d0 d1 h h2 he hlen
    · obtain rfl : k = 3 := hk
      exact expr_now r nm d sub cs least l w h h2 he hlen
    · obtain ⟨x0, x1, rfl⟩ : ∃ x0 x1, sub = [x0, x1] := ex_two hsub
      have o0 : OkX n x0 := hs x0 (by simp [Ex.sub])
      have o1 : OkX n x1 := hs x1 (by simp [Ex.sub])
      have hl : least = 0 ∨ least = 1 ∨ least = 2 := by omega
      rcases hk with hk | hk | hk
      · obtain rfl : k = 4 := hk
        rcases hl with hl | hl | hl
        · exact expr_op4_0 ih r nm d x0 x1 cs least l w h o0 o1 hl he hlen
        · exact expr_par4_1 ih r nm d x0 x1 cs least l w h o0 o1 hl he hlen
        · exact expr_par4_2 ih r nm d x0 x1 cs least l w h o0 o1 hl he hlen
      · obtain rfl : k = 5 := hk
        rcases hl with hl | hl | hl
        · exact expr_op5_0 ih r nm d x0 x1 cs least l w h o0 o1 hl he hlen
        · exact expr_par5_1 ih r nm d x0 x1 cs least l w h o0 o1 hl he hlen
        · exact expr_par5_2 ih r nm d x0 x1 cs least l w h o0 o1 hl he hlen
      · obtain rfl : k = 6 := hk
        rcases hl with hl | hl | hl
        · exact expr_op6_0 ih r nm d x0 x1 cs least l w h o0 o1 hl he hlen
        · exact expr_op6_1 ih r nm d x0 x1 cs least l w h o0 o1 hl he hlen
        · exact expr_par6_2 ih r nm d x0 x1 cs least l w h o0 o1 hl he hlen
    · exact expr_word ih _ cs least l w hk hs h h2 (by omega) he hlen

/-- What the reference's Expr returns. -/
def RxP (w : World) (t : List UInt8) (e : Ending) (w' : World) : Prop := e = .returned (.string ⟨t.toArray⟩) ∧ Below w.heap.size w w'
def RexC (n : Nat) : Prop := ∀ (x : Ex) (cs : List Value) (w : World), ExAt n w cs x → OkX n x → (rexT n x).length ≤ 2999000 →
    Calls Tryz.prog 17 #[.agg cs.toArray] w (RxP w (rexT n x))
/-- The parts' texts so far. -/
noncomputable def romT (n : Nat) (l : List Ex) (k : Nat) : List UInt8 := commas ((l.take k).map (rexT n))
theorem romT_one (n : Nat) (l : List Ex) (h : 0 < l.length) : romT n l 1 = rexT n l[0] := by
  unfold romT
  rw [List.take_succ_eq_append_getElem h]; simp [commas]
theorem romT_succ (n : Nat) (l : List Ex) (k : Nat) (h : k < l.length) (h0 : 0 < k) : romT n l (k + 1) = romT n l k ++ ([44, 32] ++ rexT n l[k]) := by
  unfold romT
  rw [List.take_succ_eq_append_getElem h, List.map_append, List.map_singleton, commas_snoc, if_neg (by
    intro e
    have e2 := congrArg List.length e
    rw [List.length_map, List.length_take, List.length_nil] at e2
    omega)]
theorem romT_le (n : Nat) (l : List Ex) (k : Nat) : (romT n l k).length ≤ (commas (l.map (rexT n))).length := by
  have e : l.map (rexT n) = (l.take k).map (rexT n) ++ (l.drop k).map (rexT n) := by rw [← List.map_append, List.take_append_drop]
  rw [e]
  exact commas_le _ _
theorem romT_all (n : Nat) (l : List Ex) (k : Nat) (h : l.length ≤ k) : romT n l k = commas (l.map (rexT n)) := by
  unfold romT; rw [List.take_of_length_le h]
theorem ba_eq {s : ByteArray} {l : List UInt8} (h : s.data.toList = l) : s = ⟨l.toArray⟩ := by
  cases s with
  | mk d => simp at h; rw [← h]
theorem ba_size {s : ByteArray} {l : List UInt8} (h : s.data.toList = l) : s.size = l.length := by rw [← h]; simp
def RlsR (n : Nat) (l : List Ex) (w : World) (sv iv : Value) (wr : World) : Prop :=
  ∃ (k : Nat) (s : ByteArray), k ≤ l.length ∧ iv = .int .i64 (k : Int) ∧ sv = .string s ∧ s.size ≤ 3000000 ∧ Hid (s.data.toList = [40] ++ romT n l k) ∧ Below w.heap.size w wr

set_option maxHeartbeats 2000000 in
set_option maxRecDepth 100000 in
theorem rlist_of {n : Nat} (ih : RexC n) (l : List Ex) (a : Option Addr) (len cap : Nat) (w : World) (hl : l.length = len) (hn : len ≤ 1000) (ho : ∀ y ∈ l, OkX n y) (hz : (commas (l.map (rexT n))).length ≤ 2999000)
    (hat : len = 0 ∨ ∃ g o, a = some ⟨g, o, none⟩ ∧ g < w.heap.size ∧ ∀ i (hi : i < l.length), ∃ cs', (∀ j, j < 5 → w.cell? ⟨g, o + i * 5 + j, none⟩ = cs'[j]?) ∧ ExAt n w cs' l[i]) :
    Calls Tryz.prog 36 #[.slice a len cap] w (RxP w ([40] ++ (commas (l.map (rexT n)) ++ [41]))) := by
  have HI := Lib.hid ih
  have HL := Lib.hid hl
  have HO := Lib.hid ho
  have HAT := Lib.hid hat
  have HLE : Hid (∀ k, (romT n l k).length ≤ (commas (l.map (rexT n))).length) := romT_le n l
  have HALL : Hid (∀ k, l.length ≤ k → romT n l k = commas (l.map (rexT n))) := romT_all n l
  obtain ⟨Z, hZ⟩ : ∃ Z, Z = commas (l.map (rexT n)) := ⟨_, rfl⟩
  rw [← hZ] at hz HLE HALL ⊢
  clear ih hl ho hat hZ
  go_enter Tryz.func36, Tryz.ntmps36
  go_wp2_with fail
  go_loopw [3, 4] (fun sv iv wr => RlsR n l w sv iv wr) (fun _ iv _ => len - (intOf iv).toNat)
  case atStart => exact ⟨0, ByteArray.mk #[40], Nat.zero_le _, rfl, rfl, (show (1 : Nat) ≤ 3000000 by decide), Lib.hid (by simp [romT, commas]), Below.refl _ _⟩
  case round =>
    obtain ⟨w1, rfl⟩ : ∃ w1 : World, w1 = wr := ⟨_, rfl⟩
    obtain ⟨k, s, hk, rfl, rfl, hs1, HS, hb⟩ := hrel
    have HB := Lib.hid hb
    have hkl : k ≤ len := by rw [← HL.out]; exact hk
    clear hb hk
    by_cases hlt : k < len
    · have hlt2 : k < l.length := by rw [HL.out]; exact hlt
      rcases HAT.out with h0 | ⟨g, o, ha, hg, hel⟩
      · omega
      · subst ha
        have q1 := HLE.out (k + 1)
        obtain ⟨p1, l1, cc, ⟨e0, e1, e2, e3, e4⟩, hx1⟩ := ExAt.elem (x := Ex.mk 0 ByteArray.empty ByteArray.empty 0 l) hg HB.out hlt2 hel
        have hoy := HO.out _ (List.getElem_mem hlt2)
        simp only [Ex.sub] at e0 e1 e2 e3 hx1
        by_cases hk0 : k = 0
        · subst hk0
          have hT := romT_one n l hlt2
          obtain ⟨y, hy⟩ : ∃ y, y = l[0] := ⟨_, rfl⟩
          rw [← hy] at e0 e1 e2 e3 hx1 hoy hT
          rw [hT] at q1
          obtain ⟨t, ht⟩ : ∃ t : ByteArray, t = ⟨(rexT n y).toArray⟩ := ⟨_, rfl⟩
          have htz : t.data.toList = rexT n y := by rw [ht]
          have hts := ba_size htz
          have hc := HI.out y _ w1 hx1 hoy (by omega)
          unfold RxP at hc
          rw [← ht] at hc
          have HC := Lib.hid hc
          have hsz : s.size + t.size ≤ 3000000 := by
            have := ba_size HS.out
            simp only [List.length_append, List.length_cons, List.length_nil] at this
            have h0 : (romT n l 0).length = 0 := by simp [romT, commas]
            omega
          have HS2 : Hid ((s ++ t).data.toList = [40] ++ romT n l (0 + 1)) := by
            show (s ++ t).data.toList = _
            rw [show romT n l (0 + 1) = romT n l 1 from rfl, hT, ← htz]
            have h0 : romT n l 0 = [] := by simp [romT, commas]
            have := HS.out
            rw [h0] at this
            simp [this]
          simp only [Nat.zero_mul, Nat.add_zero] at e0 e1 e2 e3 e4
          have hst : (s ++ t).size ≤ 3000000 := by simpa using hsz
          have HST := Lib.hid hst
          clear hy hx1 hoy hc hT ht htz q1 hel hts hst
          go_wp2_with fail
          refine HC.out.mono ?_
          rintro e w2 ⟨rfl, hb2⟩
          have HB2 := Lib.hid (HB.out.trans (hb2.mono HB.out.size))
          clear hb2
          go_wp2_with fail
          go_roundw
          case rel => exact ⟨0 + 1, s ++ t, by omega, by go_num, rfl, HST.out, HS2.out, HB2.out⟩
          case measure => simp [intOf] <;> omega
        · have hk1 : 0 < k := by omega
          have hT := romT_succ n l k hlt2 hk1
          obtain ⟨y, hy⟩ : ∃ y, y = l[k] := ⟨_, rfl⟩
          rw [← hy] at e0 e1 e2 e3 hx1 hoy hT
          rw [hT] at q1
          simp only [List.length_append, List.length_cons, List.length_nil] at q1
          obtain ⟨t, ht⟩ : ∃ t : ByteArray, t = ⟨(rexT n y).toArray⟩ := ⟨_, rfl⟩
          have htz : t.data.toList = rexT n y := by rw [ht]
          have hts := ba_size htz
          have hc := HI.out y _ w1 hx1 hoy (by omega)
          unfold RxP at hc
          rw [← ht] at hc
          have HC := Lib.hid hc
          have hsz : s.size + 2 + t.size ≤ 3000000 := by
            have := ba_size HS.out
            simp only [List.length_append, List.length_cons, List.length_nil] at this
            omega
          obtain ⟨s2, hs2⟩ : ∃ s2 : ByteArray, s2 = s ++ ByteArray.mk #[44, 32] := ⟨_, rfl⟩
          have hs2z : s2.size = s.size + 2 := by rw [hs2]; simp [ByteArray.size_append]; rfl
          have HS2 : Hid ((s2 ++ t).data.toList = [40] ++ romT n l (k + 1)) := by
            show (s2 ++ t).data.toList = _
            rw [hT, ← htz, hs2]
            have := HS.out
            simp [this]
          have hst : (s2 ++ t).size ≤ 3000000 := by rw [ByteArray.size_append, hs2z]; exact hsz
          have hs2le : s2.size + t.size ≤ 3000000 := by omega
          have HST := Lib.hid hst
          have HSS := Lib.hid hs2
          have hd : decide ((0 : Int) < (k : Int)) = true := by simp; omega
          clear hy hx1 hoy hc hT ht htz q1 hel hts hst hs2z hs2
          go_wp2_with fail
          rw [← HSS.out]
          refine HC.out.mono ?_
          rintro e w2 ⟨rfl, hb2⟩
          have HB2 := Lib.hid (HB.out.trans (hb2.mono HB.out.size))
          clear hb2
          go_wp2_with fail
          go_roundw
          case rel => exact ⟨k + 1, s2 ++ t, by omega, by go_num, rfl, HST.out, HS2.out, HB2.out⟩
          case measure => simp [intOf] <;> omega
    · have hT := HALL.out k (by rw [HL.out]; omega)
      have HF : Hid (s ++ ByteArray.mk #[41] = ⟨([40] ++ (Z ++ [41])).toArray⟩) := by
        refine ba_eq ?_
        have := HS.out
        rw [hT] at this
        simp [this]
      clear hT
      go_wp2_with fail
      go_ret
      exact ⟨by rw [HF.out]; rfl, HB.out⟩

end Go.Proofs.YtdgmpgejemgbbaaGreatDoor
