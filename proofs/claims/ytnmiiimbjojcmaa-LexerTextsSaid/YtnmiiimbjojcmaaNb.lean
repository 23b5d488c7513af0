/-
  The program's write. No condition.
-/
import Derived.Test.YtnmiiimbjojcmaaNa
namespace Go.Proofs.Ytnmiiimbjojcmaa
open Go.RowKit

/-- What write hands back. -/
def WritePost (w : World) (z : Int) (e : Ending) (w' : World) : Prop :=
  ((bigZ z = true ∧ e = .returned (.tuple #[.string ByteArray.empty, .int .i64 14])) ∨ (bigZ z = false ∧ e = .returned (.tuple #[.string ⟨(txtZ z).toArray⟩, .int .i64 0]))) ∧ Below w.heap.size w w'
def bytesD (ds : List Nat) : List Value := bytesV (ds.map dgB)
theorem bytesD_length (ds : List Nat) : (bytesD ds).length = ds.length := by simp [bytesD, bytesV]
theorem bytesD_snoc (ds : List Nat) (d : Nat) (h : d < 10) : bytesD ds ++ [.int .u8 ((48 : Int) + (d : Int))] = bytesD (ds ++ [d]) := by
  have : ((dgB d).toNat : Int) = (48 : Int) + (d : Int) := by rw [dgB_toNat h]; omega
  unfold bytesD bytesV
  simp [this]
theorem bytesD_get (ds : List Nat) (i : Nat) (hi : i < ds.length) (h : ∀ x ∈ ds, x < 10) : (bytesD ds)[i]? = some (.int .u8 ((48 : Int) + ((ds.getD i 0 : Nat) : Int))) := by
  unfold bytesD bytesV
  have h1 : ds.getD i 0 < 10 := digD_lt ds i h
  have : ((dgB (ds.getD i 0)).toNat : Int) = (48 : Int) + ((ds.getD i 0 : Nat) : Int) := by rw [dgB_toNat h1]; omega
  rw [← this, List.getD_eq_getElem?_getD, List.getElem?_eq_getElem hi]
  simp [hi]
theorem bytesD_take (ds : List Nat) (k : Nat) : (bytesD ds).take k = bytesD (ds.take k) := by simp [bytesD, bytesV, List.map_take]

def WrO (w W0 : World) (l : List Nat) (n : Nat) (bv iv : Value) (wr : World) : Prop :=
  ∃ (k : Nat) (ds : List Nat), k ≤ n ∧ iv = .int .i64 k ∧ wr.ownsRow W0.heap.size 5 1 bv ds.length (bytesD ds) ∧ WrAt l ds k ∧ Below W0.heap.size W0 wr ∧ Below w.heap.size w wr
def WrJ (w W0 : World) (l : List Nat) (k : Nat) (bv tv jv : Value) (wr : World) : Prop :=
  ∃ (i t : Nat) (ds : List Nat), i ≤ 9 ∧ jv = .int .i64 i ∧ tv = .int .u32 t ∧ t < 1000000000 ∧ wr.ownsRow W0.heap.size 5 1 bv ds.length (bytesD ds) ∧ WrIn l ds k i t ∧ Below W0.heap.size W0 wr ∧ Below w.heap.size w wr
def WrT (g c : Nat) (ds : List Nat) (bv : Value) : Prop := ∃ k : Nat, 1 ≤ k ∧ k ≤ ds.length ∧ bv = .slice (some ⟨g, 0, none⟩) k c ∧ dval (ds.take k) = dval ds

/-- The bytes, the last one first. -/
def WrC (w : World) (z : Int) (v : Value) (wx : World) : Prop :=
  ∃ g c bs, v = .slice (some ⟨g, 0, none⟩) (bs : List UInt8).length c ∧ RowAt wx g 5 (bytesV bs) ∧ bs.reverse = txtZ z ∧ bs.length ≤ 460000 ∧ w.heap.size ≤ g ∧ Below w.heap.size w wx
theorem conv_row {w : World} {g c : Nat} {l : List UInt8} (h : RowAt w g 5 (bytesV l)) (dst : TypeId) (hd : Try.prog.underlying dst = some .string) :
    (convert 45 dst (.slice (some ⟨g, 0, none⟩) l.length c)).run Try.prog w = .ok (.string ⟨l.toArray⟩) w :=
  run_convert_bytes_back (P := Try.prog) w 45 dst 5 ⟨g, 0, none⟩ c l Try.underlying45 Try.underlying5 hd (fun j hj => by
    rw [add_plain, Nat.zero_add, h.cell (by rw [bytesV_length]; exact hj), bytesV_get l j hj])

set_option maxHeartbeats 2000000 in
set_option maxRecDepth 100000 in
theorem write_any (neg : Bool) (a : Option Addr) (n c N : Nat) (l : List Nat) (w : World) (hl : l.length = n) (hn : n ≤ 50000) (hr : Rep l N) (ha : Nums .u32 w a l) :
    Calls Try.prog 47 #[.agg #[.bool neg, .slice a n c]] w (WritePost w (if neg = true then -(N : Int) else (N : Int))) := by
  obtain ⟨i0, hi, hz0, hz1, hz2⟩ := info_parts infoU8
  obtain ⟨z, hz⟩ : ∃ z, z = (if neg = true then -(N : Int) else (N : Int)) := ⟨_, rfl⟩
  rw [← hz]
  have HZ := Lib.hid hz
  have HL := Lib.hid hl
  have HR := Lib.hid hr
  have HA := Lib.hid ha
  clear hz hl hr ha
  by_cases h0 : n < 1
  · have hz0' : z = 0 := by
      have hN : N = 0 := by
        have h1 := HR.out.2.2
        rw [List.eq_nil_of_length_eq_zero (l := l) (by have := HL.out; omega)] at h1
        simpa [val] using h1.symm
      rw [HZ.out, hN]; cases neg <;> rfl
    have t1 : ((n : Int) == 0) = true := by rw [beq_iff_eq]; omega
    have hzb : bigZ z = false := by rw [hz0']; rfl
    have HZB := Lib.hid hzb
    have HZ0 := Lib.hid hz0'
    clear hz0' hzb
    go_enter Try.func47, Try.ntmps47
    go_wp2_with fail
    go_ret2
    exact ⟨.inr ⟨HZB.out, by rw [HZ0.out]; rfl⟩, (Below.refl _ _).alloc (Nat.le_refl _) _⟩
  · have t1 : ((n : Int) == 0) = false := by rw [beq_eq_false_iff_ne]; omega
    obtain ⟨W0, hW0⟩ : ∃ W0, W0 = w.alloc (.cells #[.bool neg, .slice a n c] 85) := ⟨_, rfl⟩
    have hbx := rowAt_alloc (w := w) (c := #[.bool neg, .slice a n c]) (t := 85) rfl rfl
    rw [← hW0] at hbx
    have hsz : w.heap.size < W0.heap.size := hbx.lt
    have hb0 : Below w.heap.size w W0 := by rw [hW0]; exact (Below.refl _ _).alloc (Nat.le_refl _) _
    have hNp : 0 < N := by
      have h1 := HR.out
      rw [← h1.2.2]
      refine val_pos l h1.2.1 (fun h => ?_)
      have := HL.out
      rw [h] at this; simp at this; omega
    have hst : WrO w W0 l n (.slice none 0 0) (.int .i64 0) W0 := ⟨0, [], Nat.zero_le _, rfl, World.ownsRow_nil _ _ _ _, wr_start l, Below.refl _ _, hb0⟩
    have HST := Lib.hid hst
    have HBX := Lib.hid hbx
    have HB0 := Lib.hid hb0
    have HW0 := Lib.hid hW0
    have HNP := Lib.hid hNp
    clear hst hbx hb0 hW0 hNp
    go_enter Try.func47, Try.ntmps47
    go_wp2_with fail
    rw [← HW0.out]
    go_loopw [4, 14] (WrO w W0 l n) (fun _ i _ => n - (intOf i).toNat)
    case atStart => exact HST.out
    case round =>
      obtain ⟨w1, rfl⟩ : ∃ w1 : World, w1 = wr := ⟨_, rfl⟩
      obtain ⟨k, ds, hkn, rfl, ho, hat, hb1, hb2⟩ := hrel
      have HO := Lib.hid ho
      have HT := Lib.hid hat
      have HB1 := Lib.hid hb1
      have HB2 := Lib.hid hb2
      clear ho hat hb1 hb2 HST
      by_cases hlt : k < n
      · obtain ⟨g, og, rfl, hg, hc⟩ := HA.out.below HB2.out k (by have := HL.out; omega)
        obtain ⟨x, hx⟩ : ∃ x, x = l.getD k 0 := ⟨_, rfl⟩
        rw [← hx] at hc
        have hxb : x < 1000000000 := by rw [hx]; exact getD_lt l k HR.out.1
        have hst : WrJ w W0 l k u4 (.int .u32 x) (.int .i64 0) w1 := ⟨0, x, ds, by omega, rfl, rfl, hxb, HO.out, by rw [hx]; exact wr_in l ds k HR.out.1 HT.out, HB1.out, HB2.out⟩
        have HST2 := Lib.hid hst
        clear hst hx HO HT
        go_wp2_with fail
        go_loopw [4, 6, 18] (WrJ w W0 l k) (fun _ _ j _ => 9 - (intOf j).toNat)
        case atStart => exact HST2.out
        case round =>
          obtain ⟨w2, rfl⟩ : ∃ w2 : World, w2 = wr := ⟨_, rfl⟩
          obtain ⟨i, t, ds, hi9, rfl, rfl, htb, ho, hat, hb1, hb2⟩ := hrel
          have HO := Lib.hid ho
          have HT := Lib.hid hat
          have HB3 := Lib.hid hb1
          have HB4 := Lib.hid hb2
          have hdl : ds.length ≤ 450009 := by have := hat.1; omega
          clear ho hat hb1 hb2 HST2
          by_cases hlt2 : i < 9
          · have hstp := wr_step l ds k i t hlt2 HT.out
            obtain ⟨d, hd⟩ : ∃ d, d = t % 10 := ⟨_, rfl⟩
            obtain ⟨q, hq⟩ : ∃ q, q = t / 10 := ⟨_, rfl⟩
            rw [← hd, ← hq] at hstp
            have hdI : (t : Int) % 10 = (d : Int) := by omega
            have hqI : (t : Int) / 10 = (q : Int) := by omega
            have hdb : d < 10 := by omega
            have hqb : q < 1000000000 := by omega
            have HSTP := Lib.hid hstp
            have HDI := Lib.hid hdI
            have HQI := Lib.hid hqI
            obtain ⟨m, hm⟩ : ∃ m, m = ds.length := ⟨_, rfl⟩
            have HO' := HO.out
            rw [← hm] at HO' hdl
            have HO2 := Lib.hid HO'
            have HM := Lib.hid hm
            clear hstp hd hq hqI HO' HO hm
            go_wp2_with (at_builtin; refine wpList_append1 _ rfl (.tmp 20) (.tmp 25) 45 rfl W0.heap.size 5 i0 (.int .u8 0) 1 Try.underlying45 hi hz0 hz1 hz2 rfl _ _ _ rfl (HO2.out.alloc _) ⟨w2.heap.size, 0, none⟩ 1 (.int .u8 ((48 : Int) + (d : Int))) rfl ?c1 rfl ?c3 ?c4 ?c5 ?_)
            case c1 => simp
            case c3 => unfold maxLen; omega
            case c4 => omega
            case c5 => have := HB3.out.size; simp; omega
            intro v3 w3 ho3 hg3 hne3 hpl3
            have n3 : Below W0.heap.size W0 w3 := (HB3.out.alloc HB3.out.size _).grown hg3 (by have := HB3.out.size; simp; omega) (fun k hk => (HO2.out.lt k hk).1)
            have n4 : Below w.heap.size w w3 := (HB4.out.alloc HB4.out.size _).grown hg3 (by have := HB4.out.size; simp; omega) (fun k hk => by have := (HO2.out.lt k hk).1; omega)
            rw [bytesD_snoc ds d hdb] at ho3
            have HO3 := Lib.hid ho3
            have N3 := Lib.hid n3
            have N4 := Lib.hid n4
            clear ho3 hg3 hne3 hpl3 n3 n4 hdI
            go_wp2_with fail
            go_roundw
            case rel => exact ⟨i + 1, q, ds ++ [d], by omega, by go_num, by rw [HQI.out], by omega, by rw [List.length_append, ← HM.out]; exact HO3.out, HSTP.out, N3.out, N4.out⟩
            case measure => simp [intOf] <;> omega
          · obtain rfl : i = 9 := by omega
            have hout := wr_out l ds k t HT.out
            have HOUT := Lib.hid hout
            clear hout
            go_wp2_with fail
            go_roundw
            case rel => exact ⟨k + 1, ds, by omega, by go_num, HO.out, HOUT.out, HB3.out, HB4.out⟩
            case measure => simp [intOf] <;> omega
      · obtain rfl : k = n := by omega
        have hdv : dval ds = N := by rw [HT.out.2.2, List.take_of_length_le (by have := HL.out; omega)]; exact HR.out.2.2
        have hdl : ds.length = 9 * k := HT.out.1
        have hd10 := HT.out.2.1
        rcases rowAt_of_owns HO.out with ⟨_, hz, _⟩ | ⟨g, cb, rfl, hg, hcb, hcm, _, hrow⟩
        · omega
        obtain ⟨m, hm⟩ : ∃ m, m = ds.length := ⟨_, rfl⟩
        rw [← hm] at hdl
        have HO' := HO.out
        rw [← hm] at HO' hcb ⊢
        have HO2 := Lib.hid HO'
        have HROW := Lib.hid hrow
        have HDV := Lib.hid hdv
        have HD10 := Lib.hid hd10
        have HM := Lib.hid hm
        have hm1 : 1 ≤ m := by omega
        have hm2 : m ≤ 450000 := by omega
        clear HO HO' hrow hdv hd10 hdl hm
        go_wp2_with fail
        go_loop [4] (WrT g cb ds) (fun v => match v with | .slice _ k _ => k | _ => 0)
        case atStart => exact ⟨m, hm1, by rw [HM.out]; omega, rfl, by rw [HM.out, List.take_of_length_le (Nat.le_refl _)]⟩
        case round =>
          obtain ⟨e, he1, he2, rfl, hv⟩ := hrel
          rw [← HM.out] at he2
          obtain ⟨j, rfl⟩ : ∃ j, e = j + 1 := ⟨e - 1, by omega⟩
          have HV := Lib.hid hv
          have hce : w1.cell? ⟨g, j, none⟩ = some (.int .u8 ((48 : Int) + ((ds.getD j 0 : Nat) : Int))) := by
            rw [HROW.out.cell (by rw [bytesD_length, ← HM.out]; omega)]
            exact bytesD_get ds j (by rw [← HM.out]; omega) HD10.out
          obtain ⟨y, hy⟩ : ∃ y, y = ds.getD j 0 := ⟨_, rfl⟩
          rw [← hy] at hce
          have hyb : y < 10 := by rw [hy]; exact digD_lt ds j HD10.out
          have HY := Lib.hid hy
          clear hv hy
          by_cases hy0 : y < 1
          · have hst := dtrim_step ds j HV.out (by rw [← HY.out]; omega)
            have t2 : (((48 : Int) + (y : Int)) == 48) = true := by rw [beq_iff_eq]; omega
            have hj1 : 1 ≤ j := by
              rcases Nat.eq_zero_or_pos j with h | h
              · exfalso
                rw [h] at hst
                have := HNP.out
                rw [HDV.out] at hst
                simp [dval] at hst; omega
              · exact h
            have HSTP := Lib.hid hst
            clear hst
            go_wp2_with fail
            go_round
            case rel => exact ⟨j, hj1, by rw [← HM.out]; omega, rfl, HSTP.out⟩
            case measure => simp
          · have t2 : (((48 : Int) + (y : Int)) == 48) = false := by rw [beq_eq_false_iff_ne]; omega
            have htop := (top_dig ds j (by rw [← HM.out]; omega) HD10.out HV.out (by rw [← HY.out]; omega)).1
            rw [HDV.out] at htop
            have hlen : (decN N).length = j + 1 := by rw [htop, List.length_take, ← HM.out]; omega
            have hbz : bigZ z = decide (1000 < j + 1) := by
              unfold bigZ
              rw [HZ.out]
              cases neg
              · simp [hlen]
              · simp [hlen]
            have HTOP := Lib.hid htop
            have HBZ := Lib.hid hbz
            clear htop hlen hbz
            by_cases hbig : 1000 < j + 1
            · have e : bigZ z = true := by rw [HBZ.out]; simpa using hbig
              have E := Lib.hid e
              have t3 : decide ((1000 : Int) < (j : Int) + 1) = true := by simp; omega
              clear e
              go_wp2_with fail
              go_ret2
              exact ⟨.inl ⟨E.out, rfl⟩, HB2.out⟩
            · have e : bigZ z = false := by rw [HBZ.out]; simpa using hbig
              have E := Lib.hid e
              have t3 : decide ((1000 : Int) < (j : Int) + 1) = false := by simp; omega
              have hneg : w1.cell? ⟨w.heap.size, 0, none⟩ = some (.bool neg) := (HB1.out.cell (p := ⟨w.heap.size, 0, none⟩) hsz).trans (HBX.out.cell (i := 0) (by simp))
              have hown := ownsRow_take HO2.out (show j + 1 ≤ m by omega)
              rw [bytesD_take, ← HTOP.out] at hown
              have HOWN := Lib.hid hown
              clear e hown
              go_upto_if 47 with (fail)
              go_cut [4] (fun v wx => WrC w z v wx)
              case first => as_aux_lemma =>
                have hjl : (decN N).length = j + 1 := by rw [HTOP.out, List.length_take, ← HM.out]; omega
                cases neg with
                | false =>
                  have hfin : WrC w z (.slice (some ⟨g, 0, none⟩) (j + 1) cb) w1 := by
                    refine ⟨g, cb, (decN N).map dgB, by rw [List.length_map, hjl], ?_, ?_, by rw [List.length_map, hjl]; omega, by omega, HB2.out⟩
                    · rcases rowAt_of_owns HOWN.out with ⟨h, _⟩ | ⟨g', c', h, _, _, _, _, hr⟩
                      · injection h with h; cases h
                      · injection h with h; injection h with h; injection h with h
                        subst h; exact hr
                    · rw [HZ.out]; simp [txtZ_pos, txtN]
                  have HF := Lib.hid hfin
                  clear hfin hjl
                  go_wp2_with fail
                  go_meet
                  exact HF.out
                | true =>
                  go_wp2_with (at_builtin; refine wpList_append1 _ rfl (.tmp 48) (.tmp 49) 45 rfl W0.heap.size 5 i0 (.int .u8 0) 1 Try.underlying45 hi hz0 hz1 hz2 rfl _ _ _ rfl (HOWN.out.alloc _) ⟨w1.heap.size, 0, none⟩ 1 (.int .u8 45) rfl ?d1 rfl ?d3 ?d4 ?d5 ?_)
                  case d3 => unfold maxLen; omega
                  case d4 => omega
                  case d5 => have := HB1.out.size; simp; omega
                  intro v4 w4 ho4 hg4 hne4 hpl4
                  have n4 : Below w.heap.size w w4 := (HB2.out.alloc HB2.out.size _).grown hg4 (by have := HB2.out.size; simp; omega) (fun k hk => by have := (HOWN.out.lt k hk).1; omega)
                  have hfin : WrC w z v4 w4 := by
                    rcases rowAt_of_owns ho4 with ⟨_, h, _⟩ | ⟨g', c', h, hgB, _, _, _, hr⟩
                    · omega
                    · refine ⟨g', c', (decN N).map dgB ++ [45], by rw [h, List.length_append, List.length_map, hjl]; rfl, ?_, ?_, by rw [List.length_append, List.length_map, hjl]; simp; omega, by omega, n4⟩
                      · have : bytesD (decN N) ++ [.int .u8 45] = bytesV ((decN N).map dgB ++ [45]) := by simp [bytesD, bytesV]
                        rw [this] at hr; exact hr
                      · have hzn : z = -(N : Int) := by have := HZ.out; simpa using this
                        rw [hzn, txtZ_neg HNP.out]; simp [txtN]
                  have HF := Lib.hid hfin
                  clear ho4 hg4 hne4 hpl4 n4 hfin hjl
                  go_wp2_with fail
                  go_meet
                  exact HF.out
              case rest => as_aux_lemma =>
                obtain ⟨g5, c5, bs, rfl, hr5, htx, hbl, hg5, hb5⟩ := hcut
                have HR5 := Lib.hid hr5
                have HTX := Lib.hid htx
                have HB5 := Lib.hid hb5
                have hlt5 := hr5.lt
                obtain ⟨w5, hw5⟩ : ∃ w5 : World, w5 = wc := ⟨_, rfl⟩
                subst hw5
                have hrev := reverse_any g5 bs.length c5 bs w5 rfl (by omega) hr5
                have HREV := Lib.hid hrev
                clear hr5 htx hb5 hrev hlt5
                go_wp2_with fail
                refine HREV.out.mono ?_
                rintro e w6 ⟨⟨v6, rfl⟩, hr6, hg6⟩
                have hcv := conv_row (c := c5) hr6 62 Try.underlying62
                rw [List.length_reverse, HTX.out] at hcv
                have hb6 : Below w.heap.size w w6 := below_only HB5.out hg6 HB5.out.size hg5
                have HB6 := Lib.hid hb6
                clear hr6 hg6 hb6
                go_wp2_with fail
                go_ret2
                exact ⟨.inr ⟨E.out, rfl⟩, HB6.out⟩

end Go.Proofs.Ytnmiiimbjojcmaa
