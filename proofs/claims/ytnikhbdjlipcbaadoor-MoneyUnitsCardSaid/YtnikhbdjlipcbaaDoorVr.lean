/-
  The program's integer of an int. No condition. The program's int of an integer. No condition.
-/
import Derived.Test.YtnikhbdjlipcbaaDoorVq
import Derived.WalkLawsBesides
import Derived.Outline
namespace Go.Proofs.YtnikhbdjlipcbaaDoor
open Go.RowKit

theorem decN_small {m : Nat} (h : m < 10) : decN m = [m] := by
  unfold decN
  by_cases h0 : m = 0
  · subst h0; rfl
  · rw [if_neg h0, decL_pos h0, show m / 10 = 0 by omega, decL_zero, show m % 10 = m by omega]
theorem decN_big {m : Nat} (h : 10 ≤ m) : decN m = m % 10 :: decN (m / 10) := by
  unfold decN
  rw [if_neg (by omega), if_neg (by omega), decL_pos (by omega : m ≠ 0)]
/-- The digits so far, and what is left. -/
def OfR (w : World) (N : Nat) (nv : Nat → Value) (a b : Value) (wr : World) : Prop :=
  ∃ (m : Nat) (ds : List Nat), a = nv m ∧ m ≤ N ∧ wr.ownsRow w.heap.size 5 1 b ds.length (bytesD ds) ∧ decN N = ds ++ decN m ∧ Below w.heap.size w wr
theorem ofR_next {N m : Nat} {ds : List Nat} (h : decN N = ds ++ decN m) : (m < 10 → decN N = ds ++ [m % 10]) ∧ (10 ≤ m → decN N = (ds ++ [m % 10]) ++ decN (m / 10)) := by
  constructor
  · intro hm; rw [h, decN_small hm, show m % 10 = m by omega]
  · intro hm; rw [h, decN_big hm]; simp
theorem decN_len19 {N : Nat} (h : N < 10000000000000000000) : (decN N).length ≤ 19 := (decN_len_le N 19 (by omega)).2 (by omega)


set_option maxHeartbeats 4000000 in
set_option maxRecDepth 100000 in
theorem of_pos (N : Nat) (w : World) (hN : N < 9223372036854775807) : Calls Tryd.prog 51 #[.int .i64 ((N : Int))] w (StrPost w (txtZ ((N : Int)))) := by
  obtain ⟨i0, hi, hz0, hz1, hz2⟩ := info_parts infoU8
  have HST : Hid (OfR w N (fun M => .int .i64 ((M : Int))) (.int .i64 ((N : Int))) (.slice none 0 0) w) := ⟨N, [], rfl, Nat.le_refl _, World.ownsRow_nil _ _ _ _, rfl, Below.refl _ _⟩
  have hl19 := decN_len19 (N := N) (by omega)
  have HL19 := Lib.hid hl19

  have t0 : decide ((N : Int) < 0) = false := by simp
  clear hl19
  go_enter Tryd.func51, Tryd.ntmps51
  go_wp2_with fail
  clear t0
  go_loopw [0, 3] (OfR w N (fun M => .int .i64 ((M : Int)))) (fun a _ _ => (intOf a).natAbs)
  case atStart => exact HST.out
  case round =>
    obtain ⟨w1, rfl⟩ : ∃ w1 : World, w1 = wr := ⟨_, rfl⟩
    obtain ⟨m, ds, rfl, hmN, ho, hds, hb⟩ := hrel
    obtain ⟨d, hd⟩ : ∃ d, d = m % 10 := ⟨_, rfl⟩
    obtain ⟨q, hq⟩ : ∃ q, q = m / 10 := ⟨_, rfl⟩
    have hdI : (m : Int) % 10 = (d : Int) := by omega
    have hqI : (m : Int) / 10 = (q : Int) := by omega
    have hd10 : d < 10 := by omega
    have hn1 : (m < 10 → decN N = ds ++ [d]) ∧ (10 ≤ m → decN N = (ds ++ [d]) ++ decN q) := by rw [hd, hq]; exact ofR_next hds
    have hqm : q ≤ N := by omega
    have hqB : q ≤ 922337203685477581 := by omega
    have hq0 : q = 0 ↔ m < 10 := by omega
    have hdl : ds.length ≤ 19 := by have h := congrArg List.length hds; rw [List.length_append] at h; have := HL19.out; omega
    have hqlt : 10 ≤ m → q < m := by omega
    obtain ⟨k, hk⟩ : ∃ k, k = ds.length := ⟨_, rfl⟩
    rw [← hk] at ho hdl
    have HO := Lib.hid ho
    have HB := Lib.hid hb
    have HNX := Lib.hid hn1
    have HQM := Lib.hid hqm
    have HQ0 := Lib.hid hq0
    have HQLT := Lib.hid hqlt
    have HK := Lib.hid hk
    have HD := Lib.hid hd
    have HQ := Lib.hid hq
    clear ho hds hb hn1 hqm hq0 hqlt hk hd hq HST
    go_wp2_with (at_builtin; refine wpList_append1 _ rfl (.tmp 10) (.tmp 17) 66 rfl w.heap.size 5 i0 (.int .u8 0) 1 Tryd.underlying66 hi hz0 hz1 hz2 rfl _ _ _ rfl (HO.out.alloc _) ⟨w1.heap.size, 0, none⟩ 1 (.int .u8 ((48 : Int) + (d : Int))) rfl ?c1 rfl ?c3 ?c4 ?c5 ?_)
    any_goals (first | (with_reducible rfl) | (unfold maxLen; omega) | omega | (have := HB.out.size; omega) | (have := HB.out.size; simp only [World.size_alloc]; omega) | (simp; done))
    all_goals
      intro v1 w2 ho2 hg2 hne2 hpl2
      have n2 : Below w.heap.size w w2 := (HB.out.alloc HB.out.size _).grown hg2 (by have := HB.out.size; simp; omega) (fun k hk => (HO.out.lt k hk).1)
      rw [bytesD_snoc ds d hd10] at ho2
      have HO2 := Lib.hid ho2
      have N2 := Lib.hid n2
      clear ho2 n2 hg2 hne2 hpl2
      by_cases hm : 10 ≤ m
      · have hq1 : 0 < q := by have := HQ0.out; omega
        have hqz : ((q : Int) == 0) = false := by rw [beq_eq_false_iff_ne]; omega
        have HMM := Lib.hid hm
        clear hm
        go_wp2_with fail
        go_roundw
        case rel => exact ⟨q, ds ++ [d], rfl, HQM.out, by rw [List.length_append, List.length_singleton, ← HK.out]; exact HO2.out, HNX.out.2 HMM.out, N2.out⟩
        case measure => have := HQLT.out HMM.out; simp [intOf]; omega
      · have hq1 : q = 0 := HQ0.out.2 (by omega)
        have hds2 := HNX.out.1 (by omega)
        obtain ⟨ds2, hds2'⟩ : ∃ ds2, ds2 = ds ++ [d] := ⟨_, rfl⟩
        rw [← hds2'] at HO2 hds2
        have hk2 : ds2.length = k + 1 := by rw [hds2', List.length_append, List.length_singleton, HK.out]
        subst hq1
        have HD2 := Lib.hid hds2
        have HK2 := Lib.hid hk2
        clear hds2 hds2' hk2 hm
        have hfin : WrC w (N : Int) v1 w2 := by
          rcases rowAt_of_owns HO2.out with ⟨_, h, _⟩ | ⟨g', c', h, hgB, _, _, _, hr⟩
          · omega
          · refine ⟨g', c', (decN N).map dgB, by rw [h, List.length_map, HD2.out, HK2.out], ?_, ?_, by rw [List.length_map, HD2.out, HK2.out]; omega, hgB, N2.out⟩
            · have : bytesD ds2 = bytesV ((decN N).map dgB) := by rw [HD2.out]; rfl
              rw [this] at hr; exact hr
            · rw [txtZ_pos]; simp [txtN]
        have HF := Lib.hid hfin
        clear hfin
        obtain ⟨g5, c5, bs, rfl, hr5, htx, hbl, hg5, hb5⟩ := HF.out
        have HTX := Lib.hid htx
        have HB5 := Lib.hid hb5
        have hrev := reverse_any g5 bs.length c5 bs w2 rfl (by omega) hr5
        have HREV := Lib.hid hrev
        clear hr5 htx hb5 hrev HF
        go_wp2_with fail
        refine HREV.out.mono ?_
        rintro e w6 ⟨⟨v6, rfl⟩, hr6, hg6⟩
        have hcv := conv_row (c := c5) hr6 52 Tryd.underlying52
        rw [List.length_reverse, HTX.out] at hcv
        have hb6 : Below w.heap.size w w6 := below_only HB5.out hg6 HB5.out.size hg5
        have HB6 := Lib.hid hb6
        clear hr6 hg6 hb6
        go_wp2_with fail
        go_ret
        exact ⟨rfl, HB6.out⟩


set_option maxHeartbeats 4000000 in
set_option maxRecDepth 100000 in
theorem of_neg (N : Nat) (w : World) (hN0 : 0 < N) (hN : N < 9223372036854775807) : Calls Tryd.prog 51 #[.int .i64 (-(N : Int))] w (StrPost w (txtZ (-(N : Int)))) := by
  obtain ⟨i0, hi, hz0, hz1, hz2⟩ := info_parts infoU8
  have HST : Hid (OfR w N (fun M => .int .i64 (-(M : Int))) (.int .i64 (-(N : Int))) (.slice none 0 0) w) := ⟨N, [], rfl, Nat.le_refl _, World.ownsRow_nil _ _ _ _, rfl, Below.refl _ _⟩
  have hl19 := decN_len19 (N := N) (by omega)
  have HL19 := Lib.hid hl19
  have HN0 := Lib.hid hN0
  have t0 : decide (0 < N) = true := by simp; omega
  clear hl19 hN0
  go_enter Tryd.func51, Tryd.ntmps51
  go_wp2_with fail
  clear t0
  go_loopw [0, 3] (OfR w N (fun M => .int .i64 (-(M : Int)))) (fun a _ _ => (intOf a).natAbs)
  case atStart => exact HST.out
  case round =>
    obtain ⟨w1, rfl⟩ : ∃ w1 : World, w1 = wr := ⟨_, rfl⟩
    obtain ⟨m, ds, rfl, hmN, ho, hds, hb⟩ := hrel
    obtain ⟨d, hd⟩ : ∃ d, d = m % 10 := ⟨_, rfl⟩
    obtain ⟨q, hq⟩ : ∃ q, q = m / 10 := ⟨_, rfl⟩
    have hdI : (-(m : Int)).tmod 10 = -(d : Int) := by rw [Int.neg_tmod, Int.tmod_eq_emod_of_nonneg (by omega)]; omega
    have hqI : (-(m : Int)).tdiv 10 = -(q : Int) := by rw [Int.neg_tdiv, Int.tdiv_eq_ediv_of_nonneg (by omega)]; omega
    have hd10 : d < 10 := by omega
    have hn1 : (m < 10 → decN N = ds ++ [d]) ∧ (10 ≤ m → decN N = (ds ++ [d]) ++ decN q) := by rw [hd, hq]; exact ofR_next hds
    have hqm : q ≤ N := by omega
    have hqB : q ≤ 922337203685477581 := by omega
    have hq0 : q = 0 ↔ m < 10 := by omega
    have hdl : ds.length ≤ 19 := by have h := congrArg List.length hds; rw [List.length_append] at h; have := HL19.out; omega
    have hqlt : 10 ≤ m → q < m := by omega
    obtain ⟨k, hk⟩ : ∃ k, k = ds.length := ⟨_, rfl⟩
    rw [← hk] at ho hdl
    have HO := Lib.hid ho
    have HB := Lib.hid hb
    have HNX := Lib.hid hn1
    have HQM := Lib.hid hqm
    have HQ0 := Lib.hid hq0
    have HQLT := Lib.hid hqlt
    have HK := Lib.hid hk
    have HD := Lib.hid hd
    have HQ := Lib.hid hq
    clear ho hds hb hn1 hqm hq0 hqlt hk hd hq HST
    go_wp2_with (at_builtin; refine wpList_append1 _ rfl (.tmp 10) (.tmp 17) 66 rfl w.heap.size 5 i0 (.int .u8 0) 1 Tryd.underlying66 hi hz0 hz1 hz2 rfl _ _ _ rfl (HO.out.alloc _) ⟨w1.heap.size, 0, none⟩ 1 (.int .u8 ((48 : Int) + (d : Int))) rfl ?c1 rfl ?c3 ?c4 ?c5 ?_)
    any_goals (first | (with_reducible rfl) | (unfold maxLen; omega) | omega | (have := HB.out.size; omega) | (have := HB.out.size; simp only [World.size_alloc]; omega) | (simp; done))
    all_goals
      intro v1 w2 ho2 hg2 hne2 hpl2
      have n2 : Below w.heap.size w w2 := (HB.out.alloc HB.out.size _).grown hg2 (by have := HB.out.size; simp; omega) (fun k hk => (HO.out.lt k hk).1)
      rw [bytesD_snoc ds d hd10] at ho2
      have HO2 := Lib.hid ho2
      have N2 := Lib.hid n2
      clear ho2 n2 hg2 hne2 hpl2
      by_cases hm : 10 ≤ m
      · have hq1 : 0 < q := by have := HQ0.out; omega
        have hqz : ((q : Int) == 0) = false := by rw [beq_eq_false_iff_ne]; omega
        have hqz2 : (-(q : Int) == 0) = false := by rw [beq_eq_false_iff_ne]; omega
        have HMM := Lib.hid hm
        clear hm
        go_wp2_with fail
        go_roundw
        case rel => exact ⟨q, ds ++ [d], rfl, HQM.out, by rw [List.length_append, List.length_singleton, ← HK.out]; exact HO2.out, HNX.out.2 HMM.out, N2.out⟩
        case measure => have := HQLT.out HMM.out; simp [intOf]; omega
      · have hq1 : q = 0 := HQ0.out.2 (by omega)
        have hds2 := HNX.out.1 (by omega)
        obtain ⟨ds2, hds2'⟩ : ∃ ds2, ds2 = ds ++ [d] := ⟨_, rfl⟩
        rw [← hds2'] at HO2 hds2
        have hk2 : ds2.length = k + 1 := by rw [hds2', List.length_append, List.length_singleton, HK.out]
        subst hq1
        have HD2 := Lib.hid hds2
        have HK2 := Lib.hid hk2
        clear hds2 hds2' hk2 hm
        go_wp2_with (at_builtin; refine wpList_append1 _ rfl (.tmp 24) (.tmp 25) 66 rfl w.heap.size 5 i0 (.int .u8 0) 1 Tryd.underlying66 hi hz0 hz1 hz2 rfl _ _ _ rfl (HO2.out.alloc _) ⟨w2.heap.size, 0, none⟩ 1 (.int .u8 45) rfl ?_ rfl ?_ ?_ ?_ ?_)
        any_goals (first | (unfold maxLen; omega) | omega | (have := N2.out.size; omega) | (have := N2.out.size; simp only [World.size_alloc]; omega))
        intro v2 w3 ho4 hg4 hne4 hpl4
        have n3 : Below w.heap.size w w3 := (N2.out.alloc N2.out.size _).grown hg4 (by have := N2.out.size; simp; omega) (fun k hk => (HO2.out.lt k hk).1)
        have hfin : WrC w (-(N : Int)) v2 w3 := by
          rcases rowAt_of_owns ho4 with ⟨_, h, _⟩ | ⟨g', c', h, hgB, _, _, _, hr⟩
          · omega
          · refine ⟨g', c', (decN N).map dgB ++ [45], by rw [h, List.length_append, List.length_map, HD2.out, HK2.out]; rfl, ?_, ?_, by rw [List.length_append, List.length_map, HD2.out, HK2.out]; simp; omega, hgB, n3⟩
            · have : bytesD ds2 ++ [.int .u8 45] = bytesV ((decN N).map dgB ++ [45]) := by rw [HD2.out]; simp [bytesD, bytesV]
              rw [this] at hr; exact hr
            · rw [txtZ_neg HN0.out]; simp [txtN]
        have HF := Lib.hid hfin
        clear ho4 hg4 hne4 hpl4 n3 hfin
        obtain ⟨g5, c5, bs, rfl, hr5, htx, hbl, hg5, hb5⟩ := HF.out
        have HTX := Lib.hid htx
        have HB5 := Lib.hid hb5
        have hrev := reverse_any g5 bs.length c5 bs w3 rfl (by omega) hr5
        have HREV := Lib.hid hrev
        clear hr5 htx hb5 hrev HF
        go_wp2_with fail
        refine HREV.out.mono ?_
        rintro e w6 ⟨⟨v6, rfl⟩, hr6, hg6⟩
        have hcv := conv_row (c := c5) hr6 52 Tryd.underlying52
        rw [List.length_reverse, HTX.out] at hcv
        have hb6 : Below w.heap.size w w6 := below_only HB5.out hg6 HB5.out.size hg5
        have HB6 := Lib.hid hb6
        clear hr6 hg6 hb6
        go_wp2_with fail
        go_ret
        exact ⟨rfl, HB6.out⟩


end Go.Proofs.YtnikhbdjlipcbaaDoor

namespace Go.Proofs.YtnikhbdjlipcbaaDoor
open Go.RowKit

def toR (z : Int) : Int × Int := if -9223372036854775808 ≤ z ∧ z ≤ 9223372036854775807 then (z, 0) else (0, 14)
def ToPost (w : World) (z : Int) (e : Ending) (w' : World) : Prop := e = .returned (.tuple #[.int .i64 (toR z).1, .int .i64 (toR z).2]) ∧ Below w.heap.size w w'
theorem toR_in {z : Int} (h1 : -9223372036854775808 ≤ z) (h2 : z ≤ 9223372036854775807) : toR z = (z, 0) := by unfold toR; rw [if_pos ⟨h1, h2⟩]
theorem toR_out {z : Int} (h : z < -9223372036854775808 ∨ 9223372036854775807 < z) : toR z = (0, 14) := by unfold toR; rw [if_neg (by omega)]
theorem negw (N : Nat) (h : N ≤ 9223372036854775808) : wrap64 (IntKind.u64.wrap (-(N : Int))) = -(N : Int) := by
  unfold wrap64 IntKind.wrap
  simp [IntKind.bits, IntKind.signed]
  omega
def undigV (t : ByteArray) (k : Nat) : Nat := dval (undig (t.data.toList.take k))
def ToR (t : ByteArray) (uv iv : Value) : Prop := ∃ k : Nat, k ≤ t.size ∧ iv = .int .i64 (k : Int) ∧ uv = .int .u64 (undigV t k : Int)
theorem undigV_next (t : ByteArray) (k : Nat) (h : k < t.size) : undigV t (k + 1) = 10 * undigV t k + (t[k].toNat - 48) := by
  unfold undigV
  rw [data_take t k h, dval_undig_snoc]; omega
theorem undigV_lt (t : ByteArray) (k : Nat) (hd : ∀ c ∈ t.data.toList, 48 ≤ c.toNat ∧ c.toNat ≤ 57) (hk : k ≤ 19) : undigV t k < 10 ^ 19 := by
  have h := dval_lt (undig (t.data.toList.take k)) (undig_lt _ fun c hc => hd c (List.mem_of_mem_take hc))
  refine Nat.lt_of_lt_of_le h (Nat.pow_le_pow_right (by omega) ?_)
  unfold undig
  rw [List.length_map, List.length_reverse, List.length_take]; omega

set_option maxHeartbeats 1000000 in
set_option maxRecDepth 100000 in
theorem to_bad (s : ByteArray) (w : World) (hs : s.size ≤ 100000) (h : chkZ s.data.toList ≠ 0) :
    Calls Tryd.prog 23 #[.string s] w fun e w' => e = .returned (.tuple #[.int .i64 0, .int .i64 (chkZ s.data.toList)]) ∧ w = w' := by
  have hc := check_same s w (by omega)
  obtain ⟨E, hE⟩ : ∃ E, E = chkZ s.data.toList := ⟨_, rfl⟩
  rw [← hE] at hc h ⊢
  have HC := Lib.hid hc
  have t1 : (E != 0) = true := by simpa using h
  clear hc hE h
  go_enter Tryd.func23, Tryd.ntmps23
  go_wp2_with fail
  refine HC.out.mono ?_
  rintro e w' ⟨rfl, rfl⟩
  go_wp2_with fail
  go_ret2
  exact ⟨rfl, rfl⟩


set_option maxHeartbeats 4000000 in
set_option maxRecDepth 100000 in
theorem to_pos (s : ByteArray) (N : Nat) (w : World) (hs : s.size ≤ 100000) (hN : s.data.toList = txtN N) (h0 : 0 < s.size) (h1 : ((s[0].toNat : Int) == 45) = false) (HC : Hid (Calls Tryd.prog 45 #[.string s] w fun e w' => e = .returned (.int .i64 0) ∧ w = w')) :
    Calls Tryd.prog 23 #[.string s] w (ToPost w ((N : Int))) := by
  have hln : s.size = (decN N).length := by rw [← data_len, hN, txtN_len]
  have hd : ∀ c ∈ s.data.toList, 48 ≤ c.toNat ∧ c.toNat ≤ 57 := by rw [hN]; exact txtN_dig N
  have hle := decN_len_le N 19 (by omega)
  rw [← hln] at hle
  have hend : s.size ≤ 19 → undigV s s.size = N := fun _ => by
    unfold undigV
    rw [List.take_of_length_le (by rw [data_len]; exact Nat.le_refl _), hN, undig_txtN, dval_decN]
  by_cases hl : s.size ≤ 19
  · have hN19 := hle.1 hl
    have HD := Lib.hid hd
    have HE := Lib.hid (hend hl)
    have HL := Lib.hid hl
    have t19 : decide ((19 : Int) < (s.size : Int)) = false := by simp; omega
    have HT19 := Lib.hid t19
    clear hln hle hend hd hN
    go_enter Tryd.func23, Tryd.ntmps23
    go_wp2_with fail
    refine HC.out.mono ?_
    rintro e w' ⟨rfl, rfl⟩
    go_wp2_with fail
    go_quiet (fail)
    go_upto_region 7 with (fail)

    go_wp2_with fail
    go_loop [7, 26] (ToR s) (fun _ i => s.size - (intOf i).toNat)
    case atStart => exact ⟨0, Nat.zero_le _, rfl, rfl⟩
    case round =>
      obtain ⟨k, hk, rfl, rfl⟩ := hrel
      by_cases hlt : k < s.size
      · obtain ⟨c1, c2⟩ := HD.out s[k] (data_mem s k hlt)
        have hnx := undigV_next s k hlt
        have hb := undigV_lt s (k + 1) HD.out (by have := HL.out; omega)
        obtain ⟨V, hV⟩ : ∃ V, V = undigV s k := ⟨_, rfl⟩
        rw [← hV] at hnx ⊢
        have hVb : V < 1000000000000000000 := by rw [hnx] at hb; omega
        have HNX := Lib.hid hnx
        clear hnx hb hV
        go_wp2_with fail
        go_round
        case rel => exact ⟨k + 1, by omega, by go_num, by rw [HNX.out]; congr 1; omega⟩
        case measure => simp [intOf]; omega
      · obtain rfl : k = s.size := by omega
        rw [HE.out]
        have hN19' : N < 10000000000000000000 := hN19
        clear hN19
        by_cases hc : N ≤ 9223372036854775807
        · have HQ : Hid (toR (N : Int) = ((N : Int), 0)) := toR_in (by omega) (by omega)
          have t3 : decide (9223372036854775807 < N) = false := by simp; omega
          go_wp2_with fail
          go_ret2
          exact ⟨ret_two (by rw [HQ.out]) (by rw [HQ.out]), below_drewN (Below.refl _ _) _⟩
        · have HQ : Hid (toR (N : Int) = (0, 14)) := toR_out (by omega)
          have t3 : decide (9223372036854775807 < N) = true := by simp; omega
          go_wp2_with fail
          go_ret2
          exact ⟨ret_two (by rw [HQ.out]) (by rw [HQ.out]), below_drewN (Below.refl _ _) _⟩
  · have hN19 : 10000000000000000000 ≤ N := by
      have h := fun h => hl (hle.2 h)
      omega
    have t19 : decide ((19 : Int) < (s.size : Int)) = true := by simp; omega
    have t19' : decide (19 < s.size) = true := by simp; omega
    have HQ : Hid (toR ((N : Int)) = (0, 14)) := toR_out (by omega)
    clear hln hle hend hd hN hN19 hl
    go_enter Tryd.func23, Tryd.ntmps23
    go_wp2_with fail
    refine HC.out.mono ?_
    rintro e w' ⟨rfl, rfl⟩
    go_wp2_with fail
    go_quiet (fail)
    go_upto_region 7 with (fail)

    go_wp2_with fail
    go_ret2
    exact ⟨ret_two (by rw [HQ.out]) (by rw [HQ.out]), below_drewN (Below.refl _ _) _⟩


set_option maxHeartbeats 4000000 in
set_option maxRecDepth 100000 in
theorem to_neg (s t : ByteArray) (N : Nat) (w : World) (hs : t.size ≤ 100000) (hN : t.data.toList = txtN N) (h0 : 0 < s.size) (h1 : ((s[0].toNat : Int) == 45) = true) (HTS : Hid (s.extract 1 s.size = t)) (HC : Hid (Calls Tryd.prog 45 #[.string s] w fun e w' => e = .returned (.int .i64 0) ∧ w = w')) :
    Calls Tryd.prog 23 #[.string s] w (ToPost w (-(N : Int))) := by
  have hln : t.size = (decN N).length := by rw [← data_len, hN, txtN_len]
  have hd : ∀ c ∈ t.data.toList, 48 ≤ c.toNat ∧ c.toNat ≤ 57 := by rw [hN]; exact txtN_dig N
  have hle := decN_len_le N 19 (by omega)
  rw [← hln] at hle
  have hend : t.size ≤ 19 → undigV t t.size = N := fun _ => by
    unfold undigV
    rw [List.take_of_length_le (by rw [data_len]; exact Nat.le_refl _), hN, undig_txtN, dval_decN]
  by_cases hl : t.size ≤ 19
  · have hN19 := hle.1 hl
    have HD := Lib.hid hd
    have HE := Lib.hid (hend hl)
    have HL := Lib.hid hl
    have t19 : decide ((19 : Int) < (t.size : Int)) = false := by simp; omega
    have HT19 := Lib.hid t19
    clear hln hle hend hd hN
    go_enter Tryd.func23, Tryd.ntmps23
    go_wp2_with fail
    refine HC.out.mono ?_
    rintro e w' ⟨rfl, rfl⟩
    go_wp2_with fail
    go_quiet (fail)
    go_upto_region 7 with (fail)
    rw [HTS.out]
    go_wp2_with fail
    go_loop [7, 26] (ToR t) (fun _ i => t.size - (intOf i).toNat)
    case atStart => exact ⟨0, Nat.zero_le _, rfl, rfl⟩
    case round =>
      obtain ⟨k, hk, rfl, rfl⟩ := hrel
      by_cases hlt : k < t.size
      · obtain ⟨c1, c2⟩ := HD.out t[k] (data_mem t k hlt)
        have hnx := undigV_next t k hlt
        have hb := undigV_lt t (k + 1) HD.out (by have := HL.out; omega)
        obtain ⟨V, hV⟩ : ∃ V, V = undigV t k := ⟨_, rfl⟩
        rw [← hV] at hnx ⊢
        have hVb : V < 1000000000000000000 := by rw [hnx] at hb; omega
        have HNX := Lib.hid hnx
        clear hnx hb hV
        go_wp2_with fail
        go_round
        case rel => exact ⟨k + 1, by omega, by go_num, by rw [HNX.out]; congr 1; omega⟩
        case measure => simp [intOf]; omega
      · obtain rfl : k = t.size := by omega
        rw [HE.out]
        have hN19' : N < 10000000000000000000 := hN19
        clear hN19
        by_cases hc : N ≤ 9223372036854775808
        · have HQ : Hid (toR (-(N : Int)) = (-(N : Int), 0)) := toR_in (by omega) (by omega)
          have t3 : decide (9223372036854775808 < N) = false := by simp; omega
          have HW : Hid (wrap64 (IntKind.u64.wrap (-(N : Int))) = -(N : Int)) := negw N hc
          go_wp2_with fail
          go_ret2
          exact ⟨ret_two (by rw [HQ.out]; exact HW.out) (by rw [HQ.out]), below_drewN (Below.refl _ _) _⟩
        · have HQ : Hid (toR (-(N : Int)) = (0, 14)) := toR_out (by omega)
          have t3 : decide (9223372036854775808 < N) = true := by simp; omega
          go_wp2_with fail
          go_ret2
          exact ⟨ret_two (by rw [HQ.out]) (by rw [HQ.out]), below_drewN (Below.refl _ _) _⟩
  · have hN19 : 10000000000000000000 ≤ N := by
      have h := fun h => hl (hle.2 h)
      omega
    have t19 : decide ((19 : Int) < (t.size : Int)) = true := by simp; omega
    have t19' : decide (19 < t.size) = true := by simp; omega
    have HQ : Hid (toR (-(N : Int)) = (0, 14)) := toR_out (by omega)
    clear hln hle hend hd hN hN19 hl
    go_enter Tryd.func23, Tryd.ntmps23
    go_wp2_with fail
    refine HC.out.mono ?_
    rintro e w' ⟨rfl, rfl⟩
    go_wp2_with fail
    go_quiet (fail)
    go_upto_region 7 with (fail)
    rw [HTS.out]
    go_wp2_with fail
    go_ret2
    exact ⟨ret_two (by rw [HQ.out]) (by rw [HQ.out]), below_drewN (Below.refl _ _) _⟩


theorem to_ok (s : ByteArray) (z : Int) (w : World) (hs : s.size ≤ 100000) (hz : s.data.toList = txtZ z) (hb : bigZ z = false) : Calls Tryd.prog 23 #[.string s] w (ToPost w z) := by
  have hc := check_same s w (by omega)
  rw [hz, chkZ_txtZ, hb] at hc
  simp only [Bool.false_eq_true, if_false] at hc
  by_cases h : z < 0
  · have e : txtZ z = 45 :: txtN z.natAbs := by unfold txtZ; rw [if_pos h]
    have h0 : 0 < s.size := by rw [← data_len, hz, e]; simp
    have h1 : ((s[0].toNat : Int) == 45) = true := by
      have := data_head s h0
      rw [hz, e] at this
      injection this with this
      rw [← this]; rfl
    have ht : (s.extract 1 s.size).data.toList = txtN z.natAbs := by rw [tail_data, hz, e]; rfl
    have := to_neg s (s.extract 1 s.size) z.natAbs w (by simp; omega) ht h0 h1 rfl (Lib.hid hc)
    rwa [show -((z.natAbs : Nat) : Int) = z by omega] at this
  · have e : txtZ z = txtN z.natAbs := by unfold txtZ; rw [if_neg h]
    have h0 : 0 < s.size := by rw [← data_len, hz, e]; exact List.length_pos_iff.2 (txtN_ne _)
    have h1 : ((s[0].toNat : Int) == 45) = false := by
      have := data_head s h0
      rw [hz, e] at this
      rw [beq_eq_false_iff_ne]
      intro h2
      have h3 := u8_eq (c := s[0]) (n := 45) h2 (by omega)
      rw [h3] at this
      exact txtN_head _ this
    have := to_pos s z.natAbs w hs (by rw [hz, e]) h0 h1 (Lib.hid hc)
    rwa [show ((z.natAbs : Nat) : Int) = z by omega] at this

end Go.Proofs.YtnikhbdjlipcbaaDoor
