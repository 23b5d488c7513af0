/-
  Magnitudes of the program: short, guess. No condition. Magnitudes of the program: divide by what is greater, and by one group. No condition.
-/
import Derived.Test.YtdgmpgejemgbbaaGreatDoorVh
import Derived.IntWalk
import Derived.RegionTactic
namespace Go.Proofs.YtdgmpgejemgbbaaGreatDoor
open Go.RowKit

/-- The quotient and the rest of a division by one group. -/
def ShortPost (w : World) (V d : Nat) (e : Ending) (w' : World) : Prop :=
  ∃ v l, e = .returned (.tuple #[v, .int .u32 ((V % d : Nat) : Int)]) ∧ w'.ownsRow w.heap.size 133 1 v l.length (nums .u32 l) ∧ Rep l (V / d) ∧ Below w.heap.size w w'
def ShR (w : World) (la : List Nat) (d n : Nat) (rv iv : Value) (wr : World) : Prop :=
  ∃ (i rest : Nat) (q : List Nat), i ≤ n ∧ iv = .int .i64 ((i : Int) - 1) ∧ rv = .int .u64 rest ∧ wr.ownsRow w.heap.size 133 1 (.slice (some ⟨w.heap.size, 0, none⟩) n n) n (nums .u32 q) ∧ ShortAt la q d i rest ∧ Below w.heap.size w wr

set_option maxHeartbeats 2000000 in
set_option maxRecDepth 100000 in
theorem short_any (a : Option Addr) (n c d : Nat) (la : List Nat) (w : World) (hla : la.length = n) (hn : n ≤ 900000) (hd1 : 1 ≤ d) (hd2 : d ≤ 1000000000)
    (da : ∀ x ∈ la, x < Bs) (ha : Nums .u32 w a la) :
    Calls Tryz.prog 90 #[.slice a n c, .int .u32 d] w (ShortPost w (val la) d) := by
  obtain ⟨i0, hi, hz0, hz1, hz2⟩ := info_parts infoU32
  have HLA := Lib.hid hla
  have HA := Lib.hid ha
  have DA := Lib.hid da
  clear hla ha da
  go_enter Tryz.func90, Tryz.ntmps90
  go_wp2_with (at_make; refine wpList_make_full _ rfl _ _ 119 rfl w.heap.size 133 i0 (.int .u32 0) 1 Tryz.underlying119 hi hz0 hz1 .i64 .i64 _ _ n rfl rfl ?b0 ?b1 ?b2 ?b3 ?b4 ?_)
  case b0 => rfl
  case b1 => rfl
  case b2 => rw [hz2]; omega
  case b3 => unfold maxLen; omega
  case b4 => exact Nat.le_refl _
  intro w1 ho1 hg1
  rw [nums_zero_made] at ho1
  have hst : ShR w la d n (.int .u64 0) (.int .i64 ((n : Int) - 1)) w1 := ⟨n, 0, List.replicate n 0, Nat.le_refl _, rfl, rfl, ho1, by have := short_start la d hd1; rwa [HLA.out] at this, (Below.refl _ _).grown hg1 (Nat.le_refl _) (fun k hk => by cases hk)⟩
  have HST := Lib.hid hst
  clear ho1 hg1 hst
  go_wp2_with fail
  go_loopw [6, 7] (ShR w la d n) (fun _ i _ => (intOf i + 1).toNat)
  case atStart => exact HST.out
  case round =>
    obtain ⟨i, rest, q, hin, rfl, rfl, ho, hat, hbl⟩ := hrel
    have HO := Lib.hid ho
    have HT := Lib.hid hat
    have HBL := Lib.hid hbl
    clear ho hat hbl HST
    by_cases hi0 : 1 ≤ i
    · obtain ⟨k, rfl⟩ : ∃ k, i = k + 1 := ⟨i - 1, by omega⟩
      rw [show (((k + 1 : Nat) : Int) - 1) = (k : Int) by omega]
      obtain ⟨x, hx⟩ : ∃ x, x = la.getD k 0 := ⟨_, rfl⟩
      obtain ⟨g, og, rfl, hg, hc⟩ := HA.out.below HBL.out k (by have := HLA.out; omega)
      rw [← hx] at hc
      have hx10 : x < 1000000000 := by rw [hx]; exact getD_lt la k DA.out
      have hrd : rest < d := HT.out.2.2.1
      have hstp := short_step la q d k rest (by have := HLA.out; omega) DA.out HT.out
      rw [← hx, Bs_eq] at hstp
      obtain ⟨vv, hvv⟩ : ∃ vv, vv = rest * 1000000000 + x := ⟨_, rfl⟩
      rw [← hvv] at hstp
      have hvI : ((rest : Int) * 1000000000 + (x : Int)) = (vv : Int) := by omega
      have hvb : vv < 1000000000 * d := by omega
      obtain ⟨qq, hqq⟩ : ∃ qq, qq = vv / d := ⟨_, rfl⟩
      obtain ⟨rr, hrr⟩ : ∃ rr, rr = vv % d := ⟨_, rfl⟩
      rw [← hqq, ← hrr] at hstp
      have hqb : qq < 1000000000 := by rw [hqq]; exact Nat.div_lt_of_lt_mul (by rw [Nat.mul_comm]; exact hvb)
      have hrb : rr < d := by rw [hrr]; exact Nat.mod_lt _ hd1
      have hqI : (vv : Int) / (d : Int) = (qq : Int) := by rw [hqq]; simp
      have hrI : (vv : Int) % (d : Int) = (rr : Int) := by rw [hrr]; simp
      have HQI := Lib.hid hqI
      have HRI := Lib.hid hrI
      have HVI := Lib.hid hvI
      have HSTP := Lib.hid hstp
      have hv18 : vv < 1000000000000000000 := by omega
      have wd : IntKind.u64.wrap (d : Int) = (d : Int) := IntWalk.u64_in _ (by omega)
      have wd0 : ((d : Int) = 0) = False := by simp; omega
      have wq : IntKind.u64.wrap ((vv : Int) / (d : Int)) = (qq : Int) := by rw [HQI.out]; exact IntWalk.u64_in _ (by omega)
      have wr1 : IntKind.u64.wrap ((vv : Int) % (d : Int)) = (rr : Int) := by rw [HRI.out]; exact IntWalk.u64_in _ (by omega)
      have w32 : IntKind.u32.wrap (qq : Int) = (qq : Int) := IntWalk.u32_in _ (by omega)
      have hfz : wr.frozen? ⟨w.heap.size, k, none⟩ = false := HO.out.frozenAt k
      obtain ⟨yo, hyo⟩ : ∃ yo : Nat, wr.cell? ⟨w.heap.size, k, none⟩ = some (.int .u32 (yo : Int)) := by
        have hlen : q.length = n := by rw [HT.out.1, HLA.out]
        exact ⟨_, by rw [HO.out.cellAt k (by omega), nums_get _ _ _ (by omega)]⟩
      clear hx hvv hqq hrr hqI hrI hvI hstp hvb
      go_upto_region 7 with (fail)
      rw [HVI.out]
      go_region
      all_goals
        clear wd wd0 wq wr1 w32 hyo hfz
        go_wp2_with fail
        go_roundw
        case rel => exact ⟨k, rr, q.set k qq, by omega, rfl, by rw [HRI.out], by rw [← nums_set]; exact (HO.out.stored k _).1, HSTP.out, (HBL.out.setCell (p := ⟨w.heap.size, k, none⟩) (Nat.le_refl _) _).drew⟩
        case measure => simp [intOf] <;> omega
    · obtain rfl : i = 0 := by omega
      have hv := short_end la q d rest HT.out
      have htr := trim_own HO.out (by omega) HT.out.2.1
      rw [hv.1] at htr
      have HTR := Lib.hid htr
      have hrest := hv.2
      have hrd : rest < d := HT.out.2.2.1
      have HRS := Lib.hid hrest
      clear hv htr hrest
      go_wp2_with fail
      refine HTR.out.mono ?_
      rintro e w' ⟨⟨v2, l2, rfl, ho2, hr2⟩, rfl⟩
      have HO2 := Lib.hid ho2
      have HR2 := Lib.hid hr2
      clear ho2 hr2
      go_wp2_with fail
      go_ret2
      exact ⟨_, l2, by rw [← HRS.out]; rfl, HO2.out, HR2.out, HBL.out⟩

/-- The digit that is guessed. -/
def GsR (t u v y z : Nat) (qv rv : Value) : Prop := ∃ q r : Nat, qv = .int .u64 q ∧ rv = .int .u64 r ∧ t * Bs + u = q * y + r ∧ gss t u v y z ≤ q ∧ q ≤ 2000000000 ∧ r < 1000000000

set_option maxHeartbeats 2000000 in
set_option maxRecDepth 100000 in
theorem guess_any (t u v y z : Nat) (w : World) (ht : t ≤ y) (hu : u < 1000000000) (hv : v < 1000000000) (hz : z < 1000000000) (hy1 : 1 ≤ y) (hy2 : y < 1000000000) :
    Calls Tryz.prog 93 #[.int .u64 t, .int .u64 u, .int .u64 v, .int .u64 y, .int .u64 z] w fun e w' => e = .returned (.int .u64 (gss t u v y z : Nat)) ∧ ∃ q, w' = w.drewN q := by
  obtain ⟨top, htop⟩ : ∃ top, top = t * Bs + u := ⟨_, rfl⟩
  have e0 := htop
  rw [Bs_eq] at e0
  have hI : ((t : Int) * 1000000000 + (u : Int)) = (top : Int) := by omega
  have htb : top < 1000000000000000000 := by omega
  obtain ⟨q0, hq0⟩ : ∃ q, q = top / y := ⟨_, rfl⟩
  obtain ⟨r0, hr0⟩ : ∃ r, r = top % y := ⟨_, rfl⟩
  have hqI : (top : Int) / (y : Int) = (q0 : Int) := by rw [hq0]; simp
  have hrI : (top : Int) % (y : Int) = (r0 : Int) := by rw [hr0]; simp
  have hg0 := guess_start (t := t) (u := u) (v := v) (y := y) (z := z) hy1 hv
  have hb0 := guess_bound (t := t) (u := u) (y := y) hy1 ht hu
  rw [← htop, ← hq0] at hg0 hb0
  have hq2 : q0 ≤ 2000000000 := by have := Bs_eq; omega
  have hr2 : r0 < y := by rw [hr0]; exact Nat.mod_lt _ hy1
  have hst : GsR t u v y z (.int .u64 q0) (.int .u64 r0) := ⟨q0, r0, rfl, rfl, by rw [← htop, hq0, hr0, Nat.mul_comm]; exact (Nat.div_add_mod top y).symm, hg0, hq2, by omega⟩
  have HST := Lib.hid hst
  have HI := Lib.hid hI
  have wq : IntKind.u64.wrap ((top : Int) / (y : Int)) = (q0 : Int) := by rw [hqI]; exact IntWalk.u64_in _ (by omega)
  have wr1 : IntKind.u64.wrap ((top : Int) % (y : Int)) = (r0 : Int) := by rw [hrI]; exact IntWalk.u64_in _ (by omega)
  have wy0 : ((y : Int) = 0) = False := by simp; omega
  have HRI := Lib.hid hrI
  have WQ := Lib.hid wq
  have WR := Lib.hid wr1
  have WY := Lib.hid wy0
  clear htop e0 hq0 hr0 hqI hrI hg0 hb0 hst hI wq wr1 wy0
  go_enter Tryz.func93, Tryz.ntmps93
  go_upto_region 2 with (fail)
  rw [HI.out]
  have wq := WQ.out
  have wr1 := WR.out
  have wy0 := WY.out
  go_quiet (fail)
  clear wq wr1 wy0 htb hq2 hr2
  go_wp2_with fail
  rw [HRI.out]
  obtain ⟨W0, hW0⟩ : ∃ W0, W0 = w.drewN nq := ⟨_, rfl⟩
  rw [← hW0]
  have HW0 := Lib.hid hW0
  clear hW0
  go_loop [12, 13] (fun qv rv => GsR t u v y z qv rv) (fun qv _ => (intOf qv).toNat)
  case atStart => exact HST.out
  case round =>
    obtain ⟨q, r, rfl, rfl, htop, hge, hq2, hr2⟩ := hrel
    have HTOP := Lib.hid htop
    have HGE := Lib.hid hge
    obtain ⟨P, hP⟩ : ∃ P, P = q * z := ⟨_, rfl⟩
    have hPI : (q : Int) * (z : Int) = (P : Int) := by rw [hP]; simp
    obtain ⟨B, hB⟩ : ∃ B : Bool, B = decide (1000000000 ≤ q ∨ r * 1000000000 + v < P) := ⟨_, rfl⟩
    have HP := Lib.hid hP
    have HB := Lib.hid hB
    clear hP hB htop hge HST
    go_upto_region 3 with (fail)
    go_cut [35] (fun s wx => s = .bool B ∧ W0 = wx)
    case first => as_aux_lemma =>
      by_cases hq : 1000000000 ≤ q
      · have e : B = true := by rw [HB.out]; simp; omega
        have E := Lib.hid e
        have tq : decide ((1000000000 : Int) ≤ (q : Int)) = true := by simp; omega
        have HQQ := Lib.hid hq
        clear e hq
        go_wp2_with fail
        go_meet
        exact ⟨by rw [E.out], rfl⟩
      · have hPb : P < 1000000000000000000 := by
          rw [HP.out]
          have : q * z ≤ 999999999 * 999999999 := Nat.mul_le_mul (by omega) (by omega)
          omega
        have tq : decide ((1000000000 : Int) ≤ (q : Int)) = false := by simp; omega
        by_cases hp : r * 1000000000 + v < P
        · have e : B = true := by rw [HB.out]; simp; omega
          have E := Lib.hid e
          have t1 : decide ((r : Int) * 1000000000 + (v : Int) < (P : Int)) = true := by simp; omega
          have HQQ := Lib.hid hq
          have HPP := Lib.hid hp
          clear e hq hp
          go_wp2_with fail
          go_meet
          exact ⟨by rw [E.out], rfl⟩
        · have e : B = false := by rw [HB.out]; simp; omega
          have E := Lib.hid e
          have t1 : decide ((r : Int) * 1000000000 + (v : Int) < (P : Int)) = false := by simp; omega
          have HQQ := Lib.hid hq
          have HPP := Lib.hid hp
          clear e hq hp
          go_wp2_with fail
          go_meet
          exact ⟨by rw [E.out], rfl⟩
    case rest => as_aux_lemma =>
      obtain ⟨rfl, rfl⟩ := hcut
      clear hPI
      cases B with
      | true =>
        have hc : 1000000000 ≤ q ∨ r * 1000000000 + v < P := by have := HB.out; simpa using this.symm
        have hd := guess_down HTOP.out (by rw [Bs_eq, ← HP.out]; exact hc)
        obtain ⟨p, rfl⟩ : ∃ p, q = p + 1 := ⟨q - 1, by omega⟩
        have htop2 : t * Bs + u = p * y + (r + y) := by rw [HTOP.out, Nat.add_mul]; omega
        have HT2 := Lib.hid htop2
        have HD := Lib.hid hd
        have hp1 : ((p + 1 : Nat) : Int) = (p : Int) + 1 := by omega
        rw [hp1]
        clear hc hd htop2 hp1
        by_cases hbr : 1000000000 ≤ r + y
        · have heq := Nat.le_antisymm (Nat.le_of_lt_succ HD.out) (guess_break (t := t) (u := u) (v := v) (y := y) (z := z) hy1 ht hu hz HT2.out (by rw [Bs_eq]; exact hbr))
          have HQ := Lib.hid heq
          have tb : decide ((1000000000 : Int) ≤ (r : Int) + (y : Int)) = true := by simp; omega
          clear heq hbr
          go_wp2_with fail
          go_ret
          exact ⟨by rw [HQ.out]; rfl, nq, HW0.out⟩
        · have tb : decide ((1000000000 : Int) ≤ (r : Int) + (y : Int)) = false := by simp; omega
          have HBR := Lib.hid hbr
          clear hbr
          go_wp2_with fail
          go_round
          case rel => exact ⟨p, r + y, rfl, by congr 1, HT2.out, Nat.le_of_lt_succ HD.out, by omega, by have := HBR.out; omega⟩
          case measure => simp [intOf] <;> omega
      | false =>
        have hc : ¬ (1000000000 ≤ q ∨ r * 1000000000 + v < P) := by have := HB.out; simpa using this.symm
        have heq := Nat.le_antisymm HGE.out (guess_up (t := t) (u := u) (v := v) (y := y) (z := z) hy1 HTOP.out (by rw [Bs_eq]; omega) (by rw [Bs_eq, ← HP.out]; omega))
        have HQ := Lib.hid heq
        clear hc heq
        go_wp2_with fail
        go_ret
        exact ⟨by rw [HQ.out]; rfl, nq, HW0.out⟩

end Go.Proofs.YtdgmpgejemgbbaaGreatDoor

namespace Go.Proofs.YtdgmpgejemgbbaaGreatDoor
open Go.RowKit

theorem rep_ge (l : List Nat) (N : Nat) (h : Rep l N) (hne : l ≠ []) : Bs ^ (l.length - 1) ≤ N := by
  obtain ⟨h1, h2, h3⟩ := h
  obtain ⟨m, x, rfl⟩ : ∃ m x, l = m ++ [x] := ⟨l.dropLast, l.getLast hne, (List.dropLast_concat_getLast hne).symm⟩
  rw [List.getLast?_concat] at h2
  rw [val_snoc] at h3
  have hx : 1 ≤ x := by
    rcases Nat.eq_zero_or_pos x with rfl | h
    · exact absurd rfl h2
    · exact h
  have := Nat.mul_le_mul_left (Bs ^ m.length) hx
  simp; omega
theorem rep_lt (l : List Nat) (N : Nat) (h : Rep l N) : N < Bs ^ l.length := by rw [← h.2.2]; exact val_lt l h.1
theorem Bs_one : 1 < Bs := by decide
theorem rep_len_of (l : List Nat) (N k : Nat) (h : Rep l N) (hk : N < Bs ^ k) : l.length ≤ k := by
  by_cases hne : l = []
  · rw [hne]; simp
  · have h1 := rep_ge l N h hne
    have h2 := (Nat.pow_lt_pow_iff_right Bs_one).1 (Nat.lt_of_le_of_lt h1 hk)
    omega
theorem rep_top (l : List Nat) (N n : Nat) (h : Rep l N) (hn : l.length = n + 1) : 0 < l.getD n 0 := by
  have h2 := h.2.1
  rw [List.getLast?_eq_getElem?, hn, Nat.add_sub_cancel, List.getElem?_eq_getElem (by omega)] at h2
  rw [List.getD_eq_getElem?_getD, List.getElem?_eq_getElem (by omega)]
  simp at h2 ⊢
  omega
theorem rep_single {d : Nat} (h0 : 0 < d) (h : d < Bs) : Rep [d] d := ⟨by simpa using h, by simp; omega, by simp [val]⟩
theorem rep_nil : Rep [] 0 := ⟨by simp, by simp, rfl⟩
theorem rep_of_val {l : List Nat} {M N : Nat} (h : Rep l M) (e : M = N) : Rep l N := e ▸ h
/-- The scaled divisor keeps its length. -/
theorem scale_len (b v : List Nat) (B s n : Nat) (hb : Rep b B) (hn : b.length = n + 1) (hs : s = Bs / (b.getD n 0 + 1)) (hv : Rep v (B * s)) : v.length = n + 1 ∧ 1 ≤ s ∧ s < Bs := by
  have htop := rep_top b B n hb hn
  have hne : b ≠ [] := by intro h; rw [h] at hn; cases hn
  obtain ⟨h1, h2, h3⟩ := scale_ok (s := s) b hb.1 hne (by rw [hn]; exact hs)
  rw [hb.2.2, hn] at h3
  have h4 := rep_len_of v _ _ hv h3
  have h5 : b.length ≤ v.length := rep_len_le v b (B * s) B hv hb (Nat.le_mul_of_pos_right _ h1)
  refine ⟨by omega, h1, ?_⟩
  rw [hs]
  have : Bs / (b.getD n 0 + 1) ≤ Bs / 2 := Nat.div_le_div_left (by omega) (by omega)
  have := Bs_eq
  omega
/-- The start of long division. -/
theorem long_start (b u0 : List Nat) (A B s na nb : Nat) (hA : A < Bs ^ na) (hb : Rep b B) (hnb : b.length = nb + 1) (hs : 1 ≤ s) (hu : val u0 = A * s) (hul : u0.length = na + 1) (hle : nb + 1 ≤ na) :
    val (u0.drop (u0.length - (nb + 1))) < B * s := by
  refine div_top u0 _ _ (by omega) ?_
  have hne : b ≠ [] := by intro h; rw [h] at hnb; cases hnb
  have h1 := rep_ge b B hb hne
  rw [hnb, Nat.add_sub_cancel] at h1
  rw [hu, hul, show na + 1 - (nb + 1) = na - nb by omega]
  have h2 : Bs ^ na = Bs ^ (na - nb) * Bs ^ nb := by rw [← Nat.pow_add]; congr 1; omega
  have h3 := Nat.mul_le_mul_left (Bs ^ (na - nb)) h1
  have h4 : A < Bs ^ (na - nb) * B := by rw [← h2] at h3; omega
  have h5 := (Nat.mul_lt_mul_right (a := s) (by omega)).2 h4
  rw [Nat.mul_assoc] at h5
  exact h5
/-- Copying the rest into the row. -/
def ucp (u left : List Nat) (j i : Nat) : List Nat := u.take j ++ padL left i ++ u.drop (j + i)
theorem ucp_length (u left : List Nat) (j i : Nat) (h : j + i ≤ u.length) : (ucp u left j i).length = u.length := by
  unfold ucp; simp [padL_length]; omega
theorem ucp_start (u left : List Nat) (j : Nat) : ucp u left j 0 = u := by
  unfold ucp; simp [padL]
theorem ucp_step (u left : List Nat) (j i : Nat) (h : j + i < u.length) : (ucp u left j i).set (j + i) (left.getD i 0) = ucp u left j (i + 1) := by
  unfold ucp
  have hl : (u.take j ++ padL left i).length = j + i := by simp [padL_length]; omega
  rw [List.set_append_right _ _ (by omega), hl, Nat.sub_self, List.drop_eq_getElem_cons h, List.set_cons_zero, padL_succ, ← Nat.add_assoc]
  simp
theorem set_set_same (l : List Nat) (i x y : Nat) : (l.set i x).set i y = l.set i y := by simp
theorem scale_bd (b : List Nat) (B s n : Nat) (hb : Rep b B) (hn : b.length = n + 1) (hs : s = Bs / (b.getD n 0 + 1)) : 1 ≤ s ∧ s < Bs := by
  have htop := rep_top b B n hb hn
  have hne : b ≠ [] := by intro h; rw [h] at hn; cases hn
  obtain ⟨h1, h2, h3⟩ := scale_ok (s := s) b hb.1 hne (by rw [hn]; exact hs)
  refine ⟨h1, ?_⟩
  rw [hs]
  have : Bs / (b.getD n 0 + 1) ≤ Bs / 2 := Nat.div_le_div_left (by omega) (by omega)
  have := Bs_eq
  omega

/-- A slice with the numbers of a magnitude. -/
def MagAt (w : World) (v : Value) (N : Nat) : Prop := ∃ a c l, v = .slice a l.length c ∧ l.length ≤ c ∧ Nums .u32 w a l ∧ Rep l N
theorem MagAt.below {w w' : World} {v : Value} {N : Nat} (h : MagAt w v N) (hb : Below w.heap.size w w') : MagAt w' v N := by
  obtain ⟨a, c, l, h1, h2, h3, h4⟩ := h
  exact ⟨a, c, l, h1, h2, h3.below hb, h4⟩
theorem MagAt.of_own {w : World} {B : Nat} {v : Value} {l : List Nat} {N : Nat} (h : w.ownsRow B 133 1 v l.length (nums .u32 l)) (hr : Rep l N) : MagAt w v N := by
  obtain ⟨a, c, rfl, hl, hc, hn⟩ := nums_of_owns h
  exact ⟨a, c, l, rfl, hc, hn, hr⟩
theorem MagNew.at {w : World} {N : Nat} {e : Ending} {w' : World} (h : MagNew w N e w') : ∃ v, e = .returned v ∧ MagAt w' v N ∧ Below w.heap.size w w' := by
  obtain ⟨v, l, h1, h2, h3, h4⟩ := h
  exact ⟨v, h1, MagAt.of_own h2 h3, h4⟩
/-- Quotient and rest are handed back. -/
def QRPost (w : World) (A B : Nat) (e : Ending) (w' : World) : Prop :=
  ∃ v1 v2, e = .returned (.tuple #[v1, v2]) ∧ MagAt w' v1 (A / B) ∧ MagAt w' v2 (A % B) ∧ Below w.heap.size w w'

set_option maxHeartbeats 1000000 in
set_option maxRecDepth 100000 in
theorem divide_small (a b : Option Addr) (n m c d A B : Nat) (la lb : List Nat) (w : World) (hla : la.length = n) (hlb : lb.length = m) (hn : n ≤ 100000) (hm : m ≤ 100000) (hnc : n ≤ c)
    (ra : Rep la A) (rb : Rep lb B) (ha : Nums .u32 w a la) (hb : Nums .u32 w b lb) (hlt : A < B) :
    Calls Tryz.prog 78 #[.slice a n c, .slice b m d] w (QRPost w A B) := by
  have hc := mcmp_any a b n m c d A B la lb w hla hlb (by omega) (by omega) ra rb ha hb
  rw [cmpN_lt hlt] at hc
  have HC := Lib.hid hc
  have HN := Lib.hid ha
  have HR := Lib.hid ra
  have HL := Lib.hid hla
  have HLT := Lib.hid hlt
  clear hc ha hb ra rb hla hlb hlt
  go_enter Tryz.func78, Tryz.ntmps78
  go_wp2_with fail
  refine HC.out.mono ?_
  rintro e w' ⟨rfl, q, hw⟩
  have HW := Lib.hid hw
  clear hw
  go_wp2_with fail
  go_ret2
  refine ⟨.slice none 0 0, .slice a n c, rfl, ⟨none, 0, [], rfl, Nat.le_refl _, Nums.nil _ _ _, ?_⟩, ⟨a, c, la, by rw [HL.out], by rw [HL.out]; exact hnc, by rw [HW.out]; exact HN.out.drewN q, ?_⟩, by rw [HW.out]; exact below_drewN (Below.refl _ _) q⟩
  · rw [Nat.div_eq_of_lt HLT.out]; exact rep_nil
  · rw [Nat.mod_eq_of_lt HLT.out]; exact HR.out

/-- trim of one new group. -/
theorem trim_lit (w : World) (x : Nat) (hx : x < Bs) :
    Calls Tryz.prog 91 #[.slice (some ⟨w.heap.size, 0, none⟩) 1 1] (w.alloc (.cells #[.int .u32 (x : Int)] 133)) fun e w' =>
      (∃ v l, e = .returned v ∧ w'.ownsRow w.heap.size 133 1 v l.length (nums .u32 l) ∧ Rep l x) ∧ w.alloc (.cells #[.int .u32 (x : Int)] 133) = w' := by
  have hlit : (w.alloc (.cells #[.int .u32 (x : Int)] 133)).ownsRow w.heap.size 133 1 (.slice (some ⟨w.heap.size, 0, none⟩) 1 1) 1 (nums .u32 [x]) :=
    World.ownsRow_lit w #[.int .u32 (x : Int)] 1 (Nat.le_refl _) (by unfold maxLen; omega) (by simp)
  have h := trim_own hlit (by omega) (by simpa using hx)
  refine h.mono fun e w' ⟨⟨v, l, e1, e2, e3⟩, e4⟩ => ?_
  subst e4
  exact ⟨⟨v, l, e1, e2, by simpa [val] using e3⟩, rfl⟩

set_option maxHeartbeats 1000000 in
set_option maxRecDepth 100000 in
theorem divide_one (a b : Option Addr) (n c d A B : Nat) (la lb : List Nat) (w : World) (hla : la.length = n) (hlb : lb.length = 1) (hn : n ≤ 100000)
    (ra : Rep la A) (rb : Rep lb B) (ha : Nums .u32 w a la) (hb : Nums .u32 w b lb) (hle : B ≤ A) :
    Calls Tryz.prog 78 #[.slice a n c, .slice b 1 d] w (QRPost w A B) := by
  have hcm := mcmp_any a b n 1 c d A B la lb w hla hlb (by omega) (by omega) ra rb ha hb
  obtain ⟨z, hz, hz0⟩ : ∃ z, z = cmpN A B ∧ 0 ≤ z := ⟨_, rfl, by
    rcases Nat.lt_or_ge B A with h | h
    · rw [cmpN_gt h]; omega
    · rw [cmpN_eq (by omega)]; omega⟩
  rw [← hz] at hcm
  obtain ⟨y, rfl⟩ : ∃ y, lb = [y] := by
    match lb, hlb with
    | [y], _ => exact ⟨y, rfl⟩
  have hy : B = y := by have := rb.2.2; simpa [val] using this.symm
  subst hy
  have hy0 := rep_top [B] B 0 rb rfl
  simp at hy0
  have hyb : B < 1000000000 := rb.1 B (by simp)
  obtain ⟨gb, ob, rfl, hgb, hcb⟩ := hb 0 (by simp)
  simp only [Nat.add_zero, List.getD_cons_zero] at hcb
  have hsh := fun q => short_any a n c B la (w.drewN q) hla (by omega) hy0 (by omega) ra.1 (ha.drewN q)
  rw [ra.2.2] at hsh
  have HC := Lib.hid hcm
  have HS := Lib.hid hsh
  clear hcm ha hb ra rb hla hlb hle hz hsh
  have hyb2 : B < Bs := hyb
  have HYB := Lib.hid hyb2
  clear hyb2
  go_enter Tryz.func78, Tryz.ntmps78
  go_wp2_with fail
  refine HC.out.mono ?_
  rintro e w1 ⟨rfl, q, rfl⟩
  go_wp2_with fail
  refine (HS.out q).mono ?_
  rintro e w2 ⟨v, l, rfl, ho, hr, hb2⟩
  have M1 := Lib.hid (MagAt.of_own ho hr)
  have B2 : Hid (Below w.heap.size w w2) := (below_drewN (Below.refl _ _) q).trans hb2
  have hmod : A % B < B := Nat.mod_lt _ hy0
  obtain ⟨r, hr2⟩ : ∃ r, r = A % B := ⟨_, rfl⟩
  rw [← hr2] at hmod ⊢
  have HR := Lib.hid hr2
  clear ho hr hb2 hr2
  go_wp2_with fail
  refine (trim_lit w2 r (Nat.lt_trans hmod HYB.out)).mono ?_
  rintro e w3 ⟨⟨v3, l3, rfl, ho3, hr3⟩, hw3⟩
  have B3 : Hid (Below w.heap.size w w3) := by rw [← hw3]; exact B2.out.alloc B2.out.size _
  have M3 := Lib.hid (MagAt.of_own ho3 hr3)
  have M13 : Hid (MagAt w3 v (A / B)) := by rw [← hw3]; exact M1.out.below ((Below.refl _ _).alloc (Nat.le_refl _) _)
  clear hw3 ho3 hr3
  go_wp2_with fail
  go_ret2
  exact ⟨v, v3, rfl, M13.out, by rw [← HR.out]; exact M3.out, B3.out⟩

end Go.Proofs.YtdgmpgejemgbbaaGreatDoor
