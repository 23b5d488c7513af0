/-
  slices.stableCmpFunc at ints, and SortStableFunc: a permutation, sorted by the key, equal keys in the order of the values. money.Split: the comparison of two places, SortStableFunc, and the split itself where its arguments are in range.
-/
import Derived.Test.YtnikhbdjlipcbaaGreatDoorWe
import Derived.Test.YtnikhbdjlipcbaaGreatDoorWb
namespace Go.Proofs.YtnikhbdjlipcbaaGreatDoor.Spl
open Go.RowKit

theorem merge_all (key : Int → Int) (N : Int) (g len cap : Nat) (c1 c2 c3 : Value) (w0 : World) (hbig : len ≤ 4611686018427387903) (hK : KeyOK key) (hC : CmpOK key N g #[c1, c2, c3] w0) (n : Nat) :
    MergeSaid key N g len cap c1 c2 c3 w0 n := by
  induction n with
  | zero => intro a m b A X Y Z L w hn _ _ _ hx hy; omega
  | succ n ih =>
    intro a m b A X Y Z L w hn ha hm hb hx hy hlen hL hw hv sX sY st hr
    subst ha; subst hm; subst hb; subst hL
    by_cases h1 : X.length = 1
    · obtain ⟨x, rfl⟩ := List.length_eq_one_iff.1 h1
      exact merge_left key N g len cap A.length _ _ A Y Z x c1 c2 c3 w0 w rfl rfl rfl hlen hbig hK hC hw hv sY (by simpa only [List.append_assoc] using st) hr
    · by_cases h2 : Y.length = 1
      · obtain ⟨y, rfl⟩ := List.length_eq_one_iff.1 h2
        exact merge_right key N g len cap A.length _ _ A X Z y c1 c2 c3 w0 w rfl rfl (by omega) rfl hlen hbig hK hC hw hv sX (by simpa only [List.append_assoc] using st) hr
      · exact merge_big key N g len cap A.length _ _ n A X Y Z c1 c2 c3 w0 w ih hn rfl rfl rfl (by omega) (by omega) hlen hbig hK hC hw hv sX sY st hr

/-- A segment of a list is sorted. -/
def SegS (key : Int → Int) (L : List Int) (lo hi : Nat) : Prop := Srt key ((L.take hi).drop lo)

/-- The blocks before and behind a segment. -/
theorem seg_split (L : List Int) (lo hi : Nat) (h : lo ≤ hi) : L = L.take lo ++ (L.take hi).drop lo ++ L.drop hi := by
  conv => lhs; rw [← List.take_append_drop hi L]
  congr 1
  conv => lhs; rw [← List.take_append_drop lo (L.take hi)]
  rw [List.take_take, Nat.min_eq_left h]
theorem seg_before {key : Int → Int} {A M M' Z : List Int} {lo hi : Nat} (h : SegS key (A ++ M ++ Z) lo hi) (hh : hi ≤ A.length) : SegS key (A ++ M' ++ Z) lo hi := by
  unfold SegS at *
  rw [List.append_assoc, List.take_append_of_le_length hh] at h ⊢
  exact h
theorem seg_behind {key : Int → Int} {A M M' Z : List Int} {lo hi : Nat} (h : SegS key (A ++ M ++ Z) lo hi) (hl : M'.length = M.length) (hh : A.length + M.length ≤ lo) : SegS key (A ++ M' ++ Z) lo hi := by
  unfold SegS at *
  rw [List.drop_take, List.drop_append, List.drop_of_length_le (by simp; omega), List.nil_append] at h ⊢
  simp only [List.length_append] at h ⊢
  rw [hl]
  exact h
theorem seg_here {key : Int → Int} {A M Z : List Int} {lo hi : Nat} (h : Srt key M) (h1 : lo = A.length) (h2 : hi = A.length + M.length) : SegS key (A ++ M ++ Z) lo hi := by
  unfold SegS
  subst h1; subst h2
  rw [List.take_append_of_le_length (by simp), List.take_of_length_le (by simp), List.drop_left]
  exact h
theorem seg_last {key : Int → Int} {A M : List Int} {lo hi : Nat} (h : Srt key M) (h1 : lo = A.length) (h2 : A.length + M.length ≤ hi) : SegS key (A ++ M) lo hi := by
  unfold SegS
  subst h1
  rw [List.take_of_length_le (by simpa using h2), List.drop_left]
  exact h
theorem seg_empty {key : Int → Int} {L : List Int} {lo hi : Nat} (h : L.length ≤ lo) : SegS key L lo hi := by
  unfold SegS
  rw [List.drop_of_length_le (by rw [List.length_take]; omega)]
  exact srt_nil
theorem mult_eq {d p a : Nat} (h1 : d ∣ p) (h2 : d ∣ a) (h3 : a ≤ p) (h4 : p < a + d) : p = a := by
  have := Nat.eq_zero_of_dvd_of_lt (Nat.dvd_sub h1 h2) (by omega)
  omega
theorem mult_le {d p a : Nat} (h1 : d ∣ p) (h2 : d ∣ a) (h3 : p < a) : p + d ≤ a := by
  obtain ⟨x, rfl⟩ := h1
  obtain ⟨y, rfl⟩ := h2
  have : x < y := Nat.lt_of_mul_lt_mul_left h3
  have : d * (x + 1) ≤ d * y := Nat.mul_le_mul_left d this
  rw [Nat.mul_succ] at this
  exact this

/-- What holds of the row through the whole sort. -/
structure RowOK (key : Int → Int) (w : World) (g : Nat) (L0 L : List Int) (wr : World) : Prop where
  perm : L.Perm L0
  stb : Stb key L
  row : RowAt wr g 3 (ints L)
  only : w.grownBy wr (some g)

def StabRel1 (key : Int → Int) (w : World) (g n : Nat) (L0 : List Int) (a b : Value) (wr : World) : Prop :=
  ∃ (p : Nat) (L : List Int), a = .int .i64 p ∧ b = .int .i64 (p + 20 : Nat) ∧ p ≤ n ∧ 20 ∣ p ∧ (∀ q, 20 ∣ q → q < p → SegS key L q (q + 20)) ∧ RowOK key w g L0 L wr
def StabRel2 (key : Int → Int) (w : World) (g n : Nat) (L0 : List Int) (bs : Value) (wr : World) : Prop :=
  ∃ (d : Nat) (L : List Int), bs = .int .i64 d ∧ 1 ≤ d ∧ d ≤ n + n + 20 ∧ (∀ q, d ∣ q → SegS key L q (q + d)) ∧ RowOK key w g L0 L wr
def StabRel3 (key : Int → Int) (w : World) (g n d : Nat) (L0 : List Int) (a b : Value) (wr : World) : Prop :=
  ∃ (p : Nat) (L : List Int), a = .int .i64 p ∧ b = .int .i64 (p + (d + d) : Nat) ∧ p ≤ n ∧ (d + d) ∣ p ∧ (∀ q, (d + d) ∣ q → q < p → SegS key L q (q + (d + d))) ∧ (∀ q, d ∣ q → p ≤ q → SegS key L q (q + d)) ∧ RowOK key w g L0 L wr

theorem seg_split3 (L : List Int) (p d e : Nat) (h : p ≤ d) (h2 : d ≤ e) : L = L.take p ++ (L.take d).drop p ++ (L.take e).drop d ++ L.drop e := by
  conv => lhs; rw [seg_split L d e h2]
  congr 2
  conv => lhs; rw [← List.take_append_drop p (L.take d)]
  rw [List.take_take, Nat.min_eq_left h]

set_option maxHeartbeats 2000000 in
set_option maxRecDepth 100000 in
theorem stable_any (key : Int → Int) (N : Int) (g len cap : Nat) (L0 : List Int) (c1 c2 c3 : Value) (w0 w : World)
    (hlen : L0.length = len) (hbig : len ≤ 1000000) (hK : KeyOK key) (hC : CmpOK key N g #[c1, c2, c3] w0) (hw : w0.grownBy w (some g)) (hv : Valid N L0)
    (hst : Stb key L0) (hr : RowAt w g 3 (ints L0)) :
    Calls Tryz.prog 49 #[.slice (some ⟨g, 0, none⟩) len cap, .int .i64 len, .func (.func 25) #[] #[c1, c2, c3]] w fun e w' =>
      ∃ L, e = .returned (.tuple #[]) ∧ L.Perm L0 ∧ Srt key L ∧ Stb key L ∧ RowAt w' g 3 (ints L) ∧ w.grownBy w' (some g) := by
  have HL := Lib.hid hlen
  have HK := Lib.hid hK
  have HC := Lib.hid hC
  have HW := Lib.hid hw
  have HV := Lib.hid hv
  have hM := Lib.hid (merge_all key N g len cap c1 c2 c3 w0 (by omega) hK hC len)
  have h0 : StabRel1 key w g len L0 (.int .i64 0) (.int .i64 20) w := ⟨0, L0, rfl, rfl, Nat.zero_le _, Nat.dvd_zero _, fun q _ h => absurd h (Nat.not_lt_zero _), List.Perm.refl _, hst, hr, only_refl _ _⟩
  have H0 := Lib.hid h0
  clear hlen hK hC hw hv hst hr h0
  go_enter Tryz.func49, Tryz.ntmps49
  go_wp2_with fail
  go_loopw [7, 8] (StabRel1 key w g len L0) (fun a _ _ => len - (intOf a).toNat)
  case atStart => exact H0.out
  case round =>
    obtain ⟨p, L, rfl, rfl, hp, hd, hseg, ok⟩ := hrel
    have hLl : L.length = len := by rw [ok.perm.length_eq]; exact HL.out
    have HLl := Lib.hid hLl
    have HS := Lib.hid hseg
    have HOK := Lib.hid ok
    clear hLl hseg ok
    by_cases hlt : p + 20 ≤ len
    · have sp := seg_split L p (p + 20) (by omega)
      have l1 : (L.take p).length = p := by have := HLl.out; simp; omega
      have l2 : ((L.take (p + 20)).drop p).length = 20 := by have := HLl.out; simp; omega
      generalize L.take p = A at *
      generalize (L.take (p + 20)).drop p = M at *
      generalize L.drop (p + 20) = Z at *
      have SP := Lib.hid sp
      have L1 := Lib.hid l1
      have L2 := Lib.hid l2
      clear sp l1 l2
      go_wp2_with fail
      refine (insertion_any key N g len cap p (p + 20) A M Z c1 c2 c3 w0 _ L1.out (by rw [L2.out]) (by rw [← SP.out]; exact HLl.out) (by omega) HK.out HC.out (only_trans HW.out HOK.out.only) (by rw [← SP.out]; exact valid_perm HV.out HOK.out.perm) (by rw [← SP.out]; exact HOK.out.stb) (by rw [← SP.out]; exact HOK.out.row)).mono ?_
      rintro e w1 ⟨M', rfl, m1, m2, m3, m4, m5⟩
      have hrel' : Hid (StabRel1 key w g len L0 (.int .i64 (p + 20 : Nat)) (.int .i64 (p + 20 + 20 : Nat)) w1) := by
        have ml := m1.length_eq
        refine ⟨p + 20, A ++ M' ++ Z, rfl, rfl, hlt, Nat.dvd_add hd (Nat.dvd_refl _), fun q hq1 hq2 => ?_, ?_, m3, m4, only_trans HOK.out.only m5⟩
        · by_cases e : q = p
          · subst e
            exact seg_here m2 L1.out.symm (by rw [L1.out, ml, L2.out])
          · have h1 : q < p := by
              rcases Nat.lt_or_ge q p with h | h
              · exact h
              · exact absurd (mult_eq hq1 hd h hq2) e
            have h2 := HS.out q hq1 h1
            rw [SP.out] at h2
            exact seg_before h2 (by rw [L1.out]; exact mult_le hq1 hd h1)
        · refine List.Perm.trans ?_ HOK.out.perm
          rw [SP.out]
          exact List.Perm.append_right _ (List.Perm.append_left _ m1)
      clear m1 m2 m3 m4 m5
      go_wp2_with fail
      go_roundw
      case rel => exact hrel'.out
      case measure => simp [intOf]; omega
    · have sp := seg_split L p len hp
      have l1 : (L.take p).length = p := by have := HLl.out; simp; omega
      have l2 : ((L.take len).drop p).length = len - p := by have := HLl.out; simp; omega
      have l3 : L.drop len = [] := List.drop_of_length_le (by have := HLl.out; omega)
      rw [l3] at sp
      generalize L.take p = A at *
      generalize (L.take len).drop p = M at *
      have SP := Lib.hid sp
      have L1 := Lib.hid l1
      have L2 := Lib.hid l2
      clear sp l1 l2 l3
      go_wp2_with fail
      refine (insertion_any key N g len cap p len A M [] c1 c2 c3 w0 _ L1.out (by rw [L2.out]; omega) (by rw [← SP.out]; exact HLl.out) (by omega) HK.out HC.out (only_trans HW.out HOK.out.only) (by rw [← SP.out]; exact valid_perm HV.out HOK.out.perm) (by rw [← SP.out]; exact HOK.out.stb) (by rw [← SP.out]; exact HOK.out.row)).mono ?_
      rintro e w1 ⟨M', rfl, m1, m2, m3, m4, m5⟩
      have hrel' : Hid (StabRel2 key w g len L0 (.int .i64 20) w1) := by
        have ml := m1.length_eq
        rw [List.append_nil] at m3 m4
        have hl' : (A ++ M').length = len := by rw [List.length_append, L1.out, ml, L2.out]; omega
        refine ⟨20, A ++ M', rfl, by omega, by omega, fun q hq => ?_, ?_, m3, m4, only_trans HOK.out.only m5⟩
        · rcases Nat.lt_or_ge q p with h | h
          · have h2 := HS.out q hq h
            rw [SP.out] at h2
            have h3 := seg_before (M' := M') h2 (by rw [L1.out]; exact mult_le hq hd h)
            rwa [List.append_nil] at h3
          · by_cases e : q < p + 20
            · have := mult_eq hq hd h e
              subst this
              exact seg_last m2 L1.out.symm (by rw [L1.out, ml, L2.out]; omega)
            · exact seg_empty (by rw [hl']; omega)
        · refine List.Perm.trans ?_ HOK.out.perm
          rw [SP.out, List.append_nil]
          exact List.Perm.append_left _ m1
      clear m1 m2 m3 m4 m5 HS HOK SP L1 L2 HLl hlt hd hp H0
      go_wp2_with fail
      go_loopw [6, 7, 8, 9] (fun bs _ _ _ wr => StabRel2 key w g len L0 bs wr) (fun bs _ _ _ _ => len - (intOf bs).toNat)
      case atStart => exact hrel'.out
      case round =>
        obtain ⟨d, L, rfl, hd1, hd2, hseg, ok⟩ := hrel
        have HLl : Hid (L.length = len) := by show _ = _; rw [ok.perm.length_eq]; exact HL.out
        have HS := Lib.hid hseg
        have HOK := Lib.hid ok
        clear hseg ok hrel'
        by_cases hlt : d < len
        · obtain ⟨w1, rfl⟩ : ∃ w1 : World, w1 = wr := ⟨_, rfl⟩
          have h3 : StabRel3 key w g len d L0 (.int .i64 0) (.int .i64 (2 * (d : Int))) w1 := ⟨0, L, rfl, by congr 1; omega, Nat.zero_le _, Nat.dvd_zero _, fun q _ h => absurd h (Nat.not_lt_zero _), fun q hq _ => HS.out q hq, HOK.out⟩
          have H3 := Lib.hid h3
          clear h3 HS HOK HLl
          go_wp2_with fail
          go_loopw [7, 8] (StabRel3 key w g len d L0) (fun a _ _ => len - (intOf a).toNat)
          case atStart => exact H3.out
          case round =>
            obtain ⟨p, L, rfl, rfl, hp, hd, hs1, hs2, ok⟩ := hrel
            have HLl : Hid (L.length = len) := by show _ = _; rw [ok.perm.length_eq]; exact HL.out
            have HS1 := Lib.hid hs1
            have HS2 := Lib.hid hs2
            have HOK := Lib.hid ok
            have hd0 : Hid (d ∣ p) := by show d ∣ p; exact Nat.dvd_trans ⟨2, by omega⟩ hd
            clear hs1 hs2 ok H3
            by_cases hlt2 : p + (d + d) ≤ len
            · have sp := seg_split3 L p (p + d) (p + (d + d)) (by omega) (by omega)
              have sX : Hid (Srt key ((L.take (p + d)).drop p)) := HS2.out p hd0.out (Nat.le_refl _)
              have sY : Hid (Srt key ((L.take (p + (d + d))).drop (p + d))) := by
                have := HS2.out (p + d) (Nat.dvd_add hd0.out (Nat.dvd_refl _)) (by omega)
                unfold SegS at this
                rw [show p + d + d = p + (d + d) by omega] at this
                exact this
              have l1 : (L.take p).length = p := by have := HLl.out; simp; omega
              have l2 : ((L.take (p + d)).drop p).length = d := by have := HLl.out; simp; omega
              have l3 : ((L.take (p + (d + d))).drop (p + d)).length = d := by have := HLl.out; simp; omega
              generalize L.take p = A at *
              generalize (L.take (p + d)).drop p = X at *
              generalize (L.take (p + (d + d))).drop (p + d) = Y at *
              generalize L.drop (p + (d + d)) = Z at *
              have SP := Lib.hid sp
              have L1 := Lib.hid l1
              have L2 := Lib.hid l2
              have L3 := Lib.hid l3
              clear sp l1 l2 l3
              go_wp2_with fail
              refine (hM.out _ _ _ A X Y Z L _ (by rw [L2.out, L3.out]; omega) (by rw [L1.out]) (by rw [L1.out, L2.out]; omega) (by rw [L1.out, L2.out, L3.out]; omega) (by rw [L2.out]; omega) (by rw [L3.out]; omega) HLl.out SP.out (only_trans HW.out HOK.out.only) (valid_perm HV.out HOK.out.perm) sX.out sY.out HOK.out.stb HOK.out.row).mono ?_
              rintro e w1 ⟨M', rfl, m1, m2, m3, m4, m5⟩
              have hrel3 : Hid (StabRel3 key w g len d L0 (.int .i64 (p + (d + d) : Nat)) (.int .i64 (p + (d + d) + (d + d) : Nat)) w1) := by
                have ml := m1.length_eq
                have e1 : L = A ++ (X ++ Y) ++ Z := by rw [SP.out]; simp only [List.append_assoc]
                have ml2 : M'.length = d + d := by rw [ml, List.length_append, L2.out, L3.out]
                refine ⟨p + (d + d), A ++ M' ++ Z, rfl, rfl, hlt2, Nat.dvd_add hd (Nat.dvd_refl _), fun q hq1 hq2 => ?_, fun q hq1 hq2 => ?_, ?_, m3, m4, only_trans HOK.out.only m5⟩
                · by_cases e : q = p
                  · subst e
                    exact seg_here m2 L1.out.symm (by rw [L1.out, ml2])
                  · have h1 : q < p := by
                      rcases Nat.lt_or_ge q p with h | h
                      · exact h
                      · exact absurd (mult_eq hq1 hd h hq2) e
                    have h2 := HS1.out q hq1 h1
                    rw [e1] at h2
                    exact seg_before h2 (by rw [L1.out]; exact mult_le hq1 hd h1)
                · have h2 := HS2.out q hq1 (by omega)
                  rw [e1] at h2
                  exact seg_behind h2 ml (by rw [L1.out, List.length_append, L2.out, L3.out]; omega)
                · refine List.Perm.trans ?_ HOK.out.perm
                  rw [e1]
                  exact List.Perm.append_right _ (List.Perm.append_left _ m1)
              clear m1 m2 m3 m4 m5
              have e4 : (p : Int) + (d + d) + 2 * d = (p + (d + d) + (d + d) : Nat) := by omega
              have E4 := Lib.hid e4
              clear e4
              go_wp2_with fail
              go_roundw
              case rel =>
                have h := hrel3.out
                rw [← E4.out] at h
                simpa using h
              case measure => simp [intOf]; omega
            · by_cases hlt3 : p + d < len
              · have sp := seg_split3 L p (p + d) len (by omega) (by omega)
                have sX : Hid (Srt key ((L.take (p + d)).drop p)) := HS2.out p hd0.out (Nat.le_refl _)
                have sY : Hid (Srt key ((L.take len).drop (p + d))) := by
                  have := HS2.out (p + d) (Nat.dvd_add hd0.out (Nat.dvd_refl _)) (by omega)
                  unfold SegS at this
                  rw [List.take_of_length_le (by have := HLl.out; omega)] at this
                  show Srt key _
                  rw [List.take_of_length_le (by have := HLl.out; omega)]
                  exact this
                have l1 : (L.take p).length = p := by have := HLl.out; simp; omega
                have l2 : ((L.take (p + d)).drop p).length = d := by have := HLl.out; simp; omega
                have l3 : ((L.take len).drop (p + d)).length = len - (p + d) := by have := HLl.out; simp; omega
                have l4 : L.drop len = [] := List.drop_of_length_le (by have := HLl.out; omega)
                rw [l4] at sp
                generalize L.take p = A at *
                generalize (L.take (p + d)).drop p = X at *
                generalize (L.take len).drop (p + d) = Y at *
                have SP := Lib.hid sp
                have L1 := Lib.hid l1
                have L2 := Lib.hid l2
                have L3 := Lib.hid l3
                clear sp l1 l2 l3 l4
                go_wp2_with fail
                refine (hM.out _ _ _ A X Y [] L _ (by rw [L2.out, L3.out]; omega) (by rw [L1.out]) (by rw [L1.out, L2.out]; omega) (by rw [L1.out, L2.out, L3.out]; omega) (by rw [L2.out]; omega) (by rw [L3.out]; omega) HLl.out SP.out (only_trans HW.out HOK.out.only) (valid_perm HV.out HOK.out.perm) sX.out sY.out HOK.out.stb HOK.out.row).mono ?_
                rintro e w1 ⟨M', rfl, m1, m2, m3, m4, m5⟩
                have hrel2 : Hid (StabRel2 key w g len L0 (.int .i64 (d + d : Nat)) w1) := by
                  have ml := m1.length_eq
                  have e1 : L = A ++ (X ++ Y) ++ [] := by rw [SP.out]; simp only [List.append_assoc]
                  have ml2 : M'.length = len - p := by rw [ml, List.length_append, L2.out, L3.out]; omega
                  rw [List.append_nil] at m3 m4
                  have hl' : (A ++ M').length = len := by rw [List.length_append, L1.out, ml2]; omega
                  refine ⟨d + d, A ++ M', rfl, by omega, by omega, fun q hq => ?_, ?_, m3, m4, only_trans HOK.out.only m5⟩
                  · rcases Nat.lt_or_ge q p with h | h
                    · have h2 := HS1.out q hq h
                      rw [e1] at h2
                      have h3 := seg_before (M' := M') h2 (by rw [L1.out]; exact mult_le hq hd h)
                      rwa [List.append_nil] at h3
                    · by_cases e : q < p + (d + d)
                      · have := mult_eq hq hd h e
                        subst this
                        exact seg_last m2 L1.out.symm (by rw [L1.out, ml2]; omega)
                      · exact seg_empty (by rw [hl']; omega)
                  · refine List.Perm.trans ?_ HOK.out.perm
                    rw [e1, List.append_nil]
                    exact List.Perm.append_left _ m1
                clear m1 m2 m3 m4 m5
                have e4 : (d : Int) * 2 = (d + d : Nat) := by omega
                have E4 := Lib.hid e4
                clear e4
                go_wp2_with fail
                go_roundw
                case rel =>
                  have h := hrel2.out
                  rw [← E4.out] at h
                  exact h
                case measure => simp [intOf]; omega
              · have hrel2 : Hid (StabRel2 key w g len L0 (.int .i64 (d + d : Nat)) wr) := by
                  refine ⟨d + d, L, rfl, by omega, by omega, fun q hq => ?_, HOK.out⟩
                  rcases Nat.lt_or_ge q p with h | h
                  · exact HS1.out q hq h
                  · by_cases e : q < p + (d + d)
                    · have e2 := mult_eq hq hd h e
                      have h2 := HS2.out q (Nat.dvd_trans ⟨2, by omega⟩ hq) h
                      unfold SegS at h2 ⊢
                      rw [List.take_of_length_le (by have := HLl.out; omega)] at h2 ⊢
                      exact h2
                    · exact seg_empty (by have := HLl.out; omega)
                have e4 : (d : Int) * 2 = (d + d : Nat) := by omega
                have E4 := Lib.hid e4
                clear e4
                go_wp2_with fail
                go_roundw
                case rel =>
                  have h := hrel2.out
                  rw [← E4.out] at h
                  exact h
                case measure => simp [intOf]; omega
        · go_wp2_with fail
          go_end0
          have h := HS.out 0 (Nat.dvd_zero _)
          unfold SegS at h
          rw [List.drop_zero, List.take_of_length_le (by have := HLl.out; omega)] at h
          exact ⟨L, rfl, HOK.out.perm, h, HOK.out.stb, HOK.out.row, HOK.out.only⟩

end Go.Proofs.YtnikhbdjlipcbaaGreatDoor.Spl

namespace Go.Proofs.YtnikhbdjlipcbaaGreatDoor.Spl
open Go.RowKit

/-- The key by which places are sorted: the greatest remainder first. -/
def keyOf (size : Int) (ws : List Int) (i : Int) : Int := -(rOf size (sumL ws) ws i.toNat)
theorem keyOf_nat (size : Int) (ws : List Int) (i : Nat) : keyOf size ws i = -(rOf size (sumL ws) ws i) := by simp [keyOf]
theorem sum_small (size : Int) (ws : List Int) (h : Good size ws) : sumL ws ≤ 400000 := by
  have h1 := (sumL_bd ws h.w1 ws.length (Nat.le_refl _)).2
  rw [List.take_length] at h1
  have := h.n1
  omega
theorem keyOK (size : Int) (ws : List Int) (h : Good size ws) : KeyOK (keyOf size ws) := by
  intro x
  have h1 := sum_small size ws h
  have h2 := h.s2
  unfold keyOf rOf
  have h3 := Int.emod_nonneg (size * (ws[x.toNat]?.getD 0)) (show sumL ws ≠ 0 by omega)
  have h4 := Int.emod_lt_of_pos (size * (ws[x.toNat]?.getD 0)) h2
  omega

set_option maxHeartbeats 1000000 in
theorem closure_any (size : Int) (ws : List Int) (h : Good size ws) (n b o c T V S : Nat) (hl : ws.length = n) (i k : Nat) (hi : i < n) (hk : k < n) (w : World)
    (hT : w.cell? ⟨T, 0, none⟩ = some (.int .i64 size)) (hV : w.cell? ⟨V, 0, none⟩ = some (.slice (some ⟨b, o, none⟩) n c)) (hS : w.cell? ⟨S, 0, none⟩ = some (.int .i64 (sumL ws)))
    (hc : Lies w b o n ws) :
    Calls Tryz.prog 25 #[.int .i64 i, .int .i64 k, .pointer (some ⟨T, 0, none⟩), .pointer (some ⟨V, 0, none⟩), .pointer (some ⟨S, 0, none⟩)] w fun e w' =>
      e = .returned (.int .i64 (keyOf size ws i - keyOf size ws k)) ∧ ∃ q, w' = w.drewN q := by
  have c1 := hc i hi
  have c2 := hc k hk
  obtain ⟨x1, x2⟩ := h.w1 i (by omega)
  obtain ⟨y1, y2⟩ := h.w1 k (by omega)
  obtain ⟨p1, p2, p3, p4, p5, p6⟩ := part_bd size (sumL ws) (ws[i]?.getD 0) h.s0 h.s1 h.s2 x1 x2
  obtain ⟨q1, q2, q3, q4, q5, q6⟩ := part_bd size (sumL ws) (ws[k]?.getD 0) h.s0 h.s1 h.s2 y1 y2
  have s1 := sum_small size ws h
  have s2 := h.s2
  have e : Hid (keyOf size ws i - keyOf size ws k = size * (ws[k]?.getD 0) % sumL ws - size * (ws[i]?.getD 0) % sumL ws) := by
    rw [keyOf_nat, keyOf_nat]; unfold rOf; show _ = _; omega
  have hn : n ≤ 100 := hl ▸ h.n1
  clear hc hl h x1 x2 y1 y2 p3 p4 q3 q4
  generalize ws[i]?.getD 0 = x at *
  generalize ws[k]?.getD 0 = y at *
  generalize sumL ws = s at *
  go_enter Tryz.func25, Tryz.ntmps25
  go_wp2_with fail
  go_quiet (fail)
  go_wp2_with fail
  go_ret
  exact ⟨ret_int e.out.symm, _, rfl⟩

set_option maxHeartbeats 1000000 in
theorem sortStable_any (key : Int → Int) (N : Int) (g len cap : Nat) (L0 : List Int) (c1 c2 c3 : Value) (w0 w : World)
    (hlen : L0.length = len) (hbig : len ≤ 1000000) (hK : KeyOK key) (hC : CmpOK key N g #[c1, c2, c3] w0) (hw : w0.grownBy w (some g)) (hv : Valid N L0)
    (hst : Stb key L0) (hr : RowAt w g 3 (ints L0)) :
    Calls Tryz.prog 24 #[.slice (some ⟨g, 0, none⟩) len cap, .func (.func 25) #[] #[c1, c2, c3]] w fun e w' =>
      ∃ L, e = .returned (.tuple #[]) ∧ L.Perm L0 ∧ Srt key L ∧ Stb key L ∧ RowAt w' g 3 (ints L) ∧ w.grownBy w' (some g) := by
  have h := Lib.hid (stable_any key N g len cap L0 c1 c2 c3 w0 w hlen hbig hK hC hw hv hst hr)
  clear hlen hK hC hw hv hst hr
  go_enter Tryz.func24, Tryz.ntmps24
  go_wp2_with (go_at_call 49; refine h.out.mono ?_; rintro e w' ⟨L, rfl, h1, h2, h3, h4, h5⟩)
  go_end0
  exact ⟨L, rfl, h1, h2, h3, h4, h5⟩

end Go.Proofs.YtnikhbdjlipcbaaGreatDoor.Spl
