/-
  The reference's Join walked; lists without tokens. No condition.
-/
import Derived.Test.YtnmiiimbjojcmaaLe
namespace Go.Proofs.Ytnmiiimbjojcmaa
open Go.RowKit

/-- The first loop of the reference's Join. -/
def RjA (l : List Tk) (n : Nat) (w : World) (v : Value) (wr : World) : Prop :=
  ∃ k : Nat, k ≤ n ∧ v = .int .i64 (k : Int) ∧ Below w.heap.size w wr ∧ ∀ i, i < k → tkB (l[i]?.getD default) = true
/-- The second one. -/
def RjB (l : List Tk) (n : Nat) (w : World) (ov v : Value) (wr : World) : Prop :=
  ∃ (k : Nat) (s : ByteArray), k ≤ n ∧ ov = .string s ∧ v = .int .i64 (k : Int) ∧ s.data.toList = jT l k ∧ (jT l k).length ≤ 20000 ∧ Below w.heap.size w wr

set_option maxHeartbeats 4000000 in
set_option maxRecDepth 100000 in
theorem rjoin_any (g o n c : Nat) (l : List Tk) (w : World) (hl : l.length = n) (hn : n ≤ 300) (hg : g < w.heap.size) (h : Tks w g o l) (hs : ∀ i, i < n → ¬ bigTk (l[i]?.getD default)) :
    Calls Try.prog 10 #[.slice (some ⟨g, o, none⟩) n c] w (TPost w (jR l n).1 (jR l n).2) := by
  have HL := Lib.hid hl
  have HH := Lib.hid h
  have HS := Lib.hid hs
  obtain ⟨R, hR⟩ : ∃ R, R = jR l n := ⟨_, rfl⟩
  rw [← hR]
  have HR := Lib.hid hR
  clear hl h hs hR
  go_enter Try.func10, Try.ntmps10
  go_wp2_with fail
  go_loopw [4] (RjA l n w) (fun v _ => n - (intOf v).toNat)
  case atStart => exact ⟨0, Nat.zero_le _, rfl, Below.refl _ _, fun i hi => absurd hi (Nat.not_lt_zero _)⟩
  case round =>
    obtain ⟨w1, rfl⟩ : ∃ w1 : World, w1 = wr := ⟨_, rfl⟩
    obtain ⟨k, hk, rfl, hbel, hok⟩ := hrel
    have HBEL := Lib.hid hbel
    have HOK := Lib.hid hok
    by_cases hlt : k < n
    · obtain ⟨x, hx⟩ : ∃ x, x = l[k]?.getD default := ⟨_, rfl⟩
      have a := tks_below HH.out hbel hg k (by have := HL.out; omega)
      have hbig := HS.out k hlt
      rw [← hx] at a hbig
      obtain ⟨a0, a1, a2, a3, a4⟩ := a
      have HV : Hid (∀ W, Calls Try.prog 8 #[.agg #[.int .u8 x.kind, .string x.text, .string x.rat, .int .i64 x.date, .int .i64 x.place]] W (BelB W (tkB x))) := fun W => valid_tk x W (by unfold bigTk at hbig; omega)
      cases htk : tkB x with
      | false =>
        rw [htk] at HV
        have HE : Hid (R = (⟨#[]⟩, 8)) := HR.out.trans (jR_bad hlt (by rw [← hx]; exact htk))
        clear hbel hok hx htk hbig
        go_wp2_with fail
        refine (HV.out _).mono ?_
        rintro e w2 ⟨rfl, b2⟩
        have B2 := Lib.hid (HBEL.out.trans (b2.mono HBEL.out.size))
        clear b2
        go_wp2_with fail
        go_ret2
        exact ⟨by rw [HE.out]; rfl, B2.out⟩
      | true =>
        rw [htk] at HV
        have HOK1 : Hid (∀ i, i < k + 1 → tkB (l[i]?.getD default) = true) := fun i hi => by
          by_cases e : i = k
          · subst e; rw [← hx]; exact htk
          · exact HOK.out i (by omega)
        clear hbel hok hx htk hbig HOK
        go_wp2_with fail
        refine (HV.out _).mono ?_
        rintro e w2 ⟨rfl, b2⟩
        have B2 := Lib.hid (HBEL.out.trans (b2.mono HBEL.out.size))
        clear b2
        go_wp2_with fail
        go_roundw
        case rel => exact ⟨k + 1, by omega, by go_num, B2.out, HOK1.out⟩
        case measure => simp [intOf]; omega
    · have hkn : k = n := by omega
      subst hkn
      have HST : Hid (RjB l k w (.string ⟨#[]⟩) (.int .i64 0) w1) := ⟨0, ⟨#[]⟩, Nat.zero_le _, rfl, rfl, rfl, Nat.zero_le _, HBEL.out⟩
      clear hbel hok HBEL
      go_wp2_with fail
      go_loopw [5, 6] (RjB l k w) (fun _ v _ => k - (intOf v).toNat)
      case atStart => exact HST.out
      case round =>
        obtain ⟨w2, rfl⟩ : ∃ w2 : World, w2 = wr := ⟨_, rfl⟩
        obtain ⟨j, s, hj, rfl, rfl, hsj, hjl, hbel⟩ := hrel
        have HBEL := Lib.hid hbel
        have hss : s.size ≤ 20000 := by rw [← data_len, hsj]; exact hjl
        by_cases hlt2 : j < k
        · obtain ⟨x, hx⟩ : ∃ x, x = l[j]?.getD default := ⟨_, rfl⟩
          have a := tks_below HH.out hbel hg j (by have := HL.out; omega)
          have hbig := HS.out j hlt2
          have hok := HOK.out j hlt2
          have HJ : Hid (jT l (j + 1) = jT l j ++ ((if j = 0 then [] else [32]) ++ (txT x).data.toList)) := by rw [hx]; rfl
          rw [← hx] at a hbig hok
          obtain ⟨a0, a1, a2, a3, a4⟩ := a
          have hT : ∀ W, Calls Try.prog 6 #[.agg #[.int .u8 x.kind, .string x.text, .string x.rat, .int .i64 x.date, .int .i64 x.place]] W (if tkB x = true then TPost W (txT x) 0 else TPost W ⟨#[]⟩ 8) := fun W => rtext_tk x W (by unfold bigTk at hbig; omega) (by unfold bigTk at hbig; omega)
          rw [hok] at hT
          have hts := txT_size hbig
          obtain ⟨t, htx⟩ : ∃ t, t = txT x := ⟨_, rfl⟩
          rw [← htx] at hT HJ hts
          have HT : Hid (∀ W, Calls Try.prog 6 #[.agg #[.int .u8 x.kind, .string x.text, .string x.rat, .int .i64 x.date, .int .i64 x.place]] W (TPost W t 0)) := hT
          have hmono := jT_mono l (show j + 1 ≤ k by omega)
          obtain ⟨J1, hJ1⟩ : ∃ J1, J1 = jT l (j + 1) := ⟨_, rfl⟩
          rw [← hJ1] at HJ hmono
          have HJ1 := Lib.hid hJ1
          have HM := Lib.hid hmono
          have HSJ := Lib.hid hsj
          clear hbel hx hok hbig hT htx hJ1 hmono hsj hjl HST
          rcases Nat.eq_zero_or_pos j with hj0 | hj0
          · subst hj0
            simp only [Nat.zero_mul, Nat.add_zero] at a0 a1 a2 a3 a4
            have HJ0 : Hid ((s ++ t).data.toList = J1) := by
              show _ = _
              rw [HJ.out, if_pos rfl, ← HSJ.out]; simp
            have HSZ : Hid ((s ++ t).size = J1.length) := by show _ = _; rw [← HJ0.out, data_len]
            clear HJ HSJ
            by_cases hb : 20000 < J1.length
            · have HE : Hid (R = (⟨#[]⟩, 4)) := HR.out.trans (jR_long HOK.out (Nat.lt_of_lt_of_le hb HM.out))
              have t0 : 20000 < s.size + t.size := by have h := HSZ.out; rw [ByteArray.size_append] at h; omega
              clear hb HM HSZ HJ0 HJ1
              go_wp2_with fail
              refine (HT.out _).mono ?_
              rintro e w3 ⟨rfl, b3⟩
              have B3 := Lib.hid (HBEL.out.trans (b3.mono HBEL.out.size))
              clear b3
              go_wp2_with fail
              go_ret2
              exact ⟨by rw [HE.out]; rfl, B3.out⟩
            · have t0 : s.size + t.size ≤ 20000 := by have h := HSZ.out; rw [ByteArray.size_append] at h; omega
              have HB := Lib.hid hb
              clear hb HM HSZ
              go_wp2_with fail
              refine (HT.out _).mono ?_
              rintro e w3 ⟨rfl, b3⟩
              have B3 := Lib.hid (HBEL.out.trans (b3.mono HBEL.out.size))
              clear b3
              go_wp2_with fail
              go_roundw
              case rel => exact ⟨0 + 1, _, by omega, rfl, by go_num, HJ0.out.trans HJ1.out, by rw [← HJ1.out]; have := HB.out; omega, B3.out⟩
              case measure => simp [intOf]; omega
          · have HJ0 : Hid ((s ++ ⟨#[32]⟩ ++ t).data.toList = J1) := by
              show _ = _
              rw [HJ.out, if_neg (by omega), ← HSJ.out]; simp
            have HSZ : Hid ((s ++ ⟨#[32]⟩ ++ t).size = J1.length) := by show _ = _; rw [← HJ0.out, data_len]
            clear HJ HSJ
            by_cases hb : 20000 < J1.length
            · have HE : Hid (R = (⟨#[]⟩, 4)) := HR.out.trans (jR_long HOK.out (Nat.lt_of_lt_of_le hb HM.out))
              have t0 : 20000 < s.size + 1 + t.size := by have h := HSZ.out; rw [ByteArray.size_append, ByteArray.size_append] at h; change s.size + 1 + t.size = _ at h; omega
              clear hb HM HSZ HJ0 HJ1
              go_wp2_with fail
              refine (HT.out _).mono ?_
              rintro e w3 ⟨rfl, b3⟩
              have B3 := Lib.hid (HBEL.out.trans (b3.mono HBEL.out.size))
              clear b3
              go_wp2_with fail
              go_ret2
              exact ⟨by rw [HE.out]; rfl, B3.out⟩
            · have t0 : s.size + 1 + t.size ≤ 20000 := by have h := HSZ.out; rw [ByteArray.size_append, ByteArray.size_append] at h; change s.size + 1 + t.size = _ at h; omega
              have HB := Lib.hid hb
              clear hb HM HSZ
              go_wp2_with fail
              refine (HT.out _).mono ?_
              rintro e w3 ⟨rfl, b3⟩
              have B3 := Lib.hid (HBEL.out.trans (b3.mono HBEL.out.size))
              clear b3
              go_wp2_with fail
              go_roundw
              case rel => exact ⟨j + 1, _, by omega, rfl, by go_num, HJ0.out.trans HJ1.out, by rw [← HJ1.out]; have := HB.out; omega, B3.out⟩
              case measure => simp [intOf]; omega
        · have hjk : j = k := by omega
          subst hjk
          have HE : Hid (R = (s, 0)) := HR.out.trans (by
            rw [jR_ok HOK.out (by omega), ← hsj])
          clear hbel hsj hjl HST
          go_wp2_with fail
          go_ret2
          exact ⟨by rw [HE.out]; rfl, HBEL.out⟩

theorem jR_zero (l : List Tk) : jR l 0 = (⟨#[]⟩, 0) := jR_ok (fun i hi => absurd hi (Nat.not_lt_zero _)) (by show ¬ 20000 < 0; omega)

set_option maxHeartbeats 1000000 in
set_option maxRecDepth 100000 in
theorem rjoin_zero (a : Option Addr) (c : Nat) (w : World) :
    Calls Try.prog 10 #[.slice a 0 c] w (TPost w ⟨#[]⟩ 0) := by
  go_enter Try.func10, Try.ntmps10
  go_wp2_with fail
  refine wp_loop_rounds 1 ?_
  rw [rounds_succ]
  go_wp2_with fail
  refine wp_loop_rounds 1 ?_
  rw [rounds_succ]
  go_wp2_with fail
  go_ret2
  exact ⟨rfl, Below.refl _ _⟩

set_option maxHeartbeats 1000000 in
set_option maxRecDepth 100000 in
theorem join_zero (a : Option Addr) (c : Nat) (w : World) :
    Calls Try.prog 9 #[.slice a 0 c] w (TPost w ⟨#[]⟩ 0) := by
  have I1 : Hid (Lib.IsBuilderF 47 5 w.heap.size w.heap.size (Lib.byteCells []) (w.alloc (.cells #[.pointer none, .slice none 0 0] 47))) := Lib.IsBuilderF.of (Lib.fresh_isBuilder _ _ w)
  go_enter Try.func9, Try.ntmps9
  go_wp2_with fail
  refine wp_loop_rounds 1 ?_
  rw [rounds_succ]
  go_wp2_with fail
  refine (Try.builder_len w.heap.size w.heap.size _ _ I1.out).mono ?_
  rintro e w' ⟨rfl, rfl⟩
  go_wp2_with fail
  refine (Try.builder_text w.heap.size w.heap.size [] _ I1.out (by simp)).mono ?_
  rintro e w3 ⟨rfl, _, b3, _⟩
  have B3 : Hid (Below w.heap.size w w3) := (own_below _ _).trans b3
  clear b3
  go_wp2_with fail
  go_ret2
  exact ⟨rfl, B3.out⟩

end Go.Proofs.Ytnmiiimbjojcmaa
