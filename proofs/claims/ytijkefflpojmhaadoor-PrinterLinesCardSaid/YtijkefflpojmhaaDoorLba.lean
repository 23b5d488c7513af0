/-
  The law PrinterLines, walked. No condition.
-/
import Derived.Test.YtijkefflpojmhaaDoorZao
namespace Go.Proofs.YtijkefflpojmhaaDoor
open Go.RowKit

/-- Between two bytes of the text. -/
def LnAt (l : List UInt8) (ov fv gv lv iv : Value) : Prop := ∃ (k : Nat) (s : LnS), k ≤ l.length ∧ iv = .int .i64 (k : Int) ∧ ov = .int .i64 s.op ∧ fv = .int .i64 s.fr ∧ gv = .bool s.bg ∧ lv = .int .u8 (s.last.toNat : Int) ∧ lnR ⟨0, 0, false, 10⟩ (l.take k) = some s
set_option maxHeartbeats 2000000 in
set_option maxRecDepth 100000 in
theorem lines_law (n : Nat) (x : Ct) (cs : List Value) (w : World) (h : CtAt n w cs x) (hk : CKOk n x) (hs : ShpAt w) (hp : PtsAt w) :
    Calls Tryd.prog 4 #[.agg cs.toArray] w (BelB w true) := by
  have hsh := h.shape
  obtain ⟨ea, el, ec, da, dl, dc, a, len, cap, rfl, _⟩ := hsh
  show Calls Tryd.prog 4 #[.agg #[.int .u8 x.kind, .string x.frm, .string x.too, .string x.name, .int .u8 x.expr.kind, .string x.expr.rat, .string x.expr.name, .int .i64 x.expr.date, .slice ea el ec, .int .i64 x.date, .slice da dl dc, .slice a len cap]] w _
  obtain ⟨W0, hW0⟩ : ∃ W0, W0 = w.alloc (.cells #[.int .u8 x.kind, .string x.frm, .string x.too, .string x.name, .int .u8 x.expr.kind, .string x.expr.rat, .string x.expr.name, .int .i64 x.expr.date, .slice ea el ec, .int .i64 x.date, .slice da dl dc, .slice a len cap] 29) := ⟨_, rfl⟩
  have hB0 : Below w.heap.size w W0 := by rw [hW0]; exact own_below w _
  have hbx : W0.heap[w.heap.size]? = some (.cells #[.int .u8 x.kind, .string x.frm, .string x.too, .string x.name, .int .u8 x.expr.kind, .string x.expr.rat, .string x.expr.name, .int .i64 x.expr.date, .slice ea el ec, .int .i64 x.date, .slice da dl dc, .slice a len cap] 29) := by rw [hW0]; exact heap_alloc_new w _
  have HCC : Hid (∀ W, Below W0.heap.size W0 W → _) := fun W hW => ctBox ((hW.block _ (Array.getElem?_eq_some_iff.1 hbx).1).trans hbx)
  have HG : Hid (∀ W, Below W0.heap.size W0 W → Calls Tryd.prog 7 #[.agg #[.int .u8 x.kind, .string x.frm, .string x.too, .string x.name, .int .u8 x.expr.kind, .string x.expr.rat, .string x.expr.name, .int .i64 x.expr.date, .slice ea el ec, .int .i64 x.date, .slice da dl dc, .slice a len cap]] W (CGxP W x)) := fun W hW => cgreat_any n x _ W (CtAt.below (hB0.trans (hW.mono hB0.size)) h)
  have HIN : Hid (∀ W, Below W0.heap.size W0 W → x.size ≤ 700 → CSm 80 x → CtIn n x [.int .u8 x.kind, .string x.frm, .string x.too, .string x.name, .int .u8 x.expr.kind, .string x.expr.rat, .string x.expr.name, .int .i64 x.expr.date, .slice ea el ec, .int .i64 x.date, .slice da dl dc, .slice a len cap] W w) := fun W hW h1 h2 =>
    ⟨CtAt.below (hB0.trans (hW.mono hB0.size)) h, hk, by omega, ⟨80, by omega, h2⟩, hs, hB0.trans (hW.mono hB0.size)⟩
  have HAL : Hid (Calls Tryd.prog 6 #[] W0 (BelB W0 true)) := alive14 hs hp W0 hB0
  have HW0 := Lib.hid hW0
  have HB0 := Lib.hid hB0
  have HPTS := Lib.hid hp
  clear hW0 hB0 hbx h hk hs hp
  go_enter Tryd.func4, Tryd.ntmps4
  go_wp2_with fail
  rw [← HW0.out]
  refine HAL.out.mono ?_
  rintro e w1 ⟨rfl, hb⟩
  have HB1 := Lib.hid hb
  clear hb
  obtain ⟨c0, c1, c2, c3, c4, c5, c6, c7, c8, c9, ca, cb⟩ := HCC.out w1 HB1.out
  go_wp2_with fail
  refine (HG.out _ HB1.out).mono ?_
  rintro e w2 ⟨he, hb⟩
  have HB2 := Lib.hid (HB1.out.trans (hb.mono HB1.out.size))
  clear hb c0 c1 c2 c3 c4 c5 c6 c7 c8 c9 ca cb
  rcases he with rfl | ⟨rfl, h7, h80⟩
  · have HF := Lib.hid (HB0.out.trans (HB2.out.mono HB0.out.size))
    go_wp2_with fail
    go_ret
    exact ⟨rfl, HF.out⟩
  obtain ⟨c0, c1, c2, c3, c4, c5, c6, c7, c8, c9, ca, cb⟩ := HCC.out w2 HB2.out
  have HI := Lib.hid (HIN.out w2 HB2.out h7 h80)
  have HPP := Lib.hid (pcprint_any n x _ w2 w HPTS.out HI.out)
  have HOK : Hid (chkC x = 0 → OkC n x ∧ NmC n x) := fun hc => by
    have hok := okc_of n HI.out.at_ h80 (chkC_form hc)
    exact ⟨hok, nmc_of n hok (chkC_form hc)⟩
  obtain ⟨c, hc⟩ : ∃ c, c = chkC x := ⟨_, rfl⟩
  obtain ⟨T, hT⟩ : ∃ T, T = rcT n x := ⟨_, rfl⟩
  rw [← hc] at HPP HOK
  rw [← hT] at HPP
  have HLN : Hid (c = 0 → T ≠ [] ∧ ∃ z, z ≠ 32 ∧ lnR ⟨0, 0, false, 10⟩ T = some ⟨0, 0, true, z⟩) := fun h0 => by
    obtain ⟨h1, h2⟩ := HOK.out h0
    rw [hT]
    exact ⟨rcT_ne h1, rc_lines h1 h2⟩
  obtain ⟨S, hS⟩ : ∃ S, S = prS c T := ⟨_, rfl⟩
  obtain ⟨V, hV⟩ : ∃ V, V = prE c T := ⟨_, rfl⟩
  rw [← hS, ← hV] at HPP
  have HS := Lib.hid hS
  have HV := Lib.hid hV
  clear hc hT hS hV h7 h80
  go_wp2_with fail
  refine HPP.out.mono ?_
  rintro e w3 ⟨rfl, hb⟩
  have HB3 := Lib.hid (HB0.out.trans ((HB2.out.trans (hb.mono HB2.out.size)).mono HB0.out.size))
  clear hb c0 c1 c2 c3 c4 c5 c6 c7 c8 c9 ca cb
  by_cases hv : V = 0
  · subst hv
    have hc0 : c = 0 ∧ T.length ≤ 20000 := by
      have := HV.out
      unfold prE at this
      by_cases hc : c = 0
      · rw [if_neg (by simpa using hc)] at this
        refine ⟨hc, ?_⟩
        rcases Nat.lt_or_ge 20000 T.length with q | q
        · rw [if_pos q] at this; cases this
        · exact q
      · rw [if_pos hc] at this; exact absurd this.symm hc
    obtain ⟨hne, z, hz, hR⟩ := HLN.out hc0.1
    have hST : S.data.toList = T := by
      rw [HS.out]; unfold prS
      rw [if_neg (by simp [hc0.1]), if_neg (by omega)]
    have hsz := ba_size hST
    obtain ⟨L, b, hLb⟩ : ∃ L b, T = L ++ [b] := ⟨T.dropLast, T.getLast hne, (List.dropLast_concat_getLast hne).symm⟩
    have hb10 : b ≠ 10 := lnR_last (by rw [← hLb]; exact hR) rfl
    have hp0 : 0 < S.size := by rw [hsz]; exact List.length_pos_iff.2 hne
    have he : S.toList.isEmpty = false := by
      rw [toList_data, hST]; cases hq : T with
      | nil => exact absurd hq hne
      | cons _ _ => rfl
    have hi1 : S.size - 1 < S.size := Nat.sub_lt hp0 Nat.one_pos
    have hlast : S[S.size - 1]'hi1 = b := by
      have e1 : S[S.size - 1]'hi1 = S.data.toList[S.size - 1]'(by rw [hST]; omega) := rfl
      rw [e1]
      have : ∀ (l : List UInt8) (h : S.size - 1 < l.length), l = L ++ [b] → l[S.size - 1] = b := fun l h e => by
        subst e
        rw [List.getElem_append_right (by rw [List.length_append] at h; simp at h; rw [hsz, hLb]; simp)]
        simp
      exact this _ _ (hST.trans hLb)
    have q10 : (((S[S.size - 1]'hi1).toNat : Int) == 10) = false := by
      rw [hlast, beq_eq_false_iff_ne]
      intro e
      exact hb10 (UInt8.toNat_inj.1 (by have : (10 : UInt8).toNat = 10 := rfl; omega))
    have HR := Lib.hid hR
    have HST := Lib.hid hST
    have HSZ := Lib.hid hsz
    have hsb : S.size ≤ 20000 := by rw [hsz]; exact hc0.2
    have i0 : (0 : Int) ≤ (S.size : Int) - 1 := by omega
    have i1 : (S.size : Int) - 1 < (S.size : Int) := by omega
    have HZ := Lib.hid hz
    clear hR hST hLb hlast hsz hc0 hz hb10 hne
    have hTl : T.length = S.size := HSZ.out.symm
    have H0 : Hid (LnAt T (.int .i64 0) (.int .i64 0) (.bool false) (.int .u8 10) (.int .i64 0)) := ⟨0, ⟨0, 0, false, 10⟩, Nat.zero_le _, rfl, rfl, rfl, rfl, rfl, rfl⟩
    have HTL := Lib.hid hTl
    clear hTl
    go_wp2_with fail
    go_loopw [6, 7, 8, 9, 10] (fun ov fv gv lv iv wr => LnAt T ov fv gv lv iv ∧ wr = w3) (fun _ _ _ _ iv _ => S.size - (intOf iv).toNat)
    case atStart => exact ⟨H0.out, rfl⟩
    case round =>
      clear H0 q10 he
      obtain ⟨⟨k, s, hk, rfl, rfl, rfl, rfl, rfl, hst⟩, rfl⟩ := hrel
      have hks : k ≤ S.size := by rw [← HTL.out]; exact hk
      have hbd := lnR_bd (s := ⟨0, 0, false, 10⟩) ⟨rfl, rfl⟩ T k s hk hst
      obtain ⟨op, fr, bg, last⟩ := s
      obtain ⟨hb1, hb2, hb3, hb4⟩ : -(k : Int) ≤ op ∧ op ≤ k ∧ 0 ≤ fr ∧ fr ≤ k := hbd
      by_cases hlt : k < S.size
      · have hlt2 : k < T.length := by rw [HTL.out]; exact hlt
        obtain ⟨u, hu1, hu2⟩ := lnR_take HR.out k hlt2 hst
        have hel : T[k] = S[k]'hlt := by
          have e1 : S[k]'hlt = S.data.toList[k]'(by rw [HST.out]; exact hlt2) := rfl
          rw [e1]
          have : ∀ (l : List UInt8) (h : k < l.length), l = T → T[k] = l[k] := fun l h e => by subst e; rfl
          exact this _ _ HST.out
        rw [hel] at hu1
        have HU := Lib.hid hu2
        have hw := lnB_way hu1
        have k0 : (0 : Int) ≤ (k : Int) := by omega
        have k1 : (k : Int) < (S.size : Int) := by omega
        clear hu1 hu2 hel hst
        rcases hw with ⟨hb, hg, hl, rfl⟩ | ⟨hb, hg, rfl⟩ | ⟨hb, hf, rfl⟩ | ⟨hb, hf, rfl⟩ | ⟨⟨n1, n2, n3, n4, n5, n6⟩, h32, hf, rfl⟩
        · obtain rfl : bg = true := hg
          have hv : ((S[k]'hlt).toNat : Int) = 10 := by rw [hb]; rfl
          have ql : ((last.toNat : Int) == 32) = false := by
            rw [beq_eq_false_iff_ne]
            intro e
            exact hl (UInt8.toNat_inj.1 (by have : (32 : UInt8).toNat = 32 := rfl; show last.toNat = _; omega))
          clear hb hl
          go_wp2_with fail
          go_roundw
          case rel => exact ⟨⟨k + 1, _, hlt2, by go_num, rfl, rfl, rfl, rfl, HU.out⟩, trivial⟩
          case measure => simp [intOf] <;> omega
        · obtain rfl : bg = false := hg
          have hv : ((S[k]'hlt).toNat : Int) = 32 := by rw [hb]; rfl
          clear hb
          go_wp2_with fail
          go_roundw
          case rel => exact ⟨⟨k + 1, _, hlt2, by go_num, rfl, rfl, rfl, rfl, HU.out⟩, trivial⟩
          case measure => simp [intOf] <;> omega
        · have hv : ((S[k]'hlt).toNat : Int) = 125 := by rw [hb]; rfl
          clear hb
          cases bg with
          | true =>
            clear hf
            go_wp2_with fail
            go_roundw
            case rel => exact ⟨⟨k + 1, _, hlt2, by go_num, rfl, rfl, rfl, rfl, HU.out⟩, trivial⟩
            case measure => simp [intOf] <;> omega
          | false =>
            obtain rfl : fr = 2 * (op - 1) := hf.resolve_left (fun q => Bool.noConfusion q)
            clear hf
            go_wp2_with fail
            go_roundw
            case rel => exact ⟨⟨k + 1, _, hlt2, by go_num, rfl, rfl, rfl, rfl, HU.out⟩, trivial⟩
            case measure => simp [intOf] <;> omega
        · have hv : ((S[k]'hlt).toNat : Int) = 123 := by rw [hb]; rfl
          clear hb
          cases bg with
          | true =>
            clear hf
            go_wp2_with fail
            go_roundw
            case rel => exact ⟨⟨k + 1, _, hlt2, by go_num, rfl, rfl, rfl, rfl, HU.out⟩, trivial⟩
            case measure => simp [intOf] <;> omega
          | false =>
            obtain rfl : fr = 2 * op := hf.resolve_left (fun q => Bool.noConfusion q)
            clear hf
            go_wp2_with fail
            go_roundw
            case rel => exact ⟨⟨k + 1, _, hlt2, by go_num, rfl, rfl, rfl, rfl, HU.out⟩, trivial⟩
            case measure => simp [intOf] <;> omega
        · have ne : ∀ (c : UInt8), S[k]'hlt ≠ c → (((S[k]'hlt).toNat : Int) == (c.toNat : Int)) = false := fun c hc => by
            rw [beq_eq_false_iff_ne]
            intro e
            exact hc (UInt8.toNat_inj.1 (by omega))
          have p0 : decide (((S[k]'hlt).toNat : Int) < 32) = false := decide_eq_false (by omega)
          have p1 : decide ((126 : Int) < ((S[k]'hlt).toNat : Int)) = false := decide_eq_false (by omega)
          have p2 : (((S[k]'hlt).toNat : Int) == 35) = false := ne 35 n6
          have p3 : (((S[k]'hlt).toNat : Int) == 10) = false := ne 10 n1
          have p4 : (((S[k]'hlt).toNat : Int) == 125) = false := ne 125 n2
          have p5 : (((S[k]'hlt).toNat : Int) == 123) = false := ne 123 n3
          obtain ⟨q32, hq32⟩ : ∃ q, q = (((S[k]'hlt).toNat : Int) == 32) := ⟨_, rfl⟩
          have h32b : q32 = true → bg = true := fun e => by
            refine h32 (UInt8.toNat_inj.1 ?_)
            rw [e] at hq32
            have := eq_of_beq hq32.symm
            have : (32 : UInt8).toNat = 32 := rfl
            omega
          have hq := hq32.symm
          clear ne n1 n2 n3 n4 n5 n6 h32 hq32
          cases bg with
          | true =>
            clear hf h32b
            cases q32 with
            | true =>
              go_wp2_with fail
              go_roundw
              case rel => exact ⟨⟨k + 1, _, hlt2, by go_num, rfl, rfl, rfl, rfl, HU.out⟩, trivial⟩
              case measure => simp [intOf] <;> omega
            | false =>
              go_wp2_with fail
              go_roundw
              case rel => exact ⟨⟨k + 1, _, hlt2, by go_num, rfl, rfl, rfl, rfl, HU.out⟩, trivial⟩
              case measure => simp [intOf] <;> omega
          | false =>
            obtain rfl : fr = 2 * op := hf.resolve_left (fun q => Bool.noConfusion q)
            cases q32 with
            | true => exact absurd (h32b rfl) (by decide)
            | false =>
              clear hf h32b
              go_wp2_with fail
              go_roundw
              case rel => exact ⟨⟨k + 1, _, hlt2, by go_num, rfl, rfl, rfl, rfl, HU.out⟩, trivial⟩
              case measure => simp [intOf] <;> omega
      · have hke : T.take k = T := List.take_of_length_le (by rw [HTL.out]; omega)
        rw [hke, HR.out] at hst
        injection hst with hst
        injection hst with e1 e2 e3 e4
        subst e1 e2 e3 e4
        have qz : ((z.toNat : Int) != 32) = true := by
          rw [bne_iff_ne]
          intro e
          exact HZ.out (UInt8.toNat_inj.1 (by have : (32 : UInt8).toNat = 32 := rfl; omega))
        clear hke
        go_wp2_with fail
        go_ret
        exact ⟨rfl, HB3.out⟩
  · have q : ((V : Int) != 0) = true := ine_true hv
    go_wp2_with fail
    go_ret
    exact ⟨rfl, HB3.out⟩

end Go.Proofs.YtijkefflpojmhaaDoor
