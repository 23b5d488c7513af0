/-
  The law PrinterParts: the contracts that are put together, their texts; printed walked. No condition. The law PrinterParts, walked. No condition.
-/
import Derived.Test.YtijkefflpojmhaaDoorZao
import Derived.Test.YtijkefflpojmhaaDoorZai
namespace Go.Proofs.YtijkefflpojmhaaDoor
open Go.RowKit

def bC (x y : Ct) : Ct := .mk 3 eS eS eS exB 0 [] [x, y]
def kC (x y : Ct) : Ct := .mk 7 ⟨#[65]⟩ eS ⟨#[110]⟩ exB 0 [] [x, y]
def oC (x : Ct) : Ct := .mk 6 eS eS eS exB 0 [] [x]
theorem date_0p : DateIs 0 1900 1 1 := ⟨by decide, by decide, by decide, by decide, of_decide_eq_true (by kernel_rfl), of_decide_eq_true (by kernel_rfl)⟩
theorem dtxt_0 : dtxt 0 = [49, 57, 48, 48, 45, 48, 49, 45, 48, 49] := by
  rw [dtxt_is (n := 0) date_0p]; decide
theorem bC_txt (n : Nat) (x y : Ct) : rcT (n + 1) (bC x y) = [98, 111, 116, 104, 32, 123, 10] ++ mvT (rcT n x) ++ [59, 10] ++ mvT (rcT n y) ++ [10, 125] := by
  rw [rcT]; rfl
theorem kC_txt (n : Nat) (x y : Ct) : rcT (n + 1) (kC x y) = [99, 104, 111, 105, 99, 101, 32, 110, 32, 98, 121, 32, 65, 32, 123, 10] ++ mvT (rcT n x) ++ [10, 125, 32, 101, 108, 115, 101, 32, 123, 10] ++ mvT (rcT n y) ++ [10, 125] := by
  rw [rcT]
  simp [kC, Ct.kind, headT, Ct.name, Ct.frm, qn, kwB, kwL, inT, crt, Ct.sub]
theorem oC_txt (n : Nat) (x : Ct) : rcT (n + 1) (oC x) = [111, 110, 32, 49, 57, 48, 48, 45, 48, 49, 45, 48, 49, 32, 123, 10] ++ mvT (rcT n x) ++ [10, 125] := by
  rw [rcT]
  simp [oC, Ct.kind, headT, Ct.date, dtxt_0, inT, crt, Ct.sub]
theorem exB_size : exB.size = 1 := by simp [exB, Ex.size_is, Ex.sub]
theorem exB_ok (n : Nat) : KOk (n + 1) exB ∧ SmX (n + 1) exB := by
  constructor
  · simp [KOk, exB, Ex.kind, Ex.sub]
  · simp [SmX, exB, Ex.name, Ex.rat, Ex.sub, eS]
    decide
/-- What is put together is small. -/
theorem two_ok {n : Nat} {x y : Ct} (k : Int) (hk0 : 0 ≤ k ∧ k ≤ 255) (f s : ByteArray) (hf : f.size ≤ 200) (hs : s.size ≤ 200) (kx : CKOk n x) (ky : CKOk n y) (sx : x.size ≤ 700) (sy : y.size ≤ 700) (mx : CSm 80 x) (my : CSm 80 y) :
    CKOk (n + 1) (.mk k f eS s exB 0 [] [x, y]) ∧ (Ct.mk k f eS s exB 0 [] [x, y]).size ≤ 3000 ∧ ∃ d, d ≤ 90 ∧ CSm d (.mk k f eS s exB 0 [] [x, y]) := by
  have e0 : eS.size ≤ 200 := by decide
  refine ⟨⟨hk0, (exB_ok n).1, fun z hz => ?_⟩, ?_, 81, by omega, ⟨hs, hf, e0, by show 0 ≤ 200; omega, ?_⟩, (exB_ok 80).2, fun z hz => ?_⟩
  · have hz' : z ∈ [x, y] := hz
    simp only [List.mem_cons, List.not_mem_nil, or_false] at hz'
    rcases hz' with rfl | rfl
    · exact kx
    · exact ky
  · rw [Ct.size_is]
    show 1 + exB.size + (x.size + (y.size + 0)) ≤ 3000
    rw [exB_size]; omega
  · show exB.size ≤ 1000; rw [exB_size]; omega
  · have hz' : z ∈ [x, y] := hz
    simp only [List.mem_cons, List.not_mem_nil, or_false] at hz'
    rcases hz' with rfl | rfl
    · exact mx
    · exact my
theorem one_ok {n : Nat} {x : Ct} (k : Int) (hk0 : 0 ≤ k ∧ k ≤ 255) (kx : CKOk n x) (sx : x.size ≤ 700) (mx : CSm 80 x) :
    CKOk (n + 1) (.mk k eS eS eS exB 0 [] [x]) ∧ (Ct.mk k eS eS eS exB 0 [] [x]).size ≤ 3000 ∧ ∃ d, d ≤ 90 ∧ CSm d (.mk k eS eS eS exB 0 [] [x]) := by
  have e0 : eS.size ≤ 200 := by decide
  refine ⟨⟨hk0, (exB_ok n).1, fun z hz => ?_⟩, ?_, 81, by omega, ⟨e0, e0, e0, by show 0 ≤ 200; omega, ?_⟩, (exB_ok 80).2, fun z hz => ?_⟩
  · have hz' : z ∈ [x] := hz
    rw [List.mem_singleton.1 hz']; exact kx
  · rw [Ct.size_is]
    show 1 + exB.size + (x.size + 0) ≤ 3000
    rw [exB_size]; omega
  · show exB.size ≤ 1000; rw [exB_size]; omega
  · have hz' : z ∈ [x] := hz
    rw [List.mem_singleton.1 hz']; exact mx
set_option maxHeartbeats 2000000 in
set_option maxRecDepth 100000 in
theorem printed_any {Wg : World} (hp : PtsAt Wg) (n : Nat) (x : Ct) (cs : List Value) (t : ByteArray) (w : World) (h : CtIn n x cs w Wg) (ht : chkC x = 0 → t.data.toList = rcT n x) :
    Calls Tryd.prog 10 #[.agg cs.toArray, .string t] w (BelB w true) := by
  have hsh := h.at_.shape
  obtain ⟨ea, el, ec, da, dl, dc, a, len, cap, rfl, _⟩ := hsh
  show Calls Tryd.prog 10 #[.agg #[.int .u8 x.kind, .string x.frm, .string x.too, .string x.name, .int .u8 x.expr.kind, .string x.expr.rat, .string x.expr.name, .int .i64 x.expr.date, .slice ea el ec, .int .i64 x.date, .slice da dl dc, .slice a len cap], .string t] w _
  obtain ⟨W0, hW0⟩ : ∃ W0, W0 = w.alloc (.cells #[.int .u8 x.kind, .string x.frm, .string x.too, .string x.name, .int .u8 x.expr.kind, .string x.expr.rat, .string x.expr.name, .int .i64 x.expr.date, .slice ea el ec, .int .i64 x.date, .slice da dl dc, .slice a len cap] 29) := ⟨_, rfl⟩
  have hB0 : Below w.heap.size w W0 := by rw [hW0]; exact own_below w _
  have hbx : W0.heap[w.heap.size]? = some (.cells #[.int .u8 x.kind, .string x.frm, .string x.too, .string x.name, .int .u8 x.expr.kind, .string x.expr.rat, .string x.expr.name, .int .i64 x.expr.date, .slice ea el ec, .int .i64 x.date, .slice da dl dc, .slice a len cap] 29) := by rw [hW0]; exact heap_alloc_new w _
  have HCC : Hid (∀ W, Below W0.heap.size W0 W → _) := fun W hW => ctBox ((hW.block _ (Array.getElem?_eq_some_iff.1 hbx).1).trans hbx)
  have h0 := h.below hB0
  have HPR : Hid (Calls Tryd.prog 8 #[.agg #[.int .u8 x.kind, .string x.frm, .string x.too, .string x.name, .int .u8 x.expr.kind, .string x.expr.rat, .string x.expr.name, .int .i64 x.expr.date, .slice ea el ec, .int .i64 x.date, .slice da dl dc, .slice a len cap]] W0 (PrP W0 (prS (chkC x) (rcT n x)) (prE (chkC x) (rcT n x)))) := pcprint_any n x _ W0 Wg hp h0
  have HCK : Hid (∀ W, Below W0.heap.size W0 W → Calls Tryd.prog 18 #[.agg #[.int .u8 x.kind, .string x.frm, .string x.too, .string x.name, .int .u8 x.expr.kind, .string x.expr.rat, .string x.expr.name, .int .i64 x.expr.date, .slice ea el ec, .int .i64 x.date, .slice da dl dc, .slice a len cap]] W (IntP W (chkC x))) := fun W hW => pcchk_any n x _ W Wg hp (h0.below hW)
  obtain ⟨c, hc⟩ : ∃ c, c = chkC x := ⟨_, rfl⟩
  obtain ⟨T, hT⟩ : ∃ T, T = rcT n x := ⟨_, rfl⟩
  rw [← hc] at HPR HCK ht
  rw [← hT] at HPR ht
  obtain ⟨S, hS⟩ : ∃ S, S = prS c T := ⟨_, rfl⟩
  obtain ⟨V, hV⟩ : ∃ V, V = prE c T := ⟨_, rfl⟩
  rw [← hS, ← hV] at HPR
  have HS := Lib.hid hS
  have HV := Lib.hid hV
  have HT := Lib.hid ht
  have HW0 := Lib.hid hW0
  have HB0 := Lib.hid hB0
  clear hS hV ht hc hT hW0 hB0 hbx h h0 hp
  go_enter Tryd.func10, Tryd.ntmps10
  go_wp2_with fail
  rw [← HW0.out]
  refine HPR.out.mono ?_
  rintro e w1 ⟨rfl, hb⟩
  have HB1 := Lib.hid hb
  clear hb
  obtain ⟨c0, c1, c2, c3, c4, c5, c6, c7, c8, c9, ca, cb⟩ := HCC.out w1 HB1.out
  go_wp2_with fail
  refine (HCK.out _ HB1.out).mono ?_
  rintro e w2 ⟨rfl, hb⟩
  have HB2 := Lib.hid (HB1.out.trans (hb.mono HB1.out.size))
  clear hb c0 c1 c2 c3 c4 c5 c6 c7 c8 c9 ca cb
  by_cases hc0 : c = 0
  · subst hc0
    have hTt := HT.out rfl
    have htz := ba_size hTt
    by_cases hl : 20000 < t.size
    · have hv : V = 4 := by rw [HV.out]; unfold prE; rw [if_neg (by simp), if_pos (by omega)]
      subst hv
      have HF := Lib.hid (HB0.out.trans (HB2.out.mono HB0.out.size))
      clear hTt htz
      go_wp2_with fail
      go_ret
      exact ⟨rfl, HF.out⟩
    · have hv : V = 0 := by rw [HV.out]; unfold prE; rw [if_neg (by simp), if_neg (by omega)]
      subst hv
      have hs : S = t := by
        rw [HS.out]; unfold prS
        rw [if_neg (by simp), if_neg (by omega)]
        exact (ba_eq hTt).symm
      subst hs
      have HF := Lib.hid (HB0.out.trans (HB2.out.mono HB0.out.size))
      clear hTt htz
      go_wp2_with fail
      go_ret
      exact ⟨rfl, HF.out⟩
  · have hv : V = c := by rw [HV.out]; unfold prE; rw [if_pos hc0]
    subst hv
    have q : ((V : Int) != 0) = true := ine_true hc0
    obtain ⟨c0, c1, c2, c3, c4, c5, c6, c7, c8, c9, ca, cb⟩ := HCC.out w2 HB2.out
    go_wp2_with fail
    refine (HCK.out _ HB2.out).mono ?_
    rintro e w3 ⟨rfl, hb⟩
    have HF := Lib.hid (HB0.out.trans ((HB2.out.trans (hb.mono HB2.out.size)).mono HB0.out.size))
    clear hb c0 c1 c2 c3 c4 c5 c6 c7 c8 c9 ca cb
    go_wp2_with fail
    go_ret
    exact ⟨rfl, HF.out⟩

end Go.Proofs.YtijkefflpojmhaaDoor

namespace Go.Proofs.YtijkefflpojmhaaDoor
open Go.RowKit

set_option maxHeartbeats 2000000 in
set_option maxRecDepth 100000 in
theorem parts_law0 (n : Nat) (x y : Ct) (cs ds : List Value) (w : World) (h : CtAt n w cs x) (hy : CtAt n w ds y) (hk : CKOk n x) (hj : CKOk n y) (hs : ShpAt w) (hp : PtsAt w) :
    Calls Tryd.prog 3 #[.agg cs.toArray, .agg ds.toArray] w (BelB w true) := by
  have hsh := h.shape
  obtain ⟨ea, el, ec, da, dl, dc, a, len, cap, rfl, _⟩ := hsh
  have hsh2 := hy.shape
  obtain ⟨eaq, elq, ecq, daq, dlq, dcq, aq, lenq, capq, rfl, _⟩ := hsh2
  show Calls Tryd.prog 3 #[.agg #[.int .u8 x.kind, .string x.frm, .string x.too, .string x.name, .int .u8 x.expr.kind, .string x.expr.rat, .string x.expr.name, .int .i64 x.expr.date, .slice ea el ec, .int .i64 x.date, .slice da dl dc, .slice a len cap], .agg #[.int .u8 y.kind, .string y.frm, .string y.too, .string y.name, .int .u8 y.expr.kind, .string y.expr.rat, .string y.expr.name, .int .i64 y.expr.date, .slice eaq elq ecq, .int .i64 y.date, .slice daq dlq dcq, .slice aq lenq capq]] w _
  obtain ⟨W0, hW0⟩ : ∃ W0, W0 = (w.alloc (.cells #[.int .u8 x.kind, .string x.frm, .string x.too, .string x.name, .int .u8 x.expr.kind, .string x.expr.rat, .string x.expr.name, .int .i64 x.expr.date, .slice ea el ec, .int .i64 x.date, .slice da dl dc, .slice a len cap] 29)).alloc (.cells #[.int .u8 y.kind, .string y.frm, .string y.too, .string y.name, .int .u8 y.expr.kind, .string y.expr.rat, .string y.expr.name, .int .i64 y.expr.date, .slice eaq elq ecq, .int .i64 y.date, .slice daq dlq dcq, .slice aq lenq capq] 29) := ⟨_, rfl⟩
  have hB0 : Below w.heap.size w W0 := by rw [hW0]; exact (own_below w _).alloc (by simp) _
  have hbx : W0.heap[w.heap.size]? = some (.cells #[.int .u8 x.kind, .string x.frm, .string x.too, .string x.name, .int .u8 x.expr.kind, .string x.expr.rat, .string x.expr.name, .int .i64 x.expr.date, .slice ea el ec, .int .i64 x.date, .slice da dl dc, .slice a len cap] 29) := by rw [hW0]; exact heap_two ..
  have hby : W0.heap[w.heap.size + 1]? = some (.cells #[.int .u8 y.kind, .string y.frm, .string y.too, .string y.name, .int .u8 y.expr.kind, .string y.expr.rat, .string y.expr.name, .int .i64 y.expr.date, .slice eaq elq ecq, .int .i64 y.date, .slice daq dlq dcq, .slice aq lenq capq] 29) := by
    rw [hW0]
    have := alloc_at (w.alloc (.cells #[.int .u8 x.kind, .string x.frm, .string x.too, .string x.name, .int .u8 x.expr.kind, .string x.expr.rat, .string x.expr.name, .int .i64 x.expr.date, .slice ea el ec, .int .i64 x.date, .slice da dl dc, .slice a len cap] 29)) (.cells #[.int .u8 y.kind, .string y.frm, .string y.too, .string y.name, .int .u8 y.expr.kind, .string y.expr.rat, .string y.expr.name, .int .i64 y.expr.date, .slice eaq elq ecq, .int .i64 y.date, .slice daq dlq dcq, .slice aq lenq capq] 29)
    rwa [World.size_alloc] at this
  have HCX : Hid (∀ W, Below W0.heap.size W0 W → _) := fun W hW => ctBox ((hW.block _ (Array.getElem?_eq_some_iff.1 hbx).1).trans hbx)
  have HCY : Hid (∀ W, Below W0.heap.size W0 W → _) := fun W hW => ctBox ((hW.block _ (Array.getElem?_eq_some_iff.1 hby).1).trans hby)
  have HGX : Hid (∀ W, Below W0.heap.size W0 W → Calls Tryd.prog 7 #[.agg #[.int .u8 x.kind, .string x.frm, .string x.too, .string x.name, .int .u8 x.expr.kind, .string x.expr.rat, .string x.expr.name, .int .i64 x.expr.date, .slice ea el ec, .int .i64 x.date, .slice da dl dc, .slice a len cap]] W (CGxP W x)) := fun W hW => cgreat_any n x _ W (CtAt.below (hB0.trans (hW.mono hB0.size)) h)
  have HGY : Hid (∀ W, Below W0.heap.size W0 W → Calls Tryd.prog 7 #[.agg #[.int .u8 y.kind, .string y.frm, .string y.too, .string y.name, .int .u8 y.expr.kind, .string y.expr.rat, .string y.expr.name, .int .i64 y.expr.date, .slice eaq elq ecq, .int .i64 y.date, .slice daq dlq dcq, .slice aq lenq capq]] W (CGxP W y)) := fun W hW => cgreat_any n y _ W (CtAt.below (hB0.trans (hW.mono hB0.size)) hy)
  have HIX : Hid (∀ W, Below W0.heap.size W0 W → x.size ≤ 700 → CSm 80 x → CtIn n x [.int .u8 x.kind, .string x.frm, .string x.too, .string x.name, .int .u8 x.expr.kind, .string x.expr.rat, .string x.expr.name, .int .i64 x.expr.date, .slice ea el ec, .int .i64 x.date, .slice da dl dc, .slice a len cap] W w) := fun W hW h1 h2 =>
    ⟨CtAt.below (hB0.trans (hW.mono hB0.size)) h, hk, by omega, ⟨80, by omega, h2⟩, hs, hB0.trans (hW.mono hB0.size)⟩
  have HIY : Hid (∀ W, Below W0.heap.size W0 W → y.size ≤ 700 → CSm 80 y → CtIn n y [.int .u8 y.kind, .string y.frm, .string y.too, .string y.name, .int .u8 y.expr.kind, .string y.expr.rat, .string y.expr.name, .int .i64 y.expr.date, .slice eaq elq ecq, .int .i64 y.date, .slice daq dlq dcq, .slice aq lenq capq] W w) := fun W hW h1 h2 =>
    ⟨CtAt.below (hB0.trans (hW.mono hB0.size)) hy, hj, by omega, ⟨80, by omega, h2⟩, hs, hB0.trans (hW.mono hB0.size)⟩
  have HAL : Hid (Calls Tryd.prog 6 #[] W0 (BelB W0 true)) := alive14 hs hp W0 hB0
  have HW0 := Lib.hid hW0
  have HB0 := Lib.hid hB0
  have HPTS := Lib.hid hp
  have HSHP := Lib.hid hs
  have HKX := Lib.hid hk
  have HKY := Lib.hid hj
  have hbxl := (Array.getElem?_eq_some_iff.1 hbx).1
  have hbyl := (Array.getElem?_eq_some_iff.1 hby).1
  clear hW0 hB0 hbx hby h hy hk hj hs hp
  go_enter Tryd.func3, Tryd.ntmps3
  go_wp2_with fail
  rw [← HW0.out]
  refine HAL.out.mono ?_
  rintro e w1 ⟨rfl, hb⟩
  have HB1 := Lib.hid hb
  clear hb
  obtain ⟨c0, c1, c2, c3, c4, c5, c6, c7, c8, c9, ca, cb⟩ := HCX.out w1 HB1.out
  obtain ⟨m0, m1, m2, m3, m4, m5, m6, m7, m8, m9, ma, mb⟩ := HCY.out w1 HB1.out
  go_wp2_with fail
  refine (HGX.out _ HB1.out).mono ?_
  rintro e w2 ⟨he, hb⟩
  have HB2 := Lib.hid (HB1.out.trans (hb.mono HB1.out.size))
  clear hb c0 c1 c2 c3 c4 c5 c6 c7 c8 c9 ca cb m0 m1 m2 m3 m4 m5 m6 m7 m8 m9 ma mb
  rcases he with rfl | ⟨rfl, h7, h80⟩
  · have HF := Lib.hid (HB0.out.trans (HB2.out.mono HB0.out.size))
    go_wp2_with fail
    go_ret
    exact ⟨rfl, HF.out⟩
  obtain ⟨m0, m1, m2, m3, m4, m5, m6, m7, m8, m9, ma, mb⟩ := HCY.out w2 HB2.out
  go_wp2_with fail
  refine (HGY.out _ HB2.out).mono ?_
  rintro e w3 ⟨he, hb⟩
  have HB3 := Lib.hid (HB2.out.trans (hb.mono HB2.out.size))
  clear hb m0 m1 m2 m3 m4 m5 m6 m7 m8 m9 ma mb
  rcases he with rfl | ⟨rfl, g7, g80⟩
  · have HF := Lib.hid (HB0.out.trans (HB3.out.mono HB0.out.size))
    go_wp2_with fail
    go_ret
    exact ⟨rfl, HF.out⟩
  have HPX := Lib.hid (pcprint_any n x _ w3 w HPTS.out (HIX.out w3 HB3.out h7 h80))
  have HPY : Hid (∀ W, Below W0.heap.size W0 W → Calls Tryd.prog 8 #[.agg #[.int .u8 y.kind, .string y.frm, .string y.too, .string y.name, .int .u8 y.expr.kind, .string y.expr.rat, .string y.expr.name, .int .i64 y.expr.date, .slice eaq elq ecq, .int .i64 y.date, .slice daq dlq dcq, .slice aq lenq capq]] W (PrP W (prS (chkC y) (rcT n y)) (prE (chkC y) (rcT n y)))) := fun W hW => pcprint_any n y _ W w HPTS.out (HIY.out W hW g7 g80)
  obtain ⟨TX, hTX⟩ : ∃ T, T = rcT n x := ⟨_, rfl⟩
  obtain ⟨TY, hTY⟩ : ∃ T, T = rcT n y := ⟨_, rfl⟩
  rw [← hTX] at HPX
  rw [← hTY] at HPY
  obtain ⟨kx, hkx⟩ : ∃ c, c = chkC x := ⟨_, rfl⟩
  obtain ⟨ky, hky⟩ : ∃ c, c = chkC y := ⟨_, rfl⟩
  rw [← hkx] at HPX
  rw [← hky] at HPY
  obtain ⟨SX, hSX⟩ : ∃ S, S = prS kx TX := ⟨_, rfl⟩
  obtain ⟨VX, hVX⟩ : ∃ V, V = prE kx TX := ⟨_, rfl⟩
  obtain ⟨SY, hSY⟩ : ∃ S, S = prS ky TY := ⟨_, rfl⟩
  obtain ⟨VY, hVY⟩ : ∃ V, V = prE ky TY := ⟨_, rfl⟩
  rw [← hSX, ← hVX] at HPX
  rw [← hSY, ← hVY] at HPY
  have H7 := Lib.hid (And.intro h7 (And.intro h80 (And.intro g7 g80)))
  have HTX := Lib.hid hTX
  have HTY := Lib.hid hTY
  have HSX := Lib.hid hSX
  have HVX := Lib.hid hVX
  have HSY := Lib.hid hSY
  have HVY := Lib.hid hVY
  clear h7 h80 g7 g80 hTX hTY hkx hky hSX hVX hSY hVY
  obtain ⟨c0, c1, c2, c3, c4, c5, c6, c7, c8, c9, ca, cb⟩ := HCX.out w3 HB3.out
  go_wp2_with fail
  refine HPX.out.mono ?_
  rintro e w4 ⟨rfl, hb⟩
  have HB4 := Lib.hid (HB3.out.trans (hb.mono HB3.out.size))
  clear hb c0 c1 c2 c3 c4 c5 c6 c7 c8 c9 ca cb
  obtain ⟨m0, m1, m2, m3, m4, m5, m6, m7, m8, m9, ma, mb⟩ := HCY.out w4 HB4.out
  go_wp2_with fail
  refine (HPY.out _ HB4.out).mono ?_
  rintro e w5 ⟨rfl, hb⟩
  have HB5 := Lib.hid (HB4.out.trans (hb.mono HB4.out.size))
  clear hb m0 m1 m2 m3 m4 m5 m6 m7 m8 m9 ma mb
  have HF5 := Lib.hid (HB0.out.trans (HB5.out.mono HB0.out.size))
  by_cases hvx : VX = 0
  rotate_left
  · have q : ((VX : Int) != 0) = true := ine_true hvx
    go_wp2_with fail
    go_ret
    exact ⟨rfl, HF5.out⟩
  subst hvx
  by_cases hvy : VY = 0
  rotate_left
  · have q : ((VY : Int) != 0) = true := ine_true hvy
    go_wp2_with fail
    go_ret
    exact ⟨rfl, HF5.out⟩
  subst hvy
  have pz : ∀ {c : Int} {T : List UInt8} {S : ByteArray}, 0 = prE c T → S = prS c T → S.data.toList = T ∧ T.length ≤ 20000 := fun {c T S} h1 h2 => by
    unfold prE at h1
    by_cases hc : c = 0
    · rw [if_neg (by simpa using hc)] at h1
      have hl : ¬ 20000 < T.length := fun q => by rw [if_pos q] at h1; cases h1
      refine ⟨?_, by omega⟩
      rw [h2]; unfold prS
      rw [if_neg (by simp [hc]), if_neg hl]
    · rw [if_pos hc] at h1; exact absurd h1.symm hc
  obtain ⟨hsx, hlx⟩ := pz HVX.out HSX.out
  obtain ⟨hsy, hly⟩ := pz HVY.out HSY.out
  have hzx := ba_size hsx
  have hzy := ba_size hsy
  obtain ⟨MX, hMX⟩ : ∃ m : ByteArray, m = ⟨(mvT TX).toArray⟩ := ⟨_, rfl⟩
  obtain ⟨MY, hMY⟩ : ∃ m : ByteArray, m = ⟨(mvT TY).toArray⟩ := ⟨_, rfl⟩
  have HMX : Hid (∀ W, Calls Tryd.prog 9 #[.string SX] W (fun e w' => e = .returned (.string MX) ∧ Below W.heap.size W w')) := fun W => by
    have := rmoved_any SX W (by omega)
    unfold RxP at this
    rwa [hsx, ← hMX] at this
  have HMY : Hid (∀ W, Calls Tryd.prog 9 #[.string SY] W (fun e w' => e = .returned (.string MY) ∧ Below W.heap.size W w')) := fun W => by
    have := rmoved_any SY W (by omega)
    unfold RxP at this
    rwa [hsy, ← hMY] at this
  have HMXl : Hid (MX.data.toList = mvT (rcT n x)) := by show _ = _; rw [hMX, ← HTX.out]
  have HMYl : Hid (MY.data.toList = mvT (rcT n y)) := by show _ = _; rw [hMY, ← HTY.out]
  have hmz : ∀ (T : List UInt8), T.length ≤ 20000 → (mvT T).length ≤ 100000 := fun T hT => by
    have h1 := mvN_len T T.length (Nat.le_refl _)
    rw [mvN_all T T.length (Nat.le_refl _)] at h1
    omega
  have hmx : MX.size ≤ 100000 := by rw [ba_size (show MX.data.toList = mvT TX by rw [hMX])]; exact hmz _ hlx
  have hmy : MY.size ≤ 100000 := by rw [ba_size (show MY.data.toList = mvT TY by rw [hMY])]; exact hmz _ hly
  clear pz hsx hlx hsy hly hzx hzy hMX hMY hmz
  go_wp2_with fail
  refine (HMX.out _).mono ?_
  rintro e w6 ⟨rfl, hb⟩
  have HB6 := Lib.hid (HB5.out.trans (hb.mono HB5.out.size))
  clear hb
  go_wp2_with fail
  refine (HMY.out _).mono ?_
  rintro e w7 ⟨rfl, hb⟩
  have HB7 := Lib.hid (HB6.out.trans (hb.mono HB6.out.size))
  clear hb
  obtain ⟨c0, c1, c2, c3, c4, c5, c6, c7, c8, c9, ca, cb⟩ := HCX.out w7 HB7.out
  obtain ⟨m0, m1, m2, m3, m4, m5, m6, m7, m8, m9, ma, mb⟩ := HCY.out w7 HB7.out
  have HCbC : Hid (∀ W, Below W0.heap.size W0 W → Calls Tryd.prog 10 #[.agg #[.int .u8 3, .string ⟨#[]⟩, .string ⟨#[]⟩, .string ⟨#[]⟩, .int .u8 0, .string ⟨#[]⟩, .string ⟨#[]⟩, .int .i64 0, .slice none 0 0, .int .i64 0, .slice none 0 0, .slice (some ⟨W.heap.size, 0, none⟩) 2 2], .string (ByteArray.mk #[98, 111, 116, 104, 32, 123, 10] ++ MX ++ ByteArray.mk #[59, 10] ++ MY ++ ByteArray.mk #[10, 125])] (W.alloc (.cells #[.int .u8 x.kind, .string x.frm, .string x.too, .string x.name, .int .u8 x.expr.kind, .string x.expr.rat, .string x.expr.name, .int .i64 x.expr.date, .slice ea el ec, .int .i64 x.date, .slice da dl dc, .slice a len cap, .int .u8 y.kind, .string y.frm, .string y.too, .string y.name, .int .u8 y.expr.kind, .string y.expr.rat, .string y.expr.name, .int .i64 y.expr.date, .slice eaq elq ecq, .int .i64 y.date, .slice daq dlq dcq, .slice aq lenq capq] 29)) (BelB (W.alloc (.cells #[.int .u8 x.kind, .string x.frm, .string x.too, .string x.name, .int .u8 x.expr.kind, .string x.expr.rat, .string x.expr.name, .int .i64 x.expr.date, .slice ea el ec, .int .i64 x.date, .slice da dl dc, .slice a len cap, .int .u8 y.kind, .string y.frm, .string y.too, .string y.name, .int .u8 y.expr.kind, .string y.expr.rat, .string y.expr.name, .int .i64 y.expr.date, .slice eaq elq ecq, .int .i64 y.date, .slice daq dlq dcq, .slice aq lenq capq] 29)) true)) := fun W hW => by
    have hB := own_below W (.cells #[.int .u8 x.kind, .string x.frm, .string x.too, .string x.name, .int .u8 x.expr.kind, .string x.expr.rat, .string x.expr.name, .int .i64 x.expr.date, .slice ea el ec, .int .i64 x.date, .slice da dl dc, .slice a len cap, .int .u8 y.kind, .string y.frm, .string y.too, .string y.name, .int .u8 y.expr.kind, .string y.expr.rat, .string y.expr.name, .int .i64 y.expr.date, .slice eaq elq ecq, .int .i64 y.date, .slice daq dlq dcq, .slice aq lenq capq] 29)
    have hWW := hW.trans (hB.mono hW.size)
    have hg := alloc_at W (.cells #[.int .u8 x.kind, .string x.frm, .string x.too, .string x.name, .int .u8 x.expr.kind, .string x.expr.rat, .string x.expr.name, .int .i64 x.expr.date, .slice ea el ec, .int .i64 x.date, .slice da dl dc, .slice a len cap, .int .u8 y.kind, .string y.frm, .string y.too, .string y.name, .int .u8 y.expr.kind, .string y.expr.rat, .string y.expr.name, .int .i64 y.expr.date, .slice eaq elq ecq, .int .i64 y.date, .slice daq dlq dcq, .slice aq lenq capq] 29)
    have hok := (two_ok 3 (by omega) ⟨#[]⟩ ⟨#[]⟩ (by decide) (by decide) HKX.out HKY.out H7.out.1 H7.out.2.2.1 H7.out.2.1 H7.out.2.2.2)
    refine printed_any HPTS.out (n + 1) (bC x y) _ _ _ ⟨(ctAt_two hg (HIX.out _ hWW H7.out.1 H7.out.2.1).at_ (HIY.out _ hWW H7.out.2.2.1 H7.out.2.2.2).at_ 3 0 ⟨#[]⟩ eS ⟨#[]⟩), hok.1, hok.2.1, hok.2.2, HSHP.out, HB0.out.trans (hWW.mono HB0.out.size)⟩ fun _ => ?_
    rw [bC_txt]
    simp [HMXl.out, HMYl.out]
  have HCkC : Hid (∀ W, Below W0.heap.size W0 W → Calls Tryd.prog 10 #[.agg #[.int .u8 7, .string ⟨#[65]⟩, .string ⟨#[]⟩, .string ⟨#[110]⟩, .int .u8 0, .string ⟨#[]⟩, .string ⟨#[]⟩, .int .i64 0, .slice none 0 0, .int .i64 0, .slice none 0 0, .slice (some ⟨W.heap.size, 0, none⟩) 2 2], .string (ByteArray.mk #[99, 104, 111, 105, 99, 101, 32, 110, 32, 98, 121, 32, 65, 32, 123, 10] ++ MX ++ ByteArray.mk #[10, 125, 32, 101, 108, 115, 101, 32, 123, 10] ++ MY ++ ByteArray.mk #[10, 125])] (W.alloc (.cells #[.int .u8 x.kind, .string x.frm, .string x.too, .string x.name, .int .u8 x.expr.kind, .string x.expr.rat, .string x.expr.name, .int .i64 x.expr.date, .slice ea el ec, .int .i64 x.date, .slice da dl dc, .slice a len cap, .int .u8 y.kind, .string y.frm, .string y.too, .string y.name, .int .u8 y.expr.kind, .string y.expr.rat, .string y.expr.name, .int .i64 y.expr.date, .slice eaq elq ecq, .int .i64 y.date, .slice daq dlq dcq, .slice aq lenq capq] 29)) (BelB (W.alloc (.cells #[.int .u8 x.kind, .string x.frm, .string x.too, .string x.name, .int .u8 x.expr.kind, .string x.expr.rat, .string x.expr.name, .int .i64 x.expr.date, .slice ea el ec, .int .i64 x.date, .slice da dl dc, .slice a len cap, .int .u8 y.kind, .string y.frm, .string y.too, .string y.name, .int .u8 y.expr.kind, .string y.expr.rat, .string y.expr.name, .int .i64 y.expr.date, .slice eaq elq ecq, .int .i64 y.date, .slice daq dlq dcq, .slice aq lenq capq] 29)) true)) := fun W hW => by
    have hB := own_below W (.cells #[.int .u8 x.kind, .string x.frm, .string x.too, .string x.name, .int .u8 x.expr.kind, .string x.expr.rat, .string x.expr.name, .int .i64 x.expr.date, .slice ea el ec, .int .i64 x.date, .slice da dl dc, .slice a len cap, .int .u8 y.kind, .string y.frm, .string y.too, .string y.name, .int .u8 y.expr.kind, .string y.expr.rat, .string y.expr.name, .int .i64 y.expr.date, .slice eaq elq ecq, .int .i64 y.date, .slice daq dlq dcq, .slice aq lenq capq] 29)
    have hWW := hW.trans (hB.mono hW.size)
    have hg := alloc_at W (.cells #[.int .u8 x.kind, .string x.frm, .string x.too, .string x.name, .int .u8 x.expr.kind, .string x.expr.rat, .string x.expr.name, .int .i64 x.expr.date, .slice ea el ec, .int .i64 x.date, .slice da dl dc, .slice a len cap, .int .u8 y.kind, .string y.frm, .string y.too, .string y.name, .int .u8 y.expr.kind, .string y.expr.rat, .string y.expr.name, .int .i64 y.expr.date, .slice eaq elq ecq, .int .i64 y.date, .slice daq dlq dcq, .slice aq lenq capq] 29)
    have hok := (two_ok 7 (by omega) ⟨#[65]⟩ ⟨#[110]⟩ (by decide) (by decide) HKX.out HKY.out H7.out.1 H7.out.2.2.1 H7.out.2.1 H7.out.2.2.2)
    refine printed_any HPTS.out (n + 1) (kC x y) _ _ _ ⟨(ctAt_two hg (HIX.out _ hWW H7.out.1 H7.out.2.1).at_ (HIY.out _ hWW H7.out.2.2.1 H7.out.2.2.2).at_ 7 0 ⟨#[65]⟩ eS ⟨#[110]⟩), hok.1, hok.2.1, hok.2.2, HSHP.out, HB0.out.trans (hWW.mono HB0.out.size)⟩ fun _ => ?_
    rw [kC_txt]
    simp [HMXl.out, HMYl.out]
  have HCoC : Hid (∀ W, Below W0.heap.size W0 W → Calls Tryd.prog 10 #[.agg #[.int .u8 6, .string ⟨#[]⟩, .string ⟨#[]⟩, .string ⟨#[]⟩, .int .u8 0, .string ⟨#[]⟩, .string ⟨#[]⟩, .int .i64 0, .slice none 0 0, .int .i64 0, .slice none 0 0, .slice (some ⟨W.heap.size, 0, none⟩) 1 1], .string (ByteArray.mk #[111, 110, 32, 49, 57, 48, 48, 45, 48, 49, 45, 48, 49, 32, 123, 10] ++ MX ++ ByteArray.mk #[10, 125])] (W.alloc (.cells #[.int .u8 x.kind, .string x.frm, .string x.too, .string x.name, .int .u8 x.expr.kind, .string x.expr.rat, .string x.expr.name, .int .i64 x.expr.date, .slice ea el ec, .int .i64 x.date, .slice da dl dc, .slice a len cap] 29)) (BelB (W.alloc (.cells #[.int .u8 x.kind, .string x.frm, .string x.too, .string x.name, .int .u8 x.expr.kind, .string x.expr.rat, .string x.expr.name, .int .i64 x.expr.date, .slice ea el ec, .int .i64 x.date, .slice da dl dc, .slice a len cap] 29)) true)) := fun W hW => by
    have hB := own_below W (.cells #[.int .u8 x.kind, .string x.frm, .string x.too, .string x.name, .int .u8 x.expr.kind, .string x.expr.rat, .string x.expr.name, .int .i64 x.expr.date, .slice ea el ec, .int .i64 x.date, .slice da dl dc, .slice a len cap] 29)
    have hWW := hW.trans (hB.mono hW.size)
    have hg := alloc_at W (.cells #[.int .u8 x.kind, .string x.frm, .string x.too, .string x.name, .int .u8 x.expr.kind, .string x.expr.rat, .string x.expr.name, .int .i64 x.expr.date, .slice ea el ec, .int .i64 x.date, .slice da dl dc, .slice a len cap] 29)
    have hok := (one_ok 6 (by omega) HKX.out H7.out.1 H7.out.2.1)
    refine printed_any HPTS.out (n + 1) (oC x) _ _ _ ⟨(ctAt_one hg (HIX.out _ hWW H7.out.1 H7.out.2.1).at_ 6 0 eS eS eS), hok.1, hok.2.1, hok.2.2, HSHP.out, HB0.out.trans (hWW.mono HB0.out.size)⟩ fun _ => ?_
    rw [oC_txt]
    simp [HMXl.out]
  go_wp2_with fail
  refine (HCbC.out _ HB7.out).mono ?_
  rintro e w8 ⟨rfl, hb⟩
  have HB8 : Hid (Below W0.heap.size W0 w8) := (HB7.out.alloc HB7.out.size _).trans (hb.mono (HB7.out.alloc HB7.out.size _).size)
  clear hb c0 c1 c2 c3 c4 c5 c6 c7 c8 c9 ca cb m0 m1 m2 m3 m4 m5 m6 m7 m8 m9 ma mb
  obtain ⟨c0, c1, c2, c3, c4, c5, c6, c7, c8, c9, ca, cb⟩ := HCX.out w8 HB8.out
  obtain ⟨m0, m1, m2, m3, m4, m5, m6, m7, m8, m9, ma, mb⟩ := HCY.out w8 HB8.out
  go_wp2_with fail
  refine (HCkC.out _ HB8.out).mono ?_
  rintro e w9 ⟨rfl, hb⟩
  have HB9 : Hid (Below W0.heap.size W0 w9) := (HB8.out.alloc HB8.out.size _).trans (hb.mono (HB8.out.alloc HB8.out.size _).size)
  clear hb c0 c1 c2 c3 c4 c5 c6 c7 c8 c9 ca cb m0 m1 m2 m3 m4 m5 m6 m7 m8 m9 ma mb
  obtain ⟨c0, c1, c2, c3, c4, c5, c6, c7, c8, c9, ca, cb⟩ := HCX.out w9 HB9.out
  go_wp2_with fail
  refine (HCoC.out _ HB9.out).mono ?_
  rintro e wx ⟨rfl, hb⟩
  have HBX : Hid (Below W0.heap.size W0 wx) := (HB9.out.alloc HB9.out.size _).trans (hb.mono (HB9.out.alloc HB9.out.size _).size)
  have HF := Lib.hid (HB0.out.trans (HBX.out.mono HB0.out.size))
  clear hb c0 c1 c2 c3 c4 c5 c6 c7 c8 c9 ca cb
  go_wp2_with fail
  go_ret
  exact ⟨rfl, HF.out⟩
theorem parts_law (n m : Nat) (x y : Ct) (cs ds : List Value) (w : World) (h : CtAt n w cs x) (hy : CtAt m w ds y) (hk : CKOk n x) (hj : CKOk m y) (hs : ShpAt w) (hp : PtsAt w) :
    Calls Tryd.prog 3 #[.agg cs.toArray, .agg ds.toArray] w (BelB w true) :=
  parts_law0 (max n m) x y cs ds w (CtAt.up (Nat.le_max_left _ _) h) (CtAt.up (Nat.le_max_right _ _) hy) (CKOk.up (Nat.le_max_left _ _) hk) (CKOk.up (Nat.le_max_right _ _) hj) hs hp

end Go.Proofs.YtijkefflpojmhaaDoor
