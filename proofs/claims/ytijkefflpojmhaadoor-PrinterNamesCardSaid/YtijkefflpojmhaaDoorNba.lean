/-
  The law PrinterParts: the contracts that are put together, their texts; printed walked. No condition. The law PrinterNames: the examples' expressions, their texts, that they are valid. No program. The law PrinterNames: its function value expr. No condition. The law PrinterNames: the example of the words. No condition. The law PrinterNames: the example of a choice. No condition. The law PrinterNames: Quote at its examples, the bare expression. No condition. The law PrinterNames: zeros, the great number's text. No condition. The law PrinterNames: a sum that is too long. No condition.
-/
import Derived.Test.YtijkefflpojmhaaDoorZao
import Derived.Test.YtijkefflpojmhaaDoorZai
import Derived.Deep.RegionHeld3
import Derived.IntWalk
namespace Go.Proofs.YtijkefflpojmhaaDoor
open Go.RowKit

def bC (x y : Ct) : Ct := .mk 3 eS eS eS exB 0 [] [x, y]
def kC (x y : Ct) : Ct := .mk 7 ⟨#[65]⟩ eS ⟨#[110]⟩ exB 0 [] [x, y]
def oC (x : Ct) : Ct := .mk 6 eS eS eS exB 0 [] [x]
theorem date_0p : DateIs 0 1900 1 1 := ⟨by decide, by decide, by decide, by decide, of_decide_eq_true (by kernel_rfl), of_decide_eq_true (by kernel_rfl)⟩
theorem dtxt_0 : dtxt 0 = [49, 57, 48, 48, 45, 48, 49, 45, 48, 49] := by
  rw [dtxt_is (n := 0) date_0p]; decide
theorem bC_txt (n : Nat) (x y : Ct) : rcT (n + 1) (bC x y) = [98, 111, 116, 104, 32, 123, 10] ++ mvT (rcT n x) ++ [59, 10] ++ mvT (rcT n y) ++ [10, 125] := by
  rw [rcT]; rfl
theorem kC_txt (n : Nat) (x y : Ct) : rcT (n + 1) (kC x y) = [99, 104, 111, 105, 99, 101, 32, 110, 32, 98, 121, 32, 65, 32, 123, 10] ++ mvT (rcT n x) ++ [10, 125, 32, 101, 108, 115, 101, 32, 123, 10] ++ mvT (rcT n y) ++ [10, 125] := by
  rw [rcT]
  simp [kC, Ct.kind, headT, Ct.name, Ct.frm, qn, kwB, kwL, inT, crt, Ct.sub]
theorem oC_txt (n : Nat) (x : Ct) : rcT (n + 1) (oC x) = [111, 110, 32, 49, 57, 48, 48, 45, 48, 49, 45, 48, 49, 32, 123, 10] ++ mvT (rcT n x) ++ [10, 125] := by
  rw [rcT]
  simp [oC, Ct.kind, headT, Ct.date, dtxt_0, inT, crt, Ct.sub]
theorem exB_size : exB.size = 1 := by simp [exB, Ex.size_is, Ex.sub]
theorem exB_ok (n : Nat) : KOk (n + 1) exB ∧ SmX (n + 1) exB := by
  constructor
  · simp [KOk, exB, Ex.kind, Ex.sub]
  · simp [SmX, exB, Ex.name, Ex.rat, Ex.sub, eS]
    decide
/-- What is put together is small. -/
theorem two_ok {n : Nat} {x y : Ct} (k : Int) (hk0 : 0 ≤ k ∧ k ≤ 255) (f s : ByteArray) (hf : f.size ≤ 200) (hs : s.size ≤ 200) (kx : CKOk n x) (ky : CKOk n y) (sx : x.size ≤ 700) (sy : y.size ≤ 700) (mx : CSm 80 x) (my : CSm 80 y) :
    CKOk (n + 1) (.mk k f eS s exB 0 [] [x, y]) ∧ (Ct.mk k f eS s exB 0 [] [x, y]).size ≤ 3000 ∧ ∃ d, d ≤ 90 ∧ CSm d (.mk k f eS s exB 0 [] [x, y]) := by
  have e0 : eS.size ≤ 200 := by decide
  refine ⟨⟨hk0, (exB_ok n).1, fun z hz => ?_⟩, ?_, 81, by omega, ⟨hs, hf, e0, by show 0 ≤ 200; omega, ?_⟩, (exB_ok 80).2, fun z hz => ?_⟩
  · have hz' : z ∈ [x, y] := hz
    simp only [List.mem_cons, List.not_mem_nil, or_false] at hz'
    rcases hz' with rfl | rfl
    · exact kx
    · exact ky
  · rw [Ct.size_is]
    show 1 + exB.size + (x.size + (y.size + 0)) ≤ 3000
    rw [exB_size]; omega
  · show exB.size ≤ 1000; rw [exB_size]; omega
  · have hz' : z ∈ [x, y] := hz
    simp only [List.mem_cons, List.not_mem_nil, or_false] at hz'
    rcases hz' with rfl | rfl
    · exact mx
    · exact my
theorem one_ok {n : Nat} {x : Ct} (k : Int) (hk0 : 0 ≤ k ∧ k ≤ 255) (kx : CKOk n x) (sx : x.size ≤ 700) (mx : CSm 80 x) :
    CKOk (n + 1) (.mk k eS eS eS exB 0 [] [x]) ∧ (Ct.mk k eS eS eS exB 0 [] [x]).size ≤ 3000 ∧ ∃ d, d ≤ 90 ∧ CSm d (.mk k eS eS eS exB 0 [] [x]) := by
  have e0 : eS.size ≤ 200 := by decide
  refine ⟨⟨hk0, (exB_ok n).1, fun z hz => ?_⟩, ?_, 81, by omega, ⟨e0, e0, e0, by show 0 ≤ 200; omega, ?_⟩, (exB_ok 80).2, fun z hz => ?_⟩
  · have hz' : z ∈ [x] := hz
    rw [List.mem_singleton.1 hz']; exact kx
  · rw [Ct.size_is]
    show 1 + exB.size + (x.size + 0) ≤ 3000
    rw [exB_size]; omega
  · show exB.size ≤ 1000; rw [exB_size]; omega
  · have hz' : z ∈ [x] := hz
    rw [List.mem_singleton.1 hz']; exact mx
set_option maxHeartbeats 2000000 in
set_option maxRecDepth 100000 in
theorem printed_any {Wg : World} (hp : PtsAt Wg) (n : Nat) (x : Ct) (cs : List Value) (t : ByteArray) (w : World) (h : CtIn n x cs w Wg) (ht : chkC x = 0 → t.data.toList = rcT n x) :
    Calls Tryd.prog 10 #[.agg cs.toArray, .string t] w (BelB w true) := by
  have hsh := h.at_.shape
  obtain ⟨ea, el, ec, da, dl, dc, a, len, cap, rfl, _⟩ := hsh
  show Calls Tryd.prog 10 #[.agg #[.int .u8 x.kind, .string x.frm, .string x.too, .string x.name, .int .u8 x.expr.kind, .string x.expr.rat, .string x.expr.name, .int .i64 x.expr.date, .slice ea el ec, .int .i64 x.date, .slice da dl dc, .slice a len cap], .string t] w _
  obtain ⟨W0, hW0⟩ : ∃ W0, W0 = w.alloc (.cells #[.int .u8 x.kind, .string x.frm, .string x.too, .string x.name, .int .u8 x.expr.kind, .string x.expr.rat, .string x.expr.name, .int .i64 x.expr.date, .slice ea el ec, .int .i64 x.date, .slice da dl dc, .slice a len cap] 29) := ⟨_, rfl⟩
  have hB0 : Below w.heap.size w W0 := by rw [hW0]; exact own_below w _
  have hbx : W0.heap[w.heap.size]? = some (.cells #[.int .u8 x.kind, .string x.frm, .string x.too, .string x.name, .int .u8 x.expr.kind, .string x.expr.rat, .string x.expr.name, .int .i64 x.expr.date, .slice ea el ec, .int .i64 x.date, .slice da dl dc, .slice a len cap] 29) := by rw [hW0]; exact heap_alloc_new w _
  have HCC : Hid (∀ W, Below W0.heap.size W0 W → _) := fun W hW => ctBox ((hW.block _ (Array.getElem?_eq_some_iff.1 hbx).1).trans hbx)
  have h0 := h.below hB0
  have HPR : Hid (Calls Tryd.prog 8 #[.agg #[.int .u8 x.kind, .string x.frm, .string x.too, .string x.name, .int .u8 x.expr.kind, .string x.expr.rat, .string x.expr.name, .int .i64 x.expr.date, .slice ea el ec, .int .i64 x.date, .slice da dl dc, .slice a len cap]] W0 (PrP W0 (prS (chkC x) (rcT n x)) (prE (chkC x) (rcT n x)))) := pcprint_any n x _ W0 Wg hp h0
  have HCK : Hid (∀ W, Below W0.heap.size W0 W → Calls Tryd.prog 18 #[.agg #[.int .u8 x.kind, .string x.frm, .string x.too, .string x.name, .int .u8 x.expr.kind, .string x.expr.rat, .string x.expr.name, .int .i64 x.expr.date, .slice ea el ec, .int .i64 x.date, .slice da dl dc, .slice a len cap]] W (IntP W (chkC x))) := fun W hW => pcchk_any n x _ W Wg hp (h0.below hW)
  obtain ⟨c, hc⟩ : ∃ c, c = chkC x := ⟨_, rfl⟩
  obtain ⟨T, hT⟩ : ∃ T, T = rcT n x := ⟨_, rfl⟩
  rw [← hc] at HPR HCK ht
  rw [← hT] at HPR ht
  obtain ⟨S, hS⟩ : ∃ S, S = prS c T := ⟨_, rfl⟩
  obtain ⟨V, hV⟩ : ∃ V, V = prE c T := ⟨_, rfl⟩
  rw [← hS, ← hV] at HPR
  have HS := Lib.hid hS
  have HV := Lib.hid hV
  have HT := Lib.hid ht
  have HW0 := Lib.hid hW0
  have HB0 := Lib.hid hB0
  clear hS hV ht hc hT hW0 hB0 hbx h h0 hp
  go_enter Tryd.func10, Tryd.ntmps10
  go_wp2_with fail
  rw [← HW0.out]
  refine HPR.out.mono ?_
  rintro e w1 ⟨rfl, hb⟩
  have HB1 := Lib.hid hb
  clear hb
  obtain ⟨c0, c1, c2, c3, c4, c5, c6, c7, c8, c9, ca, cb⟩ := HCC.out w1 HB1.out
  go_wp2_with fail
  refine (HCK.out _ HB1.out).mono ?_
  rintro e w2 ⟨rfl, hb⟩
  have HB2 := Lib.hid (HB1.out.trans (hb.mono HB1.out.size))
  clear hb c0 c1 c2 c3 c4 c5 c6 c7 c8 c9 ca cb
  by_cases hc0 : c = 0
  · subst hc0
    have hTt := HT.out rfl
    have htz := ba_size hTt
    by_cases hl : 20000 < t.size
    · have hv : V = 4 := by rw [HV.out]; unfold prE; rw [if_neg (by simp), if_pos (by omega)]
      subst hv
      have HF := Lib.hid (HB0.out.trans (HB2.out.mono HB0.out.size))
      clear hTt htz
      go_wp2_with fail
      go_ret
      exact ⟨rfl, HF.out⟩
    · have hv : V = 0 := by rw [HV.out]; unfold prE; rw [if_neg (by simp), if_neg (by omega)]
      subst hv
      have hs : S = t := by
        rw [HS.out]; unfold prS
        rw [if_neg (by simp), if_neg (by omega)]
        exact (ba_eq hTt).symm
      subst hs
      have HF := Lib.hid (HB0.out.trans (HB2.out.mono HB0.out.size))
      clear hTt htz
      go_wp2_with fail
      go_ret
      exact ⟨rfl, HF.out⟩
  · have hv : V = c := by rw [HV.out]; unfold prE; rw [if_pos hc0]
    subst hv
    have q : ((V : Int) != 0) = true := ine_true hc0
    obtain ⟨c0, c1, c2, c3, c4, c5, c6, c7, c8, c9, ca, cb⟩ := HCC.out w2 HB2.out
    go_wp2_with fail
    refine (HCK.out _ HB2.out).mono ?_
    rintro e w3 ⟨rfl, hb⟩
    have HF := Lib.hid (HB0.out.trans ((HB2.out.trans (hb.mono HB2.out.size)).mono HB0.out.size))
    clear hb c0 c1 c2 c3 c4 c5 c6 c7 c8 c9 ca cb
    go_wp2_with fail
    go_ret
    exact ⟨rfl, HF.out⟩

end Go.Proofs.YtijkefflpojmhaaDoor

namespace Go.Proofs.YtijkefflpojmhaaDoor
open Go.RowKit

def n1 : Ex := exR ⟨#[49]⟩
def n2 : Ex := exR ⟨#[50]⟩
def n3 : Ex := exR ⟨#[51]⟩
theorem chkR_dig (d : UInt8) (h : d = 49 ∨ d = 50 ∨ d = 51) : chkR [d] = 0 := by
  rcases h with rfl | rfl | rfl
  all_goals
    rw [chkR_int (by decide)]
    unfold chkZ
    rw [if_neg (by decide), chkN_yes ⟨by decide, by decide, by decide⟩]; rfl
theorem exR_srt {r : ByteArray} (h : chkR r.data.toList = 0) : (exR r).srt = 1 := by
  rw [Ex.srt_is]; simp [exR, srtP, shpL, Ex.kind, Ex.rat, Ex.name, Ex.date, Ex.sub, leafV, eS, h]
theorem n1_srt : n1.srt = 1 := exR_srt (chkR_dig 49 (by decide))
theorem n2_srt : n2.srt = 1 := exR_srt (chkR_dig 50 (by decide))
theorem n3_srt : n3.srt = 1 := exR_srt (chkR_dig 51 (by decide))
theorem exM_srt {k : Int} {a b : Ex} (hk : k = 4 ∨ k = 5 ∨ k = 6 ∨ k = 7 ∨ k = 8) (ha : a.srt = 1) (hb : b.srt = 1) : (exM k a b).srt = 1 := by
  rw [Ex.srt_is]
  rcases hk with rfl | rfl | rfl | rfl | rfl <;> simp [exM, srtP, shpL, Ex.kind, Ex.rat, Ex.name, Ex.date, Ex.sub, ha, hb, bareB, eS]
theorem exM_size (k : Int) (a b : Ex) : (exM k a b).size = 1 + (a.size + b.size) := by rw [Ex.size_is]; show 1 + (a.size + (b.size + 0)) = _; omega
theorem exR_size (r : ByteArray) : (exR r).size = 1 := by rw [Ex.size_is]; rfl
theorem exM_depth (k : Int) (a b : Ex) : (exM k a b).depth = 1 + max a.depth b.depth := by rw [Ex.depth_is]; simp [exM, Ex.sub, maxD]
theorem exR_depth (r : ByteArray) : (exR r).depth = 1 := by rw [Ex.depth_is]; rfl
theorem chkX_ok {x : Ex} (h1 : x.size ≤ 500) (h2 : x.depth ≤ 60) (h3 : x.srt ≠ 0) : chkX x = 0 := by
  unfold chkX; rw [if_neg (by omega), if_neg h3]
/-- What a printing of a valid tree in memory asks. -/
structure ExLit (n : Nat) (x : Ex) (t : List UInt8) : Prop where
  kok : KOk n x
  size : x.size ≤ 500
  small : SmX 90 x
  chk : chkX x = 0
  txt : rexT n x = t
theorem kok_R (n : Nat) (r : ByteArray) : KOk (n + 1) (exR r) := ⟨⟨by show (0 : Int) ≤ 1; decide, by show (1 : Int) ≤ 255; decide⟩, fun y hy => by cases hy⟩
theorem kok_M {n : Nat} {k : Int} {a b : Ex} (hk : 0 ≤ k ∧ k ≤ 255) (ha : KOk n a) (hb : KOk n b) : KOk (n + 1) (exM k a b) := ⟨hk, fun y hy => by
  have h : y ∈ [a, b] := hy
  simp only [List.mem_cons, List.not_mem_nil, or_false] at h
  rcases h with rfl | rfl
  · exact ha
  · exact hb⟩
theorem sm_R (n : Nat) {r : ByteArray} (h : r.size ≤ 2500) : SmX (n + 1) (exR r) := ⟨by show 0 ≤ 200; omega, h, fun y hy => by cases hy⟩
theorem sm_M {n : Nat} {k : Int} {a b : Ex} (ha : SmX n a) (hb : SmX n b) : SmX (n + 1) (exM k a b) := ⟨by show 0 ≤ 200; omega, by show 0 ≤ 2500; omega, fun y hy => by
  have h : y ∈ [a, b] := hy
  simp only [List.mem_cons, List.not_mem_nil, or_false] at h
  rcases h with rfl | rfl
  · exact ha
  · exact hb⟩
theorem three_lit {k j : Int} {a b c : Ex} (hk : k = 4 ∨ k = 5 ∨ k = 6 ∨ k = 7 ∨ k = 8) (hj : j = 4 ∨ j = 5 ∨ j = 6 ∨ j = 7 ∨ j = 8) (ha : a = n1 ∨ a = n2 ∨ a = n3) (hb : b = n1 ∨ b = n2 ∨ b = n3) (hc : c = n1 ∨ c = n2 ∨ c = n3) :
    (∀ t, rexT 3 (exM k (exM j a b) c) = t → ExLit 3 (exM k (exM j a b) c) t) ∧ (∀ t, rexT 3 (exM k a (exM j b c)) = t → ExLit 3 (exM k a (exM j b c)) t) := by
  have N : ∀ {x : Ex}, x = n1 ∨ x = n2 ∨ x = n3 → (∀ n, KOk (n + 1) x) ∧ x.size = 1 ∧ x.depth = 1 ∧ (∀ n, SmX (n + 1) x) ∧ x.srt = 1 := fun {x} h => by
    rcases h with rfl | rfl | rfl
    · exact ⟨fun n => kok_R n _, exR_size _, exR_depth _, fun n => sm_R n (by decide), n1_srt⟩
    · exact ⟨fun n => kok_R n _, exR_size _, exR_depth _, fun n => sm_R n (by decide), n2_srt⟩
    · exact ⟨fun n => kok_R n _, exR_size _, exR_depth _, fun n => sm_R n (by decide), n3_srt⟩
  obtain ⟨a1, a2, a3, a4, a5⟩ := N ha
  obtain ⟨b1, b2, b3, b4, b5⟩ := N hb
  obtain ⟨c1, c2, c3, c4, c5⟩ := N hc
  have hk2 : 0 ≤ k ∧ k ≤ 255 := by omega
  have hj2 : 0 ≤ j ∧ j ≤ 255 := by omega
  constructor
  · intro t ht
    exact ⟨kok_M hk2 (kok_M hj2 (a1 0) (b1 0)) (c1 1), by rw [exM_size, exM_size, a2, b2, c2]; omega, sm_M (sm_M (a4 87) (b4 87)) (c4 88),
      chkX_ok (by rw [exM_size, exM_size, a2, b2, c2]; omega) (by rw [exM_depth, exM_depth, a3, b3, c3]; decide) (by rw [exM_srt hk (exM_srt hj a5 b5) c5]; decide), ht⟩
  · intro t ht
    exact ⟨kok_M hk2 (a1 1) (kok_M hj2 (b1 0) (c1 0)), by rw [exM_size, exM_size, a2, b2, c2]; omega, sm_M (a4 88) (sm_M (b4 87) (c4 87)),
      chkX_ok (by rw [exM_size, exM_size, a2, b2, c2]; omega) (by rw [exM_depth, exM_depth, a3, b3, c3]; decide) (by rw [exM_srt hk a5 (exM_srt hj b5 c5)]; decide), ht⟩
theorem s1_lit : ExLit 3 (exM 5 (exM 5 n1 n2) n3) [49, 32, 45, 32, 50, 32, 45, 32, 51] := (three_lit (by decide) (by decide) (.inl rfl) (.inr (.inl rfl)) (.inr (.inr rfl))).1 _ (by
  simp [rexT, exM, exR, n1, n2, n3, Ex.kind, Ex.rat, Ex.sub, prt, parT, sumB, leafT, opS])
theorem s2_lit : ExLit 3 (exM 5 n1 (exM 5 n2 n3)) [49, 32, 45, 32, 40, 50, 32, 45, 32, 51, 41] := (three_lit (by decide) (by decide) (.inl rfl) (.inr (.inl rfl)) (.inr (.inr rfl))).2 _ (by
  simp [rexT, exM, exR, n1, n2, n3, Ex.kind, Ex.rat, Ex.sub, prt, parT, sumB, leafT, opS])
theorem s3_lit : ExLit 3 (exM 4 n1 (exM 6 n2 n3)) [49, 32, 43, 32, 50, 32, 42, 32, 51] := (three_lit (by decide) (by decide) (.inl rfl) (.inr (.inl rfl)) (.inr (.inr rfl))).2 _ (by
  simp [rexT, exM, exR, n1, n2, n3, Ex.kind, Ex.rat, Ex.sub, prt, parT, sumB, leafT, opS])
theorem s4_lit : ExLit 3 (exM 6 (exM 4 n1 n2) n3) [40, 49, 32, 43, 32, 50, 41, 32, 42, 32, 51] := (three_lit (by decide) (by decide) (.inl rfl) (.inr (.inl rfl)) (.inr (.inr rfl))).1 _ (by
  simp [rexT, exM, exR, n1, n2, n3, Ex.kind, Ex.rat, Ex.sub, prt, parT, sumB, leafT, opS])
theorem s5_lit : ExLit 3 (exM 6 n1 (exM 6 n2 n3)) [49, 32, 42, 32, 40, 50, 32, 42, 32, 51, 41] := (three_lit (by decide) (by decide) (.inl rfl) (.inr (.inl rfl)) (.inr (.inr rfl))).2 _ (by
  simp [rexT, exM, exR, n1, n2, n3, Ex.kind, Ex.rat, Ex.sub, prt, parT, sumB, leafT, opS])
theorem s6_lit : ExLit 3 (exM 6 (exM 6 n1 n2) n3) [49, 32, 42, 32, 50, 32, 42, 32, 51] := (three_lit (by decide) (by decide) (.inl rfl) (.inr (.inl rfl)) (.inr (.inr rfl))).1 _ (by
  simp [rexT, exM, exR, n1, n2, n3, Ex.kind, Ex.rat, Ex.sub, prt, parT, sumB, leafT, opS])

end Go.Proofs.YtijkefflpojmhaaDoor

namespace Go.Proofs.YtijkefflpojmhaaDoor
open Go.RowKit

/-- PrintExpr at a tree whose text is known. -/
theorem pexpr_lit {Wg : World} (hs : ShpAt Wg) {n : Nat} {x : Ex} {t : ByteArray} (hl : ExLit n x t.data.toList) (hz : t.size ≤ 20000) (w : World) (hb : Below Wg.heap.size Wg w) (cs : List Value) (hat : ExAt n w cs x) :
    Calls Tryd.prog 13 #[.agg cs.toArray] w (fun e w' => e = .returned (.tuple #[.string t, .int .i64 0]) ∧ Below w.heap.size w w') := by
  refine (pprint_any n x cs w Wg ⟨hat, hl.kok, by have := hl.size; omega, hl.small, hs, hb⟩ (by have := hl.size; omega)).mono ?_
  rintro e w' ⟨rfl, hb'⟩
  refine ⟨?_, hb'⟩
  have hts := ba_size hl.txt.symm
  have h1 : ¬ 20000 < (rexT n x).length := by omega
  have h2 : t = ⟨(rexT n x).toArray⟩ := ba_eq hl.txt.symm
  unfold prS prE
  rw [hl.chk, h2]
  simp only [ne_eq, not_true_eq_false, if_false, if_neg h1]
set_option maxHeartbeats 1000000 in
set_option maxRecDepth 100000 in
theorem nexpr_lit {Wg : World} (hs : ShpAt Wg) {n : Nat} {x : Ex} {t : ByteArray} (hl : ExLit n x t.data.toList) (hz : t.size ≤ 20000) (w : World) (hb : Below Wg.heap.size Wg w) (cs : List Value) (hat : ExAt n w cs x) :
    Calls Tryd.prog 12 #[.agg cs.toArray, .string t] w (BelB w true) := by
  have hsh := hat.shape
  obtain ⟨a, len, cap, rfl, _⟩ := hsh
  have hB0 := own_below w (.cells #[.int .u8 x.kind, .string x.rat, .string x.name, .int .i64 x.date, .slice a len cap] 25)
  have HP := Lib.hid (pexpr_lit hs hl hz _ (hb.trans (hB0.mono hb.size)) _ (ExAt.below hB0 hat))
  have HB0 := Lib.hid hB0
  clear hl hz hb hat hs hB0
  show Calls Tryd.prog 12 #[.agg #[.int .u8 x.kind, .string x.rat, .string x.name, .int .i64 x.date, .slice a len cap], .string t] w (BelB w true)
  go_enter Tryd.func12, Tryd.ntmps12
  go_wp2_with fail
  refine HP.out.mono ?_
  rintro e w1 ⟨rfl, hb⟩
  have HF := Lib.hid (HB0.out.trans (hb.mono HB0.out.size))
  clear hb
  go_wp2_with fail
  go_ret
  exact ⟨rfl, HF.out⟩

end Go.Proofs.YtijkefflpojmhaaDoor

namespace Go.Proofs.YtijkefflpojmhaaDoor
open Go.RowKit

def onE : Ex := .mk 2 eS ⟨#[111, 110]⟩ 0 []
def lsE : Ex := exM 11 onE (exM 4 n1 n2)
def noE : Ex := .mk 15 eS eS 0 [lsE]
def wdE : Ex := .mk 9 eS eS 0 [noE, exM 7 n1 n2, exM 8 n2 n1]
def wdS : ByteArray := ⟨#[99, 97, 115, 101, 40, 110, 111, 116, 40, 108, 101, 115, 115, 40, 34, 111, 110, 34, 64, 49, 57, 48, 48, 45, 48, 49, 45, 48, 49, 44, 32, 49, 32, 43, 32, 50, 41, 41, 44, 32, 109, 97, 120, 40, 49, 44, 32, 50, 41, 44, 32, 109, 105, 110, 40, 50, 44, 32, 49, 41, 41]⟩
theorem wd_txt : rexT 5 wdE = wdS.data.toList := by
  simp [rexT, wdE, noE, lsE, onE, exM, exR, n1, n2, Ex.kind, Ex.rat, Ex.name, Ex.date, Ex.sub, prt, parT, sumB, leafT, opS, wdL, commas, dtxt_0, qn, kwB, kwL, wdS]
theorem onE_srt : onE.srt = 1 := by
  rw [Ex.srt_is]; simp [onE, srtP, shpL, Ex.kind, Ex.rat, Ex.name, Ex.date, Ex.sub, leafV, eS]; decide
theorem lsE_srt : lsE.srt = 2 := by
  rw [Ex.srt_is]
  have := exM_srt (k := 4) (by decide) n1_srt n2_srt
  simp [lsE, exM, srtP, shpL, Ex.kind, Ex.rat, Ex.name, Ex.date, Ex.sub, onE_srt, bareB, eS]
  simpa [exM, eS] using this
theorem noE_srt : noE.srt = 2 := by
  rw [Ex.srt_is]
  simp [noE, srtP, shpL, Ex.kind, Ex.rat, Ex.name, Ex.date, Ex.sub, lsE_srt, bareB, eS]
theorem wdE_srt : wdE.srt = 1 := by
  rw [Ex.srt_is]
  have h1 := exM_srt (k := 7) (by decide) n1_srt n2_srt
  have h2 := exM_srt (k := 8) (by decide) n2_srt n1_srt
  simp [wdE, srtP, shpL, Ex.kind, Ex.rat, Ex.name, Ex.date, Ex.sub, noE_srt, h1, h2, bareB, eS]
theorem wdE_size : wdE.size = 13 := by
  simp [wdE, noE, lsE, onE, exM, exR, n1, n2, Ex.size_is, Ex.sub]
theorem wdE_depth : wdE.depth ≤ 10 := by
  simp [wdE, noE, lsE, onE, exM, exR, n1, n2, Ex.depth_is, Ex.sub, maxD]
theorem wd_lit : ExLit 5 wdE wdS.data.toList := by
  refine ⟨?_, by rw [wdE_size]; omega, ?_, chkX_ok (by rw [wdE_size]; omega) (by have := wdE_depth; omega) (by rw [wdE_srt]; decide), wd_txt⟩
  · simp [KOk, wdE, noE, lsE, onE, exM, exR, n1, n2, Ex.kind, Ex.sub]
  · refine SmX.up (d := 6) (by omega) ?_
    simp [SmX, wdE, noE, lsE, onE, exM, exR, n1, n2, Ex.name, Ex.rat, Ex.sub, eS]
    decide
theorem exAt_one {n : Nat} {w : World} {g : Nat} (k : Int) {a : Ex} {a0 a1 a2 a3 a4 : Value} (hg : w.heap[g]? = some (.cells #[a0, a1, a2, a3, a4] 25)) (ha : ExAt n w [a0, a1, a2, a3, a4] a) :
    ExAt (n + 1) w [.int .u8 k, .string ⟨#[]⟩, .string ⟨#[]⟩, .int .i64 0, .slice (some ⟨g, 0, none⟩) 1 1] (.mk k eS eS 0 [a]) := by
  refine ⟨some ⟨g, 0, none⟩, 1, 1, rfl, rfl, .inr ⟨g, 0, rfl, (Array.getElem?_eq_some_iff.1 hg).1, fun i hi => ?_⟩⟩
  obtain rfl : i = 0 := by have : i < 1 := hi; omega
  refine ⟨_, fun j hj => ?_, ha⟩
  rw [Lib.cell_of_heap hg]
  rcases (by omega : j = 0 ∨ j = 1 ∨ j = 2 ∨ j = 3 ∨ j = 4) with rfl | rfl | rfl | rfl | rfl <;> rfl
theorem exAt_three {n : Nat} {w : World} {g : Nat} (k : Int) {a b c : Ex} {a0 a1 a2 a3 a4 b0 b1 b2 b3 b4 c0 c1 c2 c3 c4 : Value} (hg : w.heap[g]? = some (.cells #[a0, a1, a2, a3, a4, b0, b1, b2, b3, b4, c0, c1, c2, c3, c4] 25)) (ha : ExAt n w [a0, a1, a2, a3, a4] a) (hb : ExAt n w [b0, b1, b2, b3, b4] b) (hc : ExAt n w [c0, c1, c2, c3, c4] c) :
    ExAt (n + 1) w [.int .u8 k, .string ⟨#[]⟩, .string ⟨#[]⟩, .int .i64 0, .slice (some ⟨g, 0, none⟩) 3 3] (.mk k eS eS 0 [a, b, c]) := by
  refine ⟨some ⟨g, 0, none⟩, 3, 3, rfl, rfl, .inr ⟨g, 0, rfl, (Array.getElem?_eq_some_iff.1 hg).1, fun i hi => ?_⟩⟩
  have hi2 : i < 3 := hi
  rcases (by omega : i = 0 ∨ i = 1 ∨ i = 2) with rfl | rfl | rfl
  · refine ⟨_, fun j hj => ?_, ha⟩
    rw [Lib.cell_of_heap hg]
    rcases (by omega : j = 0 ∨ j = 1 ∨ j = 2 ∨ j = 3 ∨ j = 4) with rfl | rfl | rfl | rfl | rfl <;> rfl
  · refine ⟨_, fun j hj => ?_, hb⟩
    rw [Lib.cell_of_heap hg]
    rcases (by omega : j = 0 ∨ j = 1 ∨ j = 2 ∨ j = 3 ∨ j = 4) with rfl | rfl | rfl | rfl | rfl <;> rfl
  · refine ⟨_, fun j hj => ?_, hc⟩
    rw [Lib.cell_of_heap hg]
    rcases (by omega : j = 0 ∨ j = 1 ∨ j = 2 ∨ j = 3 ∨ j = 4) with rfl | rfl | rfl | rfl | rfl <;> rfl
/-- The words' example in memory: its blocks. -/
theorem wd_call {Wg : World} (hs : ShpAt Wg) (W : World) (g4 gL gN g7 g8 gW : Nat) (hb : Below Wg.heap.size Wg W) (h4 : W.heap[g4]? = some (.cells #[.int .u8 1, .string ⟨#[49]⟩, .string ⟨#[]⟩, .int .i64 0, .slice none 0 0, .int .u8 1, .string ⟨#[50]⟩, .string ⟨#[]⟩, .int .i64 0, .slice none 0 0] 25)) (hL : W.heap[gL]? = some (.cells #[.int .u8 2, .string ⟨#[]⟩, .string ⟨#[111, 110]⟩, .int .i64 0, .slice none 0 0, .int .u8 4, .string ⟨#[]⟩, .string ⟨#[]⟩, .int .i64 0, .slice (some ⟨g4, 0, none⟩) 2 2] 25))
    (hN : W.heap[gN]? = some (.cells #[.int .u8 11, .string ⟨#[]⟩, .string ⟨#[]⟩, .int .i64 0, .slice (some ⟨gL, 0, none⟩) 2 2] 25)) (h7 : W.heap[g7]? = some (.cells #[.int .u8 1, .string ⟨#[49]⟩, .string ⟨#[]⟩, .int .i64 0, .slice none 0 0, .int .u8 1, .string ⟨#[50]⟩, .string ⟨#[]⟩, .int .i64 0, .slice none 0 0] 25)) (h8 : W.heap[g8]? = some (.cells #[.int .u8 1, .string ⟨#[50]⟩, .string ⟨#[]⟩, .int .i64 0, .slice none 0 0, .int .u8 1, .string ⟨#[49]⟩, .string ⟨#[]⟩, .int .i64 0, .slice none 0 0] 25)) (hW : W.heap[gW]? = some (.cells #[.int .u8 15, .string ⟨#[]⟩, .string ⟨#[]⟩, .int .i64 0, .slice (some ⟨gN, 0, none⟩) 1 1, .int .u8 7, .string ⟨#[]⟩, .string ⟨#[]⟩, .int .i64 0, .slice (some ⟨g7, 0, none⟩) 2 2, .int .u8 8, .string ⟨#[]⟩, .string ⟨#[]⟩, .int .i64 0, .slice (some ⟨g8, 0, none⟩) 2 2] 25)) :
    Calls Tryd.prog 12 #[.agg #[.int .u8 9, .string ⟨#[]⟩, .string ⟨#[]⟩, .int .i64 0, .slice (some ⟨gW, 0, none⟩) 3 3], .string (ByteArray.mk #[99, 97, 115, 101, 40, 110, 111, 116, 40, 108, 101, 115, 115, 40, 34, 111, 110, 34, 64, 49, 57, 48, 48, 45, 48, 49, 45, 48, 49, 44, 32, 49, 32, 43, 32, 50, 41, 41, 44, 32, 109, 97, 120, 40, 49, 44, 32, 50, 41, 44, 32, 109, 105, 110, 40, 50, 44, 32, 49, 41, 41])] W (BelB W true) :=
  nexpr_lit hs (t := wdS) wd_lit (by decide) W hb _ (exAt_three 9 hW (exAt_one 15 hN (exAt_pair 11 hL (exAt_leaf 1 W 2 ⟨#[]⟩ ⟨#[111, 110]⟩ 0) (exAt_pair 4 h4 (exAt_leaf 0 W 1 ⟨#[49]⟩ ⟨#[]⟩ 0) (exAt_leaf 0 W 1 ⟨#[50]⟩ ⟨#[]⟩ 0))))
    (exAt_pair 7 h7 (exAt_leaf 2 W 1 ⟨#[49]⟩ ⟨#[]⟩ 0) (exAt_leaf 2 W 1 ⟨#[50]⟩ ⟨#[]⟩ 0)) (exAt_pair 8 h8 (exAt_leaf 2 W 1 ⟨#[50]⟩ ⟨#[]⟩ 0) (exAt_leaf 2 W 1 ⟨#[49]⟩ ⟨#[]⟩ 0)))

end Go.Proofs.YtijkefflpojmhaaDoor

namespace Go.Proofs.YtijkefflpojmhaaDoor
open Go.RowKit

def clC : Ct := .mk 8 ⟨#[98, 121]⟩ eS ⟨#[110]⟩ exB 0 [0, 31] [zeC]
def pkC : Ct := .mk 7 ⟨#[65]⟩ eS ⟨#[116, 111]⟩ exB 0 [] [zeC, clC]
def pkS : ByteArray := ⟨#[99, 104, 111, 105, 99, 101, 32, 34, 116, 111, 34, 32, 98, 121, 32, 65, 32, 123, 10, 32, 32, 110, 111, 116, 104, 105, 110, 103, 10, 125, 32, 101, 108, 115, 101, 32, 123, 10, 32, 32, 99, 97, 108, 108, 32, 110, 32, 98, 121, 32, 34, 98, 121, 34, 32, 111, 110, 32, 49, 57, 48, 48, 45, 48, 49, 45, 48, 49, 44, 32, 49, 57, 48, 48, 45, 48, 50, 45, 48, 49, 32, 123, 10, 32, 32, 32, 32, 110, 111, 116, 104, 105, 110, 103, 10, 32, 32, 125, 10, 125]⟩
theorem date_31 : DateIs 31 1900 2 1 := ⟨by decide, by decide, by decide, by decide, of_decide_eq_true (by kernel_rfl), of_decide_eq_true (by kernel_rfl)⟩
theorem dtxt_31 : dtxt 31 = [49, 57, 48, 48, 45, 48, 50, 45, 48, 49] := by
  rw [dtxt_is (n := 31) date_31]; decide
theorem pk_txt : pkS.data.toList = rcT 4 pkC := by
  simp [rcT, pkC, clC, zeC, Ct.kind, crt, Ct.sub, headT, Ct.name, Ct.frm, Ct.dates, qn, kwB, kwL, onT, daysT, commas, dtxt_0, dtxt_31, nothT, mvT, inT, ind, pkS]
theorem clC_form : formX clC = true := by
  rw [formX_is]
  show (([zeC].all formX) && nodeX clC) = true
  rw [List.all_cons, zeC_form]
  have hd : daysX [0, 31] = true := by decide
  unfold nodeX nodeB
  simp only [clC, Ct.kind, Ct.frm, Ct.too, Ct.name, Ct.expr, Ct.date, Ct.dates, Ct.sub, toList_data, exB_bare, hd]
  decide
theorem pkC_form : formX pkC = true := by
  rw [formX_is]
  show (([zeC, clC].all formX) && nodeX pkC) = true
  rw [List.all_cons, List.all_cons, zeC_form, clC_form]
  unfold nodeX nodeB
  simp only [pkC, Ct.kind, Ct.frm, Ct.too, Ct.name, Ct.expr, Ct.date, Ct.dates, Ct.sub, toList_data, exB_bare]
  decide
theorem pkC_ok : CKOk 4 pkC ∧ pkC.size ≤ 3000 ∧ ∃ d, d ≤ 90 ∧ CSm d pkC := by
  refine ⟨?_, ?_, 10, by omega, ?_⟩
  · simp [CKOk, KOk, pkC, clC, zeC, exB, Ct.kind, Ct.expr, Ct.sub, Ex.kind, Ex.sub]
  · simp [pkC, clC, zeC, Ct.size_is, Ct.expr, Ct.sub, exB, Ex.size_is, Ex.sub]
  · simp [CSm, SmX, pkC, clC, zeC, Ct.name, Ct.frm, Ct.too, Ct.dates, Ct.expr, Ct.sub, exB, Ex.name, Ex.rat, Ex.sub, Ex.size_is, eS]
    decide
theorem pkC_chk : chkC pkC = 0 := by
  unfold chkC
  have hz : ∀ (k : Int) (f t s : ByteArray) (d : Int) (l : List Int) (c : List Ct), (Ct.mk k f t s exB d l c).csz = 1 + (c.map Ct.csz).sum := fun k f t s d l c => by
    rw [Ct.csz_is]; unfold eSz; show 1 + (if bareX exB then 0 else exB.size) + _ = _; rw [exB_bare]; rfl
  have h1 : pkC.csz = 4 := by unfold pkC clC zeC; simp [hz]
  have h2 : pkC.cdp ≤ 60 := by
    have hd : CSm 10 pkC := by
      simp [CSm, SmX, pkC, clC, zeC, Ct.name, Ct.frm, Ct.too, Ct.dates, Ct.expr, Ct.sub, exB, Ex.name, Ex.rat, Ex.sub, Ex.size_is, eS]
      decide
    have := hd.cdp
    omega
  rw [h1, if_neg (by omega), pkC_form]; rfl
theorem ctAt_call {n : Nat} {w : World} {g gd : Nat} {y : Ct} {eap dap ap : Option Addr} {elp ecp dlp dcp lenp capp : Nat} (hd : w.heap[gd]? = some (.cells #[.int .i64 0, .int .i64 31] 3)) (hg : w.heap[g]? = some (.cells #[.int .u8 y.kind, .string y.frm, .string y.too, .string y.name, .int .u8 y.expr.kind, .string y.expr.rat, .string y.expr.name, .int .i64 y.expr.date, .slice eap elp ecp, .int .i64 y.date, .slice dap dlp dcp, .slice ap lenp capp] 29)) (hy : CtAt n w [.int .u8 y.kind, .string y.frm, .string y.too, .string y.name, .int .u8 y.expr.kind, .string y.expr.rat, .string y.expr.name, .int .i64 y.expr.date, .slice eap elp ecp, .int .i64 y.date, .slice dap dlp dcp, .slice ap lenp capp] y) (k d : Int) (f t s : ByteArray) :
    CtAt (n + 1) w [.int .u8 k, .string f, .string t, .string s, .int .u8 0, .string ⟨#[]⟩, .string ⟨#[]⟩, .int .i64 0, .slice none 0 0, .int .i64 d, .slice (some ⟨gd, 0, none⟩) 2 2, .slice (some ⟨g, 0, none⟩) 1 1] (.mk k f t s exB d [0, 31] [y]) := by
  refine ⟨none, 0, 0, some ⟨gd, 0, none⟩, 2, 2, some ⟨g, 0, none⟩, 1, 1, rfl, exAt_leaf n w 0 eS eS 0, ⟨rfl, .inr ⟨gd, 0, rfl, (Array.getElem?_eq_some_iff.1 hd).1, fun i hi => ?_⟩⟩, rfl, .inr ⟨g, 0, rfl, (Array.getElem?_eq_some_iff.1 hg).1, fun i hi => ?_⟩⟩
  · rw [Lib.cell_of_heap hd]
    rcases (by omega : i = 0 ∨ i = 1) with rfl | rfl <;> rfl
  · obtain rfl : i = 0 := by have : i < 1 := hi; omega
    refine ⟨_, fun j hj => ?_, hy⟩
    rw [Lib.cell_of_heap hg, Nat.zero_mul, Nat.zero_add]
    simp

end Go.Proofs.YtijkefflpojmhaaDoor

namespace Go.Proofs.YtijkefflpojmhaaDoor
open Go.RowKit

def nqS (s : ByteArray) : ByteArray := if nmB s.data.toList = true then qn s else ByteArray.empty
def nqE (s : ByteArray) : Int := if nmB s.data.toList = true then 0 else 8
theorem nquote_is (s : ByteArray) (w : World) : Calls Tryd.prog 15 #[.string s] w (PrP w (nqS s) (nqE s)) := by
  refine (pquote_any s w).mono ?_
  rintro e w' ⟨rfl, hb⟩
  refine ⟨?_, hb⟩
  unfold nqS nqE
  split <;> rfl
theorem q_lit {s t : ByteArray} {v : Int} (h1 : nqS s = t) (h2 : nqE s = v) (w : World) : Calls Tryd.prog 15 #[.string s] w (PrP w t v) := by
  have := nquote_is s w
  rwa [h1, h2] at this
theorem q_pays (w : World) : Calls Tryd.prog 15 #[.string (ByteArray.mk #[112, 97, 121, 115])] w (PrP w (ByteArray.mk #[34, 112, 97, 121, 115, 34]) 0) := q_lit (by decide) (by decide) w
theorem q_Pays (w : World) : Calls Tryd.prog 15 #[.string (ByteArray.mk #[80, 97, 121, 115])] w (PrP w (ByteArray.mk #[80, 97, 121, 115]) 0) := q_lit (by decide) (by decide) w
theorem q_none (w : World) : Calls Tryd.prog 15 #[.string (ByteArray.mk #[])] w (PrP w (ByteArray.mk #[]) 8) := q_lit (by decide) (by decide) w
theorem q_1a (w : World) : Calls Tryd.prog 15 #[.string (ByteArray.mk #[49, 97])] w (PrP w (ByteArray.mk #[]) 8) := q_lit (by decide) (by decide) w
theorem exB_chk : chkX exB = 8 := by
  have h1 : exB.depth = 1 := by rw [Ex.depth_is]; rfl
  have h2 : exB.srt = 0 := by rw [Ex.srt_is]; rfl
  unfold chkX
  rw [exB_size, h1, h2]; decide
theorem pexpr_bare {Wg : World} (hs : ShpAt Wg) (w : World) (hb : Below Wg.heap.size Wg w) : Calls Tryd.prog 13 #[.agg #[.int .u8 0, .string ⟨#[]⟩, .string ⟨#[]⟩, .int .i64 0, .slice none 0 0]] w (PrP w (ByteArray.mk #[]) 8) := by
  have := pprint_any 1 exB _ w Wg ⟨exAt_leaf 0 w 0 ⟨#[]⟩ ⟨#[]⟩ 0, (exB_ok 0).1, by rw [exB_size]; omega, (exB_ok 89).2, hs, hb⟩ (by rw [exB_size]; omega)
  rw [exB_chk] at this
  exact this

end Go.Proofs.YtijkefflpojmhaaDoor

namespace Go.Proofs.YtijkefflpojmhaaDoor
open Go.RowKit Go.Shelf Go.Deep

theorem infoU8N : (Tryd.prog.info? 5).map (fun i => (i.zero, i.size, i.bytes)) = some (some (.int .u8 0), 1, 1) := by kernel_rfl
def ZrR (w : World) (g N : Nat) (iv : Value) (wr : World) : Prop :=
  ∃ k : Nat, k ≤ N ∧ iv = .int .i64 (k : Int) ∧ wr.rowIs g 5 N (fun i => if i < k then .int .u8 48 else .int .u8 0) ∧ Below w.heap.size w wr
set_option maxHeartbeats 1000000 in
set_option maxRecDepth 100000 in
theorem zeros_any (w : World) : Calls Tryd.prog 16 #[.int .i64 999] w fun e w' => ∃ g, e = .returned (.slice (some ⟨g, 0, none⟩) 999 999) ∧ w'.rowIs g 5 999 (fun _ => .int .u8 48) ∧ Below w.heap.size w w' := by
  obtain ⟨N, hN⟩ : ∃ N : Nat, N = 999 := ⟨_, rfl⟩
  have HNN := Lib.hid hN
  have hmk : ∀ W, (Instr.makeSlice 43 (.int .i64 999) (.int .i64 999)).run Tryd.prog W = .ok (.slice (some ⟨W.heap.size, 0, none⟩) N N) (W.alloc (.cells (madeCells #[.int .u8 0] N) 5)) := fun W => by
    have := run_make_row' (P := Tryd.prog) 43 5 (.int .u8 0) 1 Tryd.underlying43 infoU8N rfl .i64 .i64 N (by omega) (by omega) W
    rw [hN] at this ⊢
    exact this
  have hN1 : N ≤ 999 := by omega
  have hN2 : 999 ≤ N := by omega
  have HRW := Lib.hid (World.rowIs_made w (.int .u8 0) N 5)
  have HB0 := Lib.hid (own_below w (.cells (madeCells #[.int .u8 0] N) 5))
  clear hN
  go_enter Tryd.func16, Tryd.ntmps16
  go_wp2_with fail
  clear hmk
  go_loopw [4] (ZrR w w.heap.size N) (fun iv _ => N - (intOf iv).toNat)
  case atStart => exact ⟨0, Nat.zero_le _, rfl, HRW.out.congr (fun i _ => by rw [if_neg (Nat.not_lt_zero _)]), HB0.out⟩
  case round =>
    obtain ⟨w1, rfl⟩ : ∃ w1 : World, w1 = wr := ⟨_, rfl⟩
    obtain ⟨k, hk, rfl, hrow, hb⟩ := hrel
    have HR := Lib.hid hrow
    have HB := Lib.hid hb
    by_cases hlt : k < N
    · have hc := hrow.cell hlt
      rw [if_neg (Nat.lt_irrefl _)] at hc
      have hf := hrow.frozen k
      have HL : Hid (ZrR w w.heap.size N (.int .i64 ((k : Int) + 1)) (w1.setCell ⟨w.heap.size, k, none⟩ (.int .u8 48))) := by
        refine ⟨k + 1, by omega, by go_num, (HR.out.set k _).congr (fun i _ => ?_), HB.out.setCell (Nat.le_refl _) _⟩
        by_cases e : i = k
        · subst e; rw [if_pos rfl, if_pos (by omega)]
        · rw [if_neg e]
          by_cases h : i < k
          · rw [if_pos h, if_pos (by omega)]
          · rw [if_neg h, if_neg (by omega)]
      clear hrow hb
      go_wp2_with fail
      go_roundw
      case rel => exact HL.out
      case measure => simp [intOf] <;> omega
    · obtain rfl : k = N := by omega
      have HF : Hid (w1.rowIs w.heap.size 5 999 (fun _ => .int .u8 48)) := by
        have h2 := HR.out
        rw [HNN.out] at h2
        exact h2.congr (fun i hi => by rw [if_pos hi])
      clear hrow hb HR HRW HB0
      go_wp2_with fail
      go_ret
      exact ⟨w.heap.size, by rw [HNN.out]; rfl, HF.out, HB.out⟩
/-- A digit 1 and many digits 0. -/
def bgT (K : Nat) : ByteArray := ⟨#[49]⟩ ++ ⟨(List.replicate K 48).toArray⟩
theorem bgT_list (K : Nat) : (bgT K).data.toList = 49 :: List.replicate K 48 := by simp [bgT]
theorem bgT_size (K : Nat) : (bgT K).size = K + 1 := by
  rw [ba_size (bgT_list K), List.length_cons, List.length_replicate]
theorem zr_conv {w : World} {g K : Nat} (h : w.rowIs g 5 K (fun _ => .int .u8 48)) : (convert 43 9 (.slice (some ⟨g, 0, none⟩) K K)).run Tryd.prog w = .ok (.string ⟨(List.replicate K 48).toArray⟩) w := by
  have := run_convert_bytes_back (P := Tryd.prog) w 43 9 5 ⟨g, 0, none⟩ K (List.replicate K 48) Tryd.underlying43 Tryd.underlying5 Tryd.underlying9 (fun j hj => by
    rw [List.length_replicate] at hj
    rw [show (⟨g, 0, none⟩ : Addr).add j = ⟨g, j, none⟩ by simp [Addr.add] <;> omega]
    have e := World.rowIs.cell h (i := j) (by omega)
    rw [e, List.getElem_replicate]; rfl)
  rwa [List.length_replicate] at this
theorem bg_chk (K : Nat) (h0 : 1 ≤ K) (hK : K ≤ 999) : chkR (bgT K).data.toList = 0 := by
  have hc : ∀ c ∈ (49 :: List.replicate K (48 : UInt8)), c = 49 ∨ c = 48 := fun c hc => by
    rcases List.mem_cons.1 hc with rfl | hc
    · exact .inl rfl
    · exact .inr (List.eq_of_mem_replicate hc)
  rw [bgT_list, chkR_int (by
    apply slN_none
    intro j hj h
    have := List.mem_of_getElem? h
    rcases hc _ this with q | q <;> exact absurd q (by decide))]
  unfold chkZ
  rw [if_neg (by rw [List.head?_cons]; decide), chkN_yes ⟨by simp, fun c h => ?_, fun h => ?_⟩, if_neg (by rw [List.length_cons, List.length_replicate]; omega)]
  · rcases hc c h with rfl | rfl <;> decide
  · rw [List.head?_cons] at h; exact absurd h (by decide)

end Go.Proofs.YtijkefflpojmhaaDoor

namespace Go.Proofs.YtijkefflpojmhaaDoor
open Go.RowKit

set_option maxHeartbeats 1000000 in
set_option maxRecDepth 100000 in
theorem pair2_any (k : Int) (a0 a1 a2 a3 a4 b0 b1 b2 b3 b4 : Value) (w : World) : Calls Tryd.prog 14 #[.int .u8 k, .agg #[a0, a1, a2, a3, a4], .agg #[b0, b1, b2, b3, b4]] w fun e w' =>
    ∃ g, e = .returned (.agg #[.int .u8 k, .string ⟨#[]⟩, .string ⟨#[]⟩, .int .i64 0, .slice (some ⟨g, 0, none⟩) 2 2]) ∧ w'.heap[g]? = some (.cells #[a0, a1, a2, a3, a4, b0, b1, b2, b3, b4] 25) ∧ w.heap.size ≤ g ∧ Below w.heap.size w w' := by
  obtain ⟨W3, hW3⟩ : ∃ W3, W3 = ((w.alloc (.cells #[a0, a1, a2, a3, a4] 25)).alloc (.cells #[b0, b1, b2, b3, b4] 25)).alloc (.cells #[.int .u8 k, .string ⟨#[]⟩, .string ⟨#[]⟩, .int .i64 0, .slice (some ⟨w.heap.size + 1 + 1 + 1, 0, none⟩) 2 2] 25) := ⟨_, rfl⟩
  have hs3 : W3.heap.size = w.heap.size + 1 + 1 + 1 := by rw [hW3]; simp
  have hb3 : Below w.heap.size w W3 := by rw [hW3]; exact ((own_below w _).alloc (by simp) _).alloc (by simp; omega) _
  have hr3 : W3.heap[w.heap.size + 1 + 1]? = some (.cells #[.int .u8 k, .string ⟨#[]⟩, .string ⟨#[]⟩, .int .i64 0, .slice (some ⟨w.heap.size + 1 + 1 + 1, 0, none⟩) 2 2] 25) := by
    rw [hW3]
    have := alloc_at ((w.alloc (.cells #[a0, a1, a2, a3, a4] 25)).alloc (.cells #[b0, b1, b2, b3, b4] 25)) (.cells #[.int .u8 k, .string ⟨#[]⟩, .string ⟨#[]⟩, .int .i64 0, .slice (some ⟨w.heap.size + 1 + 1 + 1, 0, none⟩) 2 2] 25)
    rwa [World.size_alloc, World.size_alloc] at this
  have hb := own_below W3 (.cells #[a0, a1, a2, a3, a4, b0, b1, b2, b3, b4] 25)
  have hg := alloc_at W3 (.cells #[a0, a1, a2, a3, a4, b0, b1, b2, b3, b4] 25)
  obtain ⟨d0, d1, d2, d3, d4⟩ := exCells ((hb.block _ (Array.getElem?_eq_some_iff.1 hr3).1).trans hr3)
  rw [hs3] at hg
  have HW := Lib.hid hW3
  have HG := Lib.hid hg
  have HB := Lib.hid (hb3.trans (hb.mono hb3.size))
  clear hW3 hs3 hb3 hr3 hb hg
  go_enter Tryd.func14, Tryd.ntmps14
  go_wp2_with fail
  rw [← HW.out]
  exact bodyPost_ret (v := .agg #[.int .u8 k, .string ⟨#[]⟩, .string ⟨#[]⟩, .int .i64 0, .slice (some ⟨w.heap.size + 1 + 1 + 1, 0, none⟩) 2 2]) (by simp [results, Tryd.results14, go_sem, d0, d1, d2, d3, d4]) rfl ⟨_, rfl, HG.out, by omega, HB.out⟩
theorem exOn_leaf (S : Nat → Prop) (n : Nat) (w : World) (k : Int) (r s : ByteArray) (d : Int) : ExOn S (n + 1) w [.int .u8 k, .string r, .string s, .int .i64 d, .slice none 0 0] (.mk k r s d []) := ⟨none, 0, 0, rfl, rfl, .inl rfl⟩
theorem exOn_pair {S : Nat → Prop} {n : Nat} {w : World} {g : Nat} (k : Int) {a b : Ex} {a0 a1 a2 a3 a4 b0 b1 b2 b3 b4 : Value} (hS : S g) (hg : w.heap[g]? = some (.cells #[a0, a1, a2, a3, a4, b0, b1, b2, b3, b4] 25)) (ha : ExOn S n w [a0, a1, a2, a3, a4] a) (hb : ExOn S n w [b0, b1, b2, b3, b4] b) :
    ExOn S (n + 1) w [.int .u8 k, .string ⟨#[]⟩, .string ⟨#[]⟩, .int .i64 0, .slice (some ⟨g, 0, none⟩) 2 2] (exM k a b) := by
  refine ⟨some ⟨g, 0, none⟩, 2, 2, rfl, rfl, .inr ⟨g, rfl, hS, fun i hi => ?_⟩⟩
  have hi2 : i < 2 := hi
  rcases (by omega : i = 0 ∨ i = 1) with rfl | rfl
  · refine ⟨_, fun j hj => ?_, ha⟩
    rw [Lib.cell_of_heap hg]
    rcases (by omega : j = 0 ∨ j = 1 ∨ j = 2 ∨ j = 3 ∨ j = 4) with rfl | rfl | rfl | rfl | rfl <;> rfl
  · refine ⟨_, fun j hj => ?_, hb⟩
    rw [Lib.cell_of_heap hg]
    rcases (by omega : j = 0 ∨ j = 1 ∨ j = 2 ∨ j = 3 ∨ j = 4) with rfl | rfl | rfl | rfl | rfl <;> rfl
/-- A sum of many parts. -/
def chT (b : Ex) : Nat → Ex
  | 0 => b
  | k + 1 => exM 4 (chT b k) b
theorem chT_facts (r : ByteArray) (hr : r.size ≤ 2500) (hc : chkR r.data.toList = 0) : ∀ k, KOk (k + 1) (chT (exR r) k) ∧ SmX (k + 1) (chT (exR r) k) ∧ (chT (exR r) k).size = 1 + 2 * k ∧ (chT (exR r) k).depth = 1 + k ∧ (chT (exR r) k).srt = 1 ∧ (rexT (k + 1) (chT (exR r) k)).length = r.size * (k + 1) + 3 * k := by
  have hl : ∀ n, rexT (n + 1) (exR r) = r.data.toList := fun n => by
    rw [rexT, if_pos (.inl rfl)]; rfl
  have hrl : r.data.toList.length = r.size := by simp
  intro k
  induction k with
  | zero =>
    refine ⟨kok_R 0 r, sm_R 0 hr, exR_size r, exR_depth r, exR_srt hc, ?_⟩
    show (rexT 1 (exR r)).length = _
    rw [hl, hrl]; omega
  | succ k ih =>
    obtain ⟨h1, h2, h3, h4, h5, h6⟩ := ih
    refine ⟨kok_M (by omega) h1 (kok_R k r), sm_M h2 (sm_R k hr), ?_, ?_, exM_srt (.inl rfl) h5 (exR_srt hc), ?_⟩
    · show (exM 4 _ _).size = _; rw [exM_size, h3, exR_size]; omega
    · show (exM 4 _ _).depth = _; rw [exM_depth, h4, exR_depth]; omega
    · show (rexT (k + 1 + 1) (exM 4 (chT (exR r) k) (exR r))).length = _
      have hk : (exM 4 (chT (exR r) k) (exR r)).kind = 4 := rfl
      rw [rexT, hk, if_neg (show ¬ ((4 : Int) = 1 ∨ (4 : Int) = 2 ∨ (4 : Int) = 3) by decide), if_pos (.inl rfl)]
      show (rexT (k + 1) (chT (exR r) k) ++ [32, 43, 32] ++ parT (sumB (exR r)) (rexT (k + 1) (exR r))).length = _
      rw [List.length_append, List.length_append, h6, hl]
      show _ + 3 + r.data.toList.length = _
      rw [hrl, Nat.mul_add r.size (k + 1) 1]; omega
theorem pexpr_long {Wg : World} (hs : ShpAt Wg) (w : World) (hb : Below Wg.heap.size Wg w) (cs : List Value) (hat : ExAt 21 w cs (chT (exR (bgT 999)) 20)) : Calls Tryd.prog 13 #[.agg cs.toArray] w (PrP w (ByteArray.mk #[]) 4) := by
  obtain ⟨h1, h2, h3, h4, h5, h6⟩ := chT_facts (bgT 999) (by rw [bgT_size]; omega) (bg_chk 999 (by omega) (by omega)) 20
  have := pprint_any 21 _ cs w Wg ⟨hat, h1, by omega, SmX.up (by omega) h2, hs, hb⟩ (by omega)
  rw [chkX_ok (by omega) (by omega) (by rw [h5]; decide)] at this
  have hl : 20000 < (rexT 21 (chT (exR (bgT 999)) 20)).length := by rw [h6, bgT_size]; decide
  unfold prS prE at this
  simp only [ne_eq, not_true_eq_false, if_false, if_pos hl] at this
  exact this
theorem box_set5 {w : World} {g : Nat} {a0 a1 a2 a3 a4 : Value} {t : TypeId} (v0 v1 v2 v3 v4 : Value) (h : w.heap[g]? = some (.cells #[a0, a1, a2, a3, a4] t)) :
    (((((w.setCell ⟨g, 0, none⟩ v0).setCell ⟨g, 1, none⟩ v1).setCell ⟨g, 2, none⟩ v2).setCell ⟨g, 3, none⟩ v3).setCell ⟨g, 4, none⟩ v4).heap[g]? = some (.cells #[v0, v1, v2, v3, v4] t) :=
  heap_setCell_same _ g 4 _ t v4 (heap_setCell_same _ g 3 _ t v3 (heap_setCell_same _ g 2 _ t v2 (heap_setCell_same _ g 1 _ t v1 (heap_setCell_same _ g 0 _ t v0 h))))
theorem box_set5_other (w : World) {g i : Nat} (v0 v1 v2 v3 v4 : Value) (h : i ≠ g) :
    (((((w.setCell ⟨g, 0, none⟩ v0).setCell ⟨g, 1, none⟩ v1).setCell ⟨g, 2, none⟩ v2).setCell ⟨g, 3, none⟩ v3).setCell ⟨g, 4, none⟩ v4).heap[i]? = w.heap[i]? := by
  rw [Below.heap_setCell _ _ _ _ h, Below.heap_setCell _ _ _ _ h, Below.heap_setCell _ _ _ _ h, Below.heap_setCell _ _ _ _ h, Below.heap_setCell _ _ _ _ h]
theorem lg_round {B : Nat} {wb w1 u : World} {g k0 : Nat} {bz : ByteArray} {d0 d1 d2 d3 d4 : Value} (hbb : Below B wb w1) (hex : ExOn (fun g => B + 1 + 1 ≤ g ∧ g < w1.heap.size) (k0 + 1) w1 [d0, d1, d2, d3, d4] (chT (exR bz) k0))
    (hsu : u.heap[B + 1]? = some (.cells #[d0, d1, d2, d3, d4] 25)) (hbu : u.heap[B]? = some (.cells #[.int .u8 1, .string bz, .string ⟨#[]⟩, .int .i64 0, .slice none 0 0] 25))
    (hg : u.heap[g]? = some (.cells #[d0, d1, d2, d3, d4, .int .u8 1, .string bz, .string ⟨#[]⟩, .int .i64 0, .slice none 0 0] 25)) (hge : w1.heap.size ≤ g) (hsz : B + 1 < w1.heap.size) (hb : Below w1.heap.size w1 u) (hlt : k0 < 20) :
    ∃ (k : Nat) (c0 c1 c2 c3 c4 : Value), k ≤ 20 ∧ (Value.int .i64 ((k0 : Int) + 1)) = .int .i64 (k : Int) ∧
      (((((u.setCell ⟨B + 1, 0, none⟩ (.int .u8 4)).setCell ⟨B + 1, 1, none⟩ (.string ⟨#[]⟩)).setCell ⟨B + 1, 2, none⟩ (.string ⟨#[]⟩)).setCell ⟨B + 1, 3, none⟩ (.int .i64 0)).setCell ⟨B + 1, 4, none⟩ (.slice (some ⟨g, 0, none⟩) 2 2)).heap[B]? = some (.cells #[.int .u8 1, .string bz, .string ⟨#[]⟩, .int .i64 0, .slice none 0 0] 25) ∧
      (((((u.setCell ⟨B + 1, 0, none⟩ (.int .u8 4)).setCell ⟨B + 1, 1, none⟩ (.string ⟨#[]⟩)).setCell ⟨B + 1, 2, none⟩ (.string ⟨#[]⟩)).setCell ⟨B + 1, 3, none⟩ (.int .i64 0)).setCell ⟨B + 1, 4, none⟩ (.slice (some ⟨g, 0, none⟩) 2 2)).heap[B + 1]? = some (.cells #[c0, c1, c2, c3, c4] 25) ∧
      ExOn (fun q => B + 1 + 1 ≤ q ∧ q < (((((u.setCell ⟨B + 1, 0, none⟩ (.int .u8 4)).setCell ⟨B + 1, 1, none⟩ (.string ⟨#[]⟩)).setCell ⟨B + 1, 2, none⟩ (.string ⟨#[]⟩)).setCell ⟨B + 1, 3, none⟩ (.int .i64 0)).setCell ⟨B + 1, 4, none⟩ (.slice (some ⟨g, 0, none⟩) 2 2)).heap.size) (k + 1) (((((u.setCell ⟨B + 1, 0, none⟩ (.int .u8 4)).setCell ⟨B + 1, 1, none⟩ (.string ⟨#[]⟩)).setCell ⟨B + 1, 2, none⟩ (.string ⟨#[]⟩)).setCell ⟨B + 1, 3, none⟩ (.int .i64 0)).setCell ⟨B + 1, 4, none⟩ (.slice (some ⟨g, 0, none⟩) 2 2)) [c0, c1, c2, c3, c4] (chT (exR bz) k) ∧
      Below B wb (((((u.setCell ⟨B + 1, 0, none⟩ (.int .u8 4)).setCell ⟨B + 1, 1, none⟩ (.string ⟨#[]⟩)).setCell ⟨B + 1, 2, none⟩ (.string ⟨#[]⟩)).setCell ⟨B + 1, 3, none⟩ (.int .i64 0)).setCell ⟨B + 1, 4, none⟩ (.slice (some ⟨g, 0, none⟩) 2 2)) := by
  obtain ⟨X, hX⟩ : ∃ X, X = (((((u.setCell ⟨B + 1, 0, none⟩ (.int .u8 4)).setCell ⟨B + 1, 1, none⟩ (.string ⟨#[]⟩)).setCell ⟨B + 1, 2, none⟩ (.string ⟨#[]⟩)).setCell ⟨B + 1, 3, none⟩ (.int .i64 0)).setCell ⟨B + 1, 4, none⟩ (.slice (some ⟨g, 0, none⟩) 2 2)) := ⟨_, rfl⟩
  have ho : ∀ i, i ≠ B + 1 → X.heap[i]? = u.heap[i]? := fun i hi => by rw [hX]; exact box_set5_other u _ _ _ _ _ hi
  have hs := box_set5 (.int .u8 4) (.string ⟨#[]⟩) (.string ⟨#[]⟩) (.int .i64 0) (.slice (some ⟨g, 0, none⟩) 2 2) hsu
  rw [← hX] at hs
  have hbw : Below B wb X := by
    rw [hX]
    exact (((((hbb.trans (hb.mono (show B ≤ w1.heap.size by omega))).setCell (Nat.le_succ _) _).setCell (Nat.le_succ _) _).setCell (Nat.le_succ _) _).setCell (Nat.le_succ _) _).setCell (Nat.le_succ _) _
  have hXs : X.heap.size = u.heap.size := by rw [hX]; simp
  rw [← hX, hXs]
  have hgu := (Array.getElem?_eq_some_iff.1 hg).1
  refine ⟨k0 + 1, _, _, _, _, _, hlt, by simp, (ho B (by omega)).trans hbu, hs, ?_, hbw⟩
  have h1 : ExOn (fun g => B + 1 + 1 ≤ g ∧ g < u.heap.size) (k0 + 1) X [d0, d1, d2, d3, d4] (chT (exR bz) k0) :=
    ExOn.mono (fun q hq => ⟨hq.1, Nat.lt_of_lt_of_le hq.2 hb.size⟩) (ExOn.keep (fun q hq => (ho q (by have := hq.1; omega)).trans (hb.block q hq.2)) hex)
  exact exOn_pair (S := fun g => B + 1 + 1 ≤ g ∧ g < u.heap.size) 4 ⟨by omega, hgu⟩ ((ho g (by omega)).trans hg) h1 (exOn_leaf _ k0 X 1 bz ⟨#[]⟩ 0)

end Go.Proofs.YtijkefflpojmhaaDoor
