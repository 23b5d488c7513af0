/-
  The law PrinterExprs, walked. No condition.
-/
import Derived.Test.YtdgmpgejemgbbaaGreatDoorQi
namespace Go.Proofs.YtdgmpgejemgbbaaGreatDoor
open Go.RowKit

/-- What Quote returns. -/
def quS (s : ByteArray) : ByteArray := if nmB s.data.toList = true then qn s else ByteArray.empty
def quE (s : ByteArray) : Int := if nmB s.data.toList = true then 0 else 8
theorem pquote_is (s : ByteArray) (w : World) : Calls Tryz.prog 8 #[.string s] w (PrP w (quS s) (quE s)) := by
  refine (pquote_any s w).mono ?_
  rintro e w' ⟨rfl, hb⟩
  refine ⟨?_, hb⟩
  unfold quS quE
  split <;> rfl
theorem rquote_is (s : ByteArray) (w : World) : Calls Tryz.prog 9 #[.string s] w (PrP w (quS s) (quE s)) := by
  refine (rquote_any s w).mono ?_
  rintro e w' ⟨rfl, hb⟩
  refine ⟨?_, hb⟩
  unfold quS quE
  split <;> rfl

set_option maxHeartbeats 2000000 in
set_option maxRecDepth 100000 in
theorem exprs_law (n : Nat) (x : Ex) (cs : List Value) (s : ByteArray) (w : World) (h : ExAt n w cs x) (hk : KOk n x) (hs : ShpAt w) :
    Calls Tryz.prog 3 #[.agg cs.toArray, .string s] w (BelB w true) := by
  have hsh := h.shape
  obtain ⟨a, len, cap, rfl, _⟩ := hsh
  obtain ⟨W0, hW0⟩ : ∃ W0, W0 = w.alloc (.cells #[.int .u8 x.kind, .string x.rat, .string x.name, .int .i64 x.date, .slice a len cap] 25) := ⟨_, rfl⟩
  have hB0 : Below w.heap.size w W0 := by rw [hW0]; exact own_below w _
  have hbx : W0.heap[w.heap.size]? = some (.cells #[.int .u8 x.kind, .string x.rat, .string x.name, .int .i64 x.date, .slice a len cap] 25) := by rw [hW0]; exact heap_alloc_new w _
  have HCC : Hid (∀ W, Below W0.heap.size W0 W → _) := fun W hW => exCells ((hW.block _ (Array.getElem?_eq_some_iff.1 hbx).1).trans hbx)
  have hzW : w.heap.size < W0.heap.size := (Array.getElem?_eq_some_iff.1 hbx).1
  have HG := Lib.hid (greatx_any n x _ W0 (ExAt.below hB0 h))
  have HAT : Hid (∀ W, Below W0.heap.size W0 W → ExAt n W [.int .u8 x.kind, .string x.rat, .string x.name, .int .i64 x.date, .slice a len cap] x) := fun W hW => ExAt.below (hB0.trans (hW.mono hB0.size)) h
  have HIN : Hid (∀ W, Below W0.heap.size W0 W → x.size ≤ 700 → SmX 80 x → ExIn n x [.int .u8 x.kind, .string x.rat, .string x.name, .int .i64 x.date, .slice a len cap] W w) := fun W hW h1 h2 =>
    ⟨ExAt.below (hB0.trans (hW.mono hB0.size)) h, hk, by omega, h2, hs, hB0.trans (hW.mono hB0.size)⟩
  have HW0 := Lib.hid hW0
  have HB0 := Lib.hid hB0
  obtain ⟨c0, c1, c2, c3, c4⟩ := HCC.out W0 (Below.refl _ _)
  have HPQ := Lib.hid (pquote_is s)
  have HRQ := Lib.hid (rquote_is s)
  obtain ⟨qs, hqs⟩ : ∃ q, q = quS s := ⟨_, rfl⟩
  obtain ⟨qe, hqe⟩ : ∃ q, q = quE s := ⟨_, rfl⟩
  rw [← hqs, ← hqe] at HPQ HRQ
  clear hW0 hB0 hbx h hk hs hqs hqe
  go_enter Tryz.func3, Tryz.ntmps3
  go_wp2_with fail
  rw [← HW0.out]
  refine HG.out.mono ?_
  rintro e w1 ⟨he, hb⟩
  have HB1 := Lib.hid hb
  clear hb c0 c1 c2 c3 c4
  rcases he with rfl | ⟨rfl, h7, h80⟩
  · have HF := Lib.hid (HB0.out.trans (HB1.out.mono HB0.out.size))
    go_wp2_with fail
    go_ret
    exact ⟨rfl, HF.out⟩
  obtain ⟨c0, c1, c2, c3, c4⟩ := HCC.out w1 HB1.out
  have HSM : Hid (x.size ≤ 700 ∧ SmX 80 x) := ⟨h7, h80⟩
  have HTW := Lib.hid (twin_any n x _ w1 (HAT.out w1 HB1.out) (by omega))
  clear h7 h80
  go_wp2_with fail
  refine HTW.out.mono ?_
  rintro e w2 ⟨at_, lt_, ct_, rfl, hon, hb⟩
  have HB2 := Lib.hid (HB1.out.trans (hb.mono HB1.out.size))
  have hat2 : ExAt n w2 [.int .u8 x.kind, .string x.rat, .string x.name, .int .i64 x.date, .slice at_ lt_ ct_] x := ExOn.at (fun g hg => hg.2) hon
  obtain ⟨w3, hw3⟩ : ∃ w3, w3 = w2.alloc (.cells #[.int .u8 x.kind, .string x.rat, .string x.name, .int .i64 x.date, .slice at_ lt_ ct_] 25) := ⟨_, rfl⟩
  have hB3 : Below w2.heap.size w2 w3 := by rw [hw3]; exact own_below w2 _
  have htb : w3.heap[w2.heap.size]? = some (.cells #[.int .u8 x.kind, .string x.rat, .string x.name, .int .i64 x.date, .slice at_ lt_ ct_] 25) := by rw [hw3]; exact heap_alloc_new w2 _
  have HTC : Hid (∀ W, Below w3.heap.size w3 W → _) := fun W hW => exCells ((hW.block _ (Array.getElem?_eq_some_iff.1 htb).1).trans htb)
  have HTA : Hid (∀ W, Below w3.heap.size w3 W → ExAt n W [.int .u8 x.kind, .string x.rat, .string x.name, .int .i64 x.date, .slice at_ lt_ ct_] x) := fun W hW => ExAt.below (hB3.trans (hW.mono hB3.size)) hat2
  have HB3 := Lib.hid (HB2.out.trans (hB3.mono HB2.out.size))
  have HPP := Lib.hid (pprint_any n x _ w3 w (HIN.out w3 HB3.out HSM.out.1 HSM.out.2) HSM.out.1)
  have HRP : Hid (∀ W, Below w3.heap.size w3 W → Calls Tryz.prog 7 #[.agg #[.int .u8 x.kind, .string x.rat, .string x.name, .int .i64 x.date, .slice a len cap]] W (PrP W (prS (chkX x) (rexT n x)) (prE (chkX x) (rexT n x)))) := fun W hW => rprint_any n x _ W w (HIN.out W (HB3.out.trans (hW.mono HB3.out.size)) HSM.out.1 HSM.out.2) HSM.out.1
  obtain ⟨S, hS⟩ : ∃ S, S = prS (chkX x) (rexT n x) := ⟨_, rfl⟩
  obtain ⟨V, hV⟩ : ∃ V, V = prE (chkX x) (rexT n x) := ⟨_, rfl⟩
  rw [← hS, ← hV] at HPP HRP
  have HW3 := Lib.hid hw3
  clear hb hon hat2 hw3 hB3 htb hS hV c0 c1 c2 c3 c4
  obtain ⟨c0, c1, c2, c3, c4⟩ := HCC.out w2 HB2.out
  have hz2 : w.heap.size < w2.heap.size := Nat.lt_of_lt_of_le hzW HB2.out.size
  go_wp2_with fail
  rw [← HW3.out]
  refine HPP.out.mono ?_
  rintro e w4 ⟨rfl, hb⟩
  have HB4 := Lib.hid hb
  clear hb c0 c1 c2 c3 c4
  obtain ⟨c0, c1, c2, c3, c4⟩ := HCC.out w4 (HB3.out.trans (HB4.out.mono HB3.out.size))
  go_wp2_with fail
  refine (HRP.out _ HB4.out).mono ?_
  rintro e w5 ⟨rfl, hb⟩
  have HB5 := Lib.hid (HB4.out.trans (hb.mono HB4.out.size))
  clear hb c0 c1 c2 c3 c4
  go_wp2_with fail
  refine (HPQ.out _).mono ?_
  rintro e w6 ⟨rfl, hb⟩
  have HB6 := Lib.hid (HB5.out.trans (hb.mono HB5.out.size))
  clear hb
  go_wp2_with fail
  refine (HRQ.out _).mono ?_
  rintro e w7 ⟨rfl, hb⟩
  have HB7 := Lib.hid (HB6.out.trans (hb.mono HB6.out.size))
  clear hb
  have HB07 := Lib.hid (HB3.out.trans (HB7.out.mono HB3.out.size))
  obtain ⟨c0, c1, c2, c3, c4⟩ := HCC.out w7 HB07.out
  obtain ⟨d0, d1, d2, d3, d4⟩ := HTC.out w7 HB7.out
  have HSX := Lib.hid (samex_any n x _ _ w7 (HAT.out w7 HB07.out) (HTA.out w7 HB7.out) (by have := HSM.out.1; omega))
  go_wp2_with fail
  refine HSX.out.mono ?_
  rintro e w8 ⟨rfl, hb⟩
  have HF := Lib.hid (HB0.out.trans ((HB07.out.trans (hb.mono HB07.out.size)).mono HB0.out.size))
  clear hb
  go_wp2_with fail
  go_ret
  exact ⟨rfl, HF.out⟩

end Go.Proofs.YtdgmpgejemgbbaaGreatDoor
