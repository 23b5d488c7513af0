/-
  (*out).contract walked: kind 8. No condition but lengths. (*out).contract walked: kind 9. No condition but lengths. (*out).contract walked: kind 10. No condition but lengths. (*out).contract: whole. No condition but lengths. The reference's Moved: each line moved by two spaces. No condition but the length. The reference's days. No condition but the days. The reference's in, from the contract of Contract. No condition but the size. The reference's Contract: kind 2. No condition but the size. The reference's Contract: kind 3. No condition but the size. The reference's Contract: kind 4. No condition but the size. The reference's Contract: kind 5. No condition but the size. The reference's Contract: kind 6. No condition but the size. The reference's Contract: kind 7. No condition but the size. The reference's Contract: kind 8. No condition but the size. The reference's Contract: kind 9. No condition but the size. The reference's Contract: kind 10. No condition but the size. The reference's Contract: whole. No condition but the size. A contract that is well-formed: the reference's Formed, walked. No condition but the size. The reference's Check of a contract. No condition but CtIn.
-/
import Derived.Test.YtijkefflpojmhaaDoorZah
import Derived.Test.YtijkefflpojmhaaDoorZab
import Derived.Test.YtijkefflpojmhaaDoorZaf
import Derived.Test.YtijkefflpojmhaaDoorZae
namespace Go.Proofs.YtijkefflpojmhaaDoor
open Go.RowKit

set_option maxHeartbeats 2000000 in
set_option maxRecDepth 100000 in
theorem contr_8 {Wb : World} {B b n : Nat} {m : Value} (ih : ContrC Wb B b m n) (x : Ct) (hk : x.kind = 8) (cs : List Value) (d : Nat) (l : List UInt8) (w : World) (h : CtAt (n + 1) Wb cs x) (ho : OkC (n + 1) x) (hd : d + x.size ≤ 3000) (he : OutEnv Wb B b m l w) (hlen : l.length + (pcT (n + 1) x d).length ≤ 1000000000) :
    Calls Tryd.prog 20 #[.pointer (some ⟨b, 0, none⟩), .agg cs.toArray, .int .i64 (d : Int)] w (WrP B b m (l ++ pcT (n + 1) x d) w) := by
  obtain ⟨ea, el, ec, da, dl, dc, a, len, cap, rfl, hex, hds, hlen2, hsub⟩ := h
  have hcs : (ctCells x ea el ec da dl dc a len cap).toArray = #[.int .u8 8, .string x.frm, .string x.too, .string x.name, .int .u8 x.expr.kind, .string x.expr.rat, .string x.expr.name, .int .i64 x.expr.date, .slice ea el ec, .int .i64 x.date, .slice da dl dc, .slice a len cap] := by unfold ctCells; rw [hk]
  rw [hcs]
  obtain ⟨_, hns, hox, hdt, _, hday, hsok⟩ := ho
  obtain ⟨Y, hY⟩ : ∃ Y, Y = subT d (x.sub.map fun y => pcT n y (d + 1)) := ⟨_, rfl⟩
  obtain ⟨H, hH⟩ : ∃ H, H = headT (n + 1) x := ⟨_, rfl⟩
  have hpc : pcT (n + 1) x d = H ++ Y := by rw [pcT, if_neg (by omega), if_neg (by omega), if_neg (by omega), hY, hH]
  rw [hpc] at hlen ⊢
  rw [List.length_append] at hlen
  have hlen3 : len ≤ 2 := by rw [← hlen2, hns]; unfold nSub; split <;> (try split) <;> decide
  have HSUB := Lib.hid hsub
  have HSOK := Lib.hid hsok
  have HLE : Hid (∀ k, (subN n d x.sub k).length ≤ Y.length) := fun k => by rw [hY]; exact subN_le _ _ _ _
  have HALL : Hid (∀ k, x.sub.length ≤ k → subN n d x.sub k = Y) := fun k hk => by rw [hY]; exact subN_all _ _ _ _ hk
  have HDS : Hid (∀ y ∈ x.sub, d + 1 + y.size ≤ 3000) := fun y hy => by have := Ct.sub_size hy; omega
  have hxp := x.size_pos
  have hd1 : d ≤ 3000 := by omega
  have HLEN2 := Lib.hid hlen2
  have HI := Lib.hid ih
  have hc0 := CAt.start #[.int .u8 8, .string x.frm, .string x.too, .string x.name, .int .u8 x.expr.kind, .string x.expr.rat, .string x.expr.name, .int .i64 x.expr.date, .slice ea el ec, .int .i64 x.date, .slice da dl dc, .slice a len cap] he
  obtain ⟨W0, hW0⟩ : ∃ W0, W0 = (w.alloc (.cells #[.pointer (some ⟨b, 0, none⟩)] 47)).alloc (.cells #[.int .u8 8, .string x.frm, .string x.too, .string x.name, .int .u8 x.expr.kind, .string x.expr.rat, .string x.expr.name, .int .i64 x.expr.date, .slice ea el ec, .int .i64 x.date, .slice da dl dc, .slice a len cap] 29) := ⟨_, rfl⟩
  have hW0s : W0.heap.size = w.heap.size + 1 + 1 := by rw [hW0]; simp
  rw [← hW0] at hc0
  have HW0 := Lib.hid hW0
  have HC0 := Lib.hid hc0
  have hday2 := hday (by omega)
  have HDS0 : Hid (DaysAt Wb da dl x.dates ∧ (∀ d ∈ x.dates, 0 ≤ d ∧ d ≤ 99999) ∧ x.dates.length ≤ 200) := ⟨hds, hday2.1, hday2.2.1⟩
  have HKX := Lib.hid hk
  have hH2 : H = [99, 97, 108, 108, 32] ++ (qn x.name).data.toList ++ [32, 98, 121, 32] ++ (qn x.frm).data.toList ++ onT x.dates := by rw [hH]; unfold headT; rw [if_neg (by omega), if_neg (by omega), if_neg (by omega), if_neg (by omega), if_pos hk]
  have hHl : 5 + (qn x.name).size + 4 + (qn x.frm).size ≤ H.length := by
    have h1 : (qn x.name).data.toList.length = (qn x.name).size := by simp
    have h2 : (qn x.frm).data.toList.length = (qn x.frm).size := by simp
    rw [hH2]; simp only [List.length_append, List.length_cons, List.length_nil, h1, h2]; omega
  have HQ := Lib.hid (pqname_any x.name)
  have HR := Lib.hid (pqname_any x.frm)
  obtain ⟨q, hq⟩ : ∃ q, q = qn x.name := ⟨_, rfl⟩
  obtain ⟨r, hr⟩ : ∃ r, r = qn x.frm := ⟨_, rfl⟩
  rw [← hq] at HQ hH2 hHl
  rw [← hr] at HR hH2 hHl
  have hqz : q.data.toList.length = q.size := by simp
  have hrz : r.data.toList.length = r.size := by simp
  have HPB : Hid (l.length + ((ByteArray.mk #[99, 97, 108, 108, 32]).size + (q.size + ((ByteArray.mk #[32, 98, 121, 32]).size + r.size))) ≤ 140737488355328) := by show l.length + (5 + (q.size + (4 + r.size))) ≤ _; omega
  have HH2 := Lib.hid hH2
  have SB : ∀ W, CAt Wb B b m w #[.int .u8 8, .string x.frm, .string x.too, .string x.name, .int .u8 x.expr.kind, .string x.expr.rat, .string x.expr.name, .int .i64 x.expr.date, .slice ea el ec, .int .i64 x.date, .slice da dl dc, .slice a len cap] l W → W.cell? ⟨w.heap.size, 0, none⟩ = some (.pointer (some ⟨b, 0, none⟩)) ∧ W.cell? ⟨w.heap.size + 1, 3, none⟩ = some (.string x.name) ∧ W.cell? ⟨w.heap.size + 1, 1, none⟩ = some (.string x.frm) := fun W hW => ⟨exCell hW.obx 0, (ctBox hW.cbx).2.2.2.1, (ctBox hW.cbx).2.1⟩
  have HSB := Lib.hid SB
  have HSZ : Hid True := trivial
  have HC : Hid (CAt Wb B b m w #[.int .u8 8, .string x.frm, .string x.too, .string x.name, .int .u8 x.expr.kind, .string x.expr.rat, .string x.expr.name, .int .i64 x.expr.date, .slice ea el ec, .int .i64 x.date, .slice da dl dc, .slice a len cap] l W0.drew) := HC0.out.below ((Below.refl _ _).drew)
  obtain ⟨c0, c1, c2, c3, c4, c5, c6, c7, c8, c9, ca, cb⟩ := ctBox hc0.cbx
  have o0 := exCell hc0.obx 0
  clear hday2 ih hsub hsok hlen2 hY hpc hH hH2 hns hox hdt hday hcs hex hds hW0 hc0 hq hr SB
  go_enter Tryd.func20, Tryd.ntmps20
  go_wp2_with fail
  rw [← HW0.out]
  go_region_held3 (fun W => W.cell? ⟨w.heap.size, 0, none⟩ = some (.pointer (some ⟨b, 0, none⟩)) ∧ W.cell? ⟨w.heap.size + 1, 3, none⟩ = some (.string x.name) ∧ W.cell? ⟨w.heap.size + 1, 1, none⟩ = some (.string x.frm))
    ((first | with_reducible exact HSB.out _ HC.out | with_reducible exact HSB.out _ HC0.out | with_reducible exact HSB.out _ (HC.out.below (own_below _ _)) | with_reducible exact HSZ.out))
    ((first
      | (go_at_call 25
         first
           | (with_reducible refine (HQ.out _).mono ?_)
           | (with_reducible refine (HR.out _).mono ?_)
         rintro e u ⟨rfl, hb⟩
         have HC := Lib.hid (HC.out.below hb)
         clear hb)
      | (go_at_call 32
         with_reducible refine (put4 B b m l (ByteArray.mk #[99, 97, 108, 108, 32]) q (ByteArray.mk #[32, 98, 121, 32]) r _ HC.out.env.out HPB.out HC.out.env.size).mono ?_
         rintro e u ⟨rfl, hio, hok⟩
         have HC2 := Lib.hid (HC.out.step hio hok)
         have HSZ : Hid (u.cell? ⟨w.heap.size, 0, none⟩ = some (.pointer (some ⟨b, 0, none⟩)) ∧ u.cell? ⟨w.heap.size + 1, 3, none⟩ = some (.string x.name) ∧ u.cell? ⟨w.heap.size + 1, 1, none⟩ = some (.string x.frm)) := Lib.hid ⟨exCell HC2.out.obx 0, (ctBox HC2.out.cbx).2.2.2.1, (ctBox HC2.out.cbx).2.1⟩
         clear hio hok)))
  clear c0 c1 c2 c3 c4 c5 c6 c7 c8 c9 ca cb o0
  have HDT := Lib.hid (dates_any (Wb := Wb) (B := B) (b := b) (bc := w.heap.size + 1) (bo := w.heap.size) (m := m) x ea el ec da dl dc a len cap (_) u HC2.out.env HDS0.out.1 HDS0.out.2.1 HDS0.out.2.2 (by simp only [List.length_append, List.length_cons, List.length_nil, hqz, hrz]; show _ + (5 + _) ≤ _; omega) (by rw [HKX.out]; exact HC2.out.cbx) HC2.out.obx (by have := HC2.out.lt; omega) (by have := HC2.out.lt; omega))
  obtain ⟨c0, c1, c2, c3, c4, c5, c6, c7, c8, c9, ca, cb⟩ := ctBox HC2.out.cbx
  have o0 := exCell HC2.out.obx 0
  go_wp2_with fail
  with_reducible refine HDT.out.mono ?_
  rintro e uN ⟨rfl, hioN, hokN⟩
  have HCE := Lib.hid (CAt.cast (l' := l ++ H) (by rw [HH2.out]; simp [List.append_assoc]) (HC2.out.step hioN hokN))
  clear hioN hokN c0 c1 c2 c3 c4 c5 c6 c7 c8 c9 ca cb o0
  obtain ⟨c0, c1, c2, c3, c4, c5, c6, c7, c8, c9, ca, cb⟩ := ctBox HCE.out.cbx
  have o0 := exCell HCE.out.obx 0
  go_wp2_with fail
  go_loopw [119] (fun iv wr => ∃ k : Nat, k ≤ len ∧ iv = .int .i64 (k : Int) ∧ CAt Wb B b m w #[.int .u8 8, .string x.frm, .string x.too, .string x.name, .int .u8 x.expr.kind, .string x.expr.rat, .string x.expr.name, .int .i64 x.expr.date, .slice ea el ec, .int .i64 x.date, .slice da dl dc, .slice a len cap] (l ++ (H ++ subN n d x.sub k)) wr) (fun iv _ => len - (intOf iv).toNat)
  case atStart => exact ⟨0, Nat.zero_le _, rfl, by simpa [subN, subT] using HCE.out⟩
  case round =>
    clear c0 c1 c2 c3 c4 c5 c6 c7 c8 c9 ca cb o0
    obtain ⟨v1, rfl⟩ : ∃ w1 : World, w1 = wr := ⟨_, rfl⟩
    obtain ⟨k, hk, rfl, hcat⟩ := hrel
    have HCA := Lib.hid hcat
    have o0 := exCell hcat.obx 0
    by_cases hlt : k < len
    · have hlt2 : k < x.sub.length := by rw [HLEN2.out]; exact hlt
      rcases HSUB.out with h0 | ⟨g, o, ha, hg, hel⟩
      · omega
      · subst ha
        have HT := Lib.hid (subN_succ n d x.sub k hlt2)
        have hqk := HLE.out (k + 1)
        rw [HT.out] at hqk
        obtain ⟨y, hy, eap, elp, ecp, dap, dlp, dcp, ap, lenp, capp, ⟨e0, e1, e2, e3, e4, e5, e6, e7, e8, e9, ea_, eb_⟩, hx⟩ := (parts_old (B := B) (b := b) hcat.env.base hcat.env.old hg hel).elem (OutK.refl _ _ _) hlt2
        rw [← hy] at HT hqk
        have hym : y ∈ x.sub := by rw [hy]; exact List.getElem_mem _
        have HOY := Lib.hid (HSOK.out y hym)
        have HDY := Lib.hid (HDS.out y hym)
        have HX := Lib.hid hx
        have q0 : ((k : Int) == 0) = decide (k = 0) := by by_cases h : k = 0 <;> simp [h]
        obtain ⟨p, hp⟩ : ∃ p : ByteArray, p = if decide (k = 0) = true then ByteArray.mk #[32] else ByteArray.mk #[32, 101, 108, 115, 101, 32] := ⟨_, rfl⟩
        have hps : (if decide (k = 0) = true then [32] else [32, 101, 108, 115, 101, 32]) = p.data.toList := by rw [hp]; split <;> rfl
        rw [hps] at HT hqk
        have hpl : p.data.toList.length = p.size := by simp
        have u0 := ins_at (v1.alloc (.cells #[.int .u8 y.kind, .string y.frm, .string y.too, .string y.name, .int .u8 y.expr.kind, .string y.expr.rat, .string y.expr.name, .int .i64 y.expr.date, .slice eap elp ecp, .int .i64 y.date, .slice dap dlp dcp, .slice ap lenp capp] 29)) (ByteArray.mk #[32])
        have u1 := ins_atf (v1.alloc (.cells #[.int .u8 y.kind, .string y.frm, .string y.too, .string y.name, .int .u8 y.expr.kind, .string y.expr.rat, .string y.expr.name, .int .i64 y.expr.date, .slice eap elp ecp, .int .i64 y.date, .slice dap dlp dcp, .slice ap lenp capp] 29)) (ByteArray.mk #[32]) (ByteArray.mk #[32, 101, 108, 115, 101, 32])
        have lk := lok_two (alloc_at (v1.alloc (.cells #[.int .u8 y.kind, .string y.frm, .string y.too, .string y.name, .int .u8 y.expr.kind, .string y.expr.rat, .string y.expr.name, .int .i64 y.expr.date, .slice eap elp ecp, .int .i64 y.date, .slice dap dlp dcp, .slice ap lenp capp] 29)) (twoM (ByteArray.mk #[32]) (ByteArray.mk #[32, 101, 108, 115, 101, 32]))) (decide (k = 0))
        rw [← hp] at lk
        rw [World.size_alloc] at u0 u1 lk
        obtain ⟨q, hq⟩ : ∃ q, q = decide (k = 0) := ⟨_, rfl⟩
        rw [← hq] at q0 lk
        have hmm := @run_makeMap Tryd.prog
        have HBX := Lib.hid (alloc_at v1 (.cells #[.int .u8 y.kind, .string y.frm, .string y.too, .string y.name, .int .u8 y.expr.kind, .string y.expr.rat, .string y.expr.name, .int .i64 y.expr.date, .slice eap elp ecp, .int .i64 y.date, .slice dap dlp dcp, .slice ap lenp capp] 29))
        have hcb := HCA.out.below (own_below v1 (.cells #[.int .u8 y.kind, .string y.frm, .string y.too, .string y.name, .int .u8 y.expr.kind, .string y.expr.rat, .string y.expr.name, .int .i64 y.expr.date, .slice eap elp ecp, .int .i64 y.date, .slice dap dlp dcp, .slice ap lenp capp] 29))
        have HBV := Lib.hid (own_below (v1.alloc (.cells #[.int .u8 y.kind, .string y.frm, .string y.too, .string y.name, .int .u8 y.expr.kind, .string y.expr.rat, .string y.expr.name, .int .i64 y.expr.date, .slice eap elp ecp, .int .i64 y.date, .slice dap dlp dcp, .slice ap lenp capp] 29)) (twoM (ByteArray.mk #[32]) (ByteArray.mk #[32, 101, 108, 115, 101, 32])))
        have hcv := hcb.below HBV.out
        obtain ⟨V, hV⟩ : ∃ V, V = (v1.alloc (.cells #[.int .u8 y.kind, .string y.frm, .string y.too, .string y.name, .int .u8 y.expr.kind, .string y.expr.rat, .string y.expr.name, .int .i64 y.expr.date, .slice eap elp ecp, .int .i64 y.date, .slice dap dlp dcp, .slice ap lenp capp] 29)).alloc (twoM (ByteArray.mk #[32]) (ByteArray.mk #[32, 101, 108, 115, 101, 32])) := ⟨_, rfl⟩
        have hVs : V.heap.size = v1.heap.size + 1 + 1 := by rw [hV]; simp
        have hbx : V.heap[v1.heap.size]? = some (.cells #[.int .u8 y.kind, .string y.frm, .string y.too, .string y.name, .int .u8 y.expr.kind, .string y.expr.rat, .string y.expr.name, .int .i64 y.expr.date, .slice eap elp ecp, .int .i64 y.date, .slice dap dlp dcp, .slice ap lenp capp] 29) := by rw [hV]; exact heap_two ..
        rw [← hV] at hcv
        have HCV := Lib.hid hcv
        have HBXV := Lib.hid hbx
        have hbw := hcat.env.lt
        have hbo := (Array.getElem?_eq_some_iff.1 hcat.obx).1
        have hbc := (Array.getElem?_eq_some_iff.1 hcat.cbx).1
        have hl0 : 0 ≤ (subN n d x.sub k).length := Nat.zero_le _
        simp only [List.length_append] at hqk
        have HPP := Lib.hid (put1 B b m _ p V hcv.env.out (by simp only [List.length_append]; omega) hcv.env.size)
        rw [hVs] at HPP
        have HV := Lib.hid hV
        clear hy hym hx hp hps hq hcb hcv hV hbx hcat hel HBV HBX
        have L0 : (0 : Int) ≤ (k : Int) := by omega
        have L1 : (k : Int) < (len : Int) := by omega
        have HK0 : Hid (k = 0 ∨ ¬ k = 0) := Lib.hid (by omega)
        go_wp2_with fail
        rw [← HV.out]
        with_reducible refine HPP.out.mono ?_
        rintro e v2 ⟨rfl, hio2, hok2⟩
        have HC2 := Lib.hid (HCV.out.step hio2 hok2)
        have hbx2 := ctbox_kept HBXV.out hok2 (by omega)
        have o0 := exCell HC2.out.obx 0
        have hc3 := HC2.out.below (own_below v2 (.cells #[.int .u8 y.kind, .string y.frm, .string y.too, .string y.name, .int .u8 y.expr.kind, .string y.expr.rat, .string y.expr.name, .int .i64 y.expr.date, .slice eap elp ecp, .int .i64 y.date, .slice dap dlp dcp, .slice ap lenp capp] 29))
        have HBR := Lib.hid (braces_of HI.out d (ByteArray.mk #[]) (by decide) [y] v2.heap.size 0 1 1 _ _ rfl (by omega) hc3.env (parts_one HX.out HC2.out.env.lt) (fun z hz => by rw [List.mem_singleton.1 hz]; exact HOY.out) (fun z hz => by rw [List.mem_singleton.1 hz]; exact HDY.out) hd1 (by
          show _ + (brT d [] [pcT n y (d + 1)]).length ≤ _
          simp only [List.length_append]; omega))
        obtain ⟨c0, c1, c2, c3, c4, c5, c6, c7, c8, c9, ca, cb⟩ := ctBox hbx2
        have HC3 := Lib.hid hc3
        clear hio2 hok2 hbx2 hc3 u0 u1 lk
        go_wp2_with fail
        with_reducible refine HBR.out.mono ?_
        rintro e v3 ⟨rfl, hio3, hok3⟩
        have HC4 := Lib.hid (CAt.cast (l' := l ++ (H ++ subN n d x.sub (k + 1))) (by rw [HT.out]; simp [List.append_assoc]) (HC3.out.step hio3 hok3))
        clear hio3 hok3 c0 c1 c2 c3 c4 c5 c6 c7 c8 c9 ca cb o0
        go_wp2_with fail
        go_roundw
        case rel => exact ⟨k + 1, hlt, by go_num, HC4.out⟩
        case measure => simp [intOf] <;> omega
    · have HE : Hid (subN n d x.sub k = Y) := HALL.out k (by rw [HLEN2.out]; omega)
      have HF : Hid (WrP B b m (l ++ (H ++ Y)) w (.returned (.tuple #[])) v1) := by
        have := HCA.out
        rw [HE.out] at this
        exact ⟨rfl, this.env.out, this.kept⟩
      clear hcat
      go_wp2_with fail
      go_end0
      exact HF.out

end Go.Proofs.YtijkefflpojmhaaDoor

namespace Go.Proofs.YtijkefflpojmhaaDoor
open Go.RowKit

set_option maxHeartbeats 2000000 in
set_option maxRecDepth 100000 in
theorem contr_9 {Wb : World} {B b n : Nat} {m : Value} (ih : ContrC Wb B b m n) (x : Ct) (hk : x.kind = 9) (cs : List Value) (d : Nat) (l : List UInt8) (w : World) (h : CtAt (n + 1) Wb cs x) (ho : OkC (n + 1) x) (hd : d + x.size ≤ 3000) (he : OutEnv Wb B b m l w) (hlen : l.length + (pcT (n + 1) x d).length ≤ 1000000000) :
    Calls Tryd.prog 20 #[.pointer (some ⟨b, 0, none⟩), .agg cs.toArray, .int .i64 (d : Int)] w (WrP B b m (l ++ pcT (n + 1) x d) w) := by
  obtain ⟨ea, el, ec, da, dl, dc, a, len, cap, rfl, hex, hds, hlen2, hsub⟩ := h
  have hcs : (ctCells x ea el ec da dl dc a len cap).toArray = #[.int .u8 9, .string x.frm, .string x.too, .string x.name, .int .u8 x.expr.kind, .string x.expr.rat, .string x.expr.name, .int .i64 x.expr.date, .slice ea el ec, .int .i64 x.date, .slice da dl dc, .slice a len cap] := by unfold ctCells; rw [hk]
  rw [hcs]
  obtain ⟨_, hns, hox, hdt, _, hday, hsok⟩ := ho
  obtain ⟨Y, hY⟩ : ∃ Y, Y = subT d (x.sub.map fun y => pcT n y (d + 1)) := ⟨_, rfl⟩
  obtain ⟨H, hH⟩ : ∃ H, H = headT (n + 1) x := ⟨_, rfl⟩
  have hpc : pcT (n + 1) x d = H ++ Y := by rw [pcT, if_neg (by omega), if_neg (by omega), if_neg (by omega), hY, hH]
  rw [hpc] at hlen ⊢
  rw [List.length_append] at hlen
  have hlen3 : len ≤ 2 := by rw [← hlen2, hns]; unfold nSub; split <;> (try split) <;> decide
  have HSUB := Lib.hid hsub
  have HSOK := Lib.hid hsok
  have HLE : Hid (∀ k, (subN n d x.sub k).length ≤ Y.length) := fun k => by rw [hY]; exact subN_le _ _ _ _
  have HALL : Hid (∀ k, x.sub.length ≤ k → subN n d x.sub k = Y) := fun k hk => by rw [hY]; exact subN_all _ _ _ _ hk
  have HDS : Hid (∀ y ∈ x.sub, d + 1 + y.size ≤ 3000) := fun y hy => by have := Ct.sub_size hy; omega
  have hxp := x.size_pos
  have hd1 : d ≤ 3000 := by omega
  have HLEN2 := Lib.hid hlen2
  have HI := Lib.hid ih
  have hc0 := CAt.start #[.int .u8 9, .string x.frm, .string x.too, .string x.name, .int .u8 x.expr.kind, .string x.expr.rat, .string x.expr.name, .int .i64 x.expr.date, .slice ea el ec, .int .i64 x.date, .slice da dl dc, .slice a len cap] he
  obtain ⟨W0, hW0⟩ : ∃ W0, W0 = (w.alloc (.cells #[.pointer (some ⟨b, 0, none⟩)] 47)).alloc (.cells #[.int .u8 9, .string x.frm, .string x.too, .string x.name, .int .u8 x.expr.kind, .string x.expr.rat, .string x.expr.name, .int .i64 x.expr.date, .slice ea el ec, .int .i64 x.date, .slice da dl dc, .slice a len cap] 29) := ⟨_, rfl⟩
  have hW0s : W0.heap.size = w.heap.size + 1 + 1 := by rw [hW0]; simp
  rw [← hW0] at hc0
  have HW0 := Lib.hid hW0
  have HC0 := Lib.hid hc0
  have hday2 := hday (by omega)
  have HDS0 : Hid (DaysAt Wb da dl x.dates ∧ (∀ d ∈ x.dates, 0 ≤ d ∧ d ≤ 99999) ∧ x.dates.length ≤ 200) := ⟨hds, hday2.1, hday2.2.1⟩
  have HKX := Lib.hid hk
  have hH2 : H = [117, 110, 116, 105, 108, 32] ++ rexT (n + 1) x.expr ++ onT x.dates := by rw [hH]; unfold headT wUntil; rw [if_neg (by omega), if_neg (by omega), if_neg (by omega), if_neg (by omega), if_neg (by omega), if_pos hk]
  obtain ⟨E, hE⟩ : ∃ E, E = rexT (n + 1) x.expr := ⟨_, rfl⟩
  rw [← hE] at hH2
  have HXP : Hid (∀ l' W, OutEnv Wb B b m l' W → l'.length + E.length ≤ 1000000000 → Calls Tryd.prog 23 #[.pointer (some ⟨b, 0, none⟩), .agg #[.int .u8 x.expr.kind, .string x.expr.rat, .string x.expr.name, .int .i64 x.expr.date, .slice ea el ec], .int .i64 0] W (WrP B b m (l' ++ E) W)) := fun l' W hW hl' => by
    have := expr_all Wb B b m (n + 1) x.expr _ 0 l' W hex (hox (by rw [hk]; unfold HasEx; omega)).1 (by omega) (by omega) hW (by rw [pex_0, ← hE]; exact hl')
    rwa [pex_0, ← hE] at this
  have hHl : 6 + E.length ≤ H.length := by rw [hH2]; simp only [List.length_append, List.length_cons, List.length_nil]; omega
  have HH2 := Lib.hid hH2
  have u0 := ins_at W0 (ByteArray.mk #[117, 110, 116, 105, 108, 32])
  have u1 := ins_atf W0 (ByteArray.mk #[117, 110, 116, 105, 108, 32]) (ByteArray.mk #[119, 104, 101, 110, 32])
  have lk := lok_two (alloc_at W0 (twoM (ByteArray.mk #[117, 110, 116, 105, 108, 32]) (ByteArray.mk #[119, 104, 101, 110, 32]))) true
  rw [hW0s] at u0 u1 lk
  have lk2 : LokR (W0.alloc (twoM (ByteArray.mk #[117, 110, 116, 105, 108, 32]) (ByteArray.mk #[119, 104, 101, 110, 32]))) (w.heap.size + 1 + 1) true (ByteArray.mk #[117, 110, 116, 105, 108, 32]) := lk
  have hmm := @run_makeMap Tryd.prog
  have hcv := hc0.below (own_below W0 (twoM (ByteArray.mk #[117, 110, 116, 105, 108, 32]) (ByteArray.mk #[119, 104, 101, 110, 32])))
  obtain ⟨V, hV⟩ : ∃ V, V = W0.alloc (twoM (ByteArray.mk #[117, 110, 116, 105, 108, 32]) (ByteArray.mk #[119, 104, 101, 110, 32])) := ⟨_, rfl⟩
  have hVs : V.heap.size = w.heap.size + 1 + 1 + 1 := by rw [hV, World.size_alloc, hW0s]
  rw [← hV] at hcv
  have HCV := Lib.hid hcv
  have HP0 := Lib.hid (put1 B b m l (ByteArray.mk #[117, 110, 116, 105, 108, 32]) V hcv.env.out (by show l.length + 6 ≤ _; omega) hcv.env.size)
  rw [hVs] at HP0
  rw [hW0] at u0 u1 lk2 hV
  have HV := Lib.hid hV
  obtain ⟨c0, c1, c2, c3, c4, c5, c6, c7, c8, c9, ca, cb⟩ := ctBox hc0.cbx
  have o0 := exCell hc0.obx 0
  clear ih hsub hsok hlen2 hY hpc hH hH2 hns hox hdt hday hcs hex hds hW0 hc0 hE lk hV hcv hday2
  go_enter Tryd.func20, Tryd.ntmps20
  go_wp2_with fail
  rw [← HV.out]
  with_reducible refine HP0.out.mono ?_
  rintro e w1 ⟨rfl, hio1, hok1⟩
  have HC1 := Lib.hid (HCV.out.step hio1 hok1)
  have HP1 := Lib.hid (HXP.out _ w1 HC1.out.env (by simp only [List.length_append]; show l.length + 6 + _ ≤ _; omega))
  clear hio1 hok1 c0 c1 c2 c3 c4 c5 c6 c7 c8 c9 ca cb o0 u0 u1 lk2
  obtain ⟨c0, c1, c2, c3, c4, c5, c6, c7, c8, c9, ca, cb⟩ := ctBox HC1.out.cbx
  have o0 := exCell HC1.out.obx 0
  go_wp2_with fail
  with_reducible refine HP1.out.mono ?_
  rintro e w2 ⟨rfl, hio2, hok2⟩
  have HC2 := Lib.hid (HC1.out.step hio2 hok2)
  clear hio2 hok2 c0 c1 c2 c3 c4 c5 c6 c7 c8 c9 ca cb o0
  have HDT := Lib.hid (dates_any (Wb := Wb) (B := B) (b := b) (bc := w.heap.size + 1) (bo := w.heap.size) (m := m) x ea el ec da dl dc a len cap (_) w2 HC2.out.env HDS0.out.1 HDS0.out.2.1 HDS0.out.2.2 (by simp only [List.length_append]; show l.length + 6 + _ ≤ _; omega) (by rw [HKX.out]; exact HC2.out.cbx) HC2.out.obx (by have := HC2.out.lt; omega) (by have := HC2.out.lt; omega))
  obtain ⟨c0, c1, c2, c3, c4, c5, c6, c7, c8, c9, ca, cb⟩ := ctBox HC2.out.cbx
  have o0 := exCell HC2.out.obx 0
  go_wp2_with fail
  with_reducible refine HDT.out.mono ?_
  rintro e w3 ⟨rfl, hioN, hokN⟩
  have HCE := Lib.hid (CAt.cast (l' := l ++ H) (by rw [HH2.out]; simp [List.append_assoc]) (HC2.out.step hioN hokN))
  clear hioN hokN c0 c1 c2 c3 c4 c5 c6 c7 c8 c9 ca cb o0
  obtain ⟨c0, c1, c2, c3, c4, c5, c6, c7, c8, c9, ca, cb⟩ := ctBox HCE.out.cbx
  have o0 := exCell HCE.out.obx 0
  go_wp2_with fail
  go_loopw [119] (fun iv wr => ∃ k : Nat, k ≤ len ∧ iv = .int .i64 (k : Int) ∧ CAt Wb B b m w #[.int .u8 9, .string x.frm, .string x.too, .string x.name, .int .u8 x.expr.kind, .string x.expr.rat, .string x.expr.name, .int .i64 x.expr.date, .slice ea el ec, .int .i64 x.date, .slice da dl dc, .slice a len cap] (l ++ (H ++ subN n d x.sub k)) wr) (fun iv _ => len - (intOf iv).toNat)
  case atStart => exact ⟨0, Nat.zero_le _, rfl, by simpa [subN, subT] using HCE.out⟩
  case round =>
    clear c0 c1 c2 c3 c4 c5 c6 c7 c8 c9 ca cb o0
    obtain ⟨v1, rfl⟩ : ∃ w1 : World, w1 = wr := ⟨_, rfl⟩
    obtain ⟨k, hk, rfl, hcat⟩ := hrel
    have HCA := Lib.hid hcat
    have o0 := exCell hcat.obx 0
    by_cases hlt : k < len
    · have hlt2 : k < x.sub.length := by rw [HLEN2.out]; exact hlt
      rcases HSUB.out with h0 | ⟨g, o, ha, hg, hel⟩
      · omega
      · subst ha
        have HT := Lib.hid (subN_succ n d x.sub k hlt2)
        have hqk := HLE.out (k + 1)
        rw [HT.out] at hqk
        obtain ⟨y, hy, eap, elp, ecp, dap, dlp, dcp, ap, lenp, capp, ⟨e0, e1, e2, e3, e4, e5, e6, e7, e8, e9, ea_, eb_⟩, hx⟩ := (parts_old (B := B) (b := b) hcat.env.base hcat.env.old hg hel).elem (OutK.refl _ _ _) hlt2
        rw [← hy] at HT hqk
        have hym : y ∈ x.sub := by rw [hy]; exact List.getElem_mem _
        have HOY := Lib.hid (HSOK.out y hym)
        have HDY := Lib.hid (HDS.out y hym)
        have HX := Lib.hid hx
        have q0 : ((k : Int) == 0) = decide (k = 0) := by by_cases h : k = 0 <;> simp [h]
        obtain ⟨p, hp⟩ : ∃ p : ByteArray, p = if decide (k = 0) = true then ByteArray.mk #[32] else ByteArray.mk #[32, 101, 108, 115, 101, 32] := ⟨_, rfl⟩
        have hps : (if decide (k = 0) = true then [32] else [32, 101, 108, 115, 101, 32]) = p.data.toList := by rw [hp]; split <;> rfl
        rw [hps] at HT hqk
        have hpl : p.data.toList.length = p.size := by simp
        have u0 := ins_at (v1.alloc (.cells #[.int .u8 y.kind, .string y.frm, .string y.too, .string y.name, .int .u8 y.expr.kind, .string y.expr.rat, .string y.expr.name, .int .i64 y.expr.date, .slice eap elp ecp, .int .i64 y.date, .slice dap dlp dcp, .slice ap lenp capp] 29)) (ByteArray.mk #[32])
        have u1 := ins_atf (v1.alloc (.cells #[.int .u8 y.kind, .string y.frm, .string y.too, .string y.name, .int .u8 y.expr.kind, .string y.expr.rat, .string y.expr.name, .int .i64 y.expr.date, .slice eap elp ecp, .int .i64 y.date, .slice dap dlp dcp, .slice ap lenp capp] 29)) (ByteArray.mk #[32]) (ByteArray.mk #[32, 101, 108, 115, 101, 32])
        have lk := lok_two (alloc_at (v1.alloc (.cells #[.int .u8 y.kind, .string y.frm, .string y.too, .string y.name, .int .u8 y.expr.kind, .string y.expr.rat, .string y.expr.name, .int .i64 y.expr.date, .slice eap elp ecp, .int .i64 y.date, .slice dap dlp dcp, .slice ap lenp capp] 29)) (twoM (ByteArray.mk #[32]) (ByteArray.mk #[32, 101, 108, 115, 101, 32]))) (decide (k = 0))
        rw [← hp] at lk
        rw [World.size_alloc] at u0 u1 lk
        obtain ⟨q, hq⟩ : ∃ q, q = decide (k = 0) := ⟨_, rfl⟩
        rw [← hq] at q0 lk
        have hmm := @run_makeMap Tryd.prog
        have HBX := Lib.hid (alloc_at v1 (.cells #[.int .u8 y.kind, .string y.frm, .string y.too, .string y.name, .int .u8 y.expr.kind, .string y.expr.rat, .string y.expr.name, .int .i64 y.expr.date, .slice eap elp ecp, .int .i64 y.date, .slice dap dlp dcp, .slice ap lenp capp] 29))
        have hcb := HCA.out.below (own_below v1 (.cells #[.int .u8 y.kind, .string y.frm, .string y.too, .string y.name, .int .u8 y.expr.kind, .string y.expr.rat, .string y.expr.name, .int .i64 y.expr.date, .slice eap elp ecp, .int .i64 y.date, .slice dap dlp dcp, .slice ap lenp capp] 29))
        have HBV := Lib.hid (own_below (v1.alloc (.cells #[.int .u8 y.kind, .string y.frm, .string y.too, .string y.name, .int .u8 y.expr.kind, .string y.expr.rat, .string y.expr.name, .int .i64 y.expr.date, .slice eap elp ecp, .int .i64 y.date, .slice dap dlp dcp, .slice ap lenp capp] 29)) (twoM (ByteArray.mk #[32]) (ByteArray.mk #[32, 101, 108, 115, 101, 32])))
        have hcv := hcb.below HBV.out
        obtain ⟨V, hV⟩ : ∃ V, V = (v1.alloc (.cells #[.int .u8 y.kind, .string y.frm, .string y.too, .string y.name, .int .u8 y.expr.kind, .string y.expr.rat, .string y.expr.name, .int .i64 y.expr.date, .slice eap elp ecp, .int .i64 y.date, .slice dap dlp dcp, .slice ap lenp capp] 29)).alloc (twoM (ByteArray.mk #[32]) (ByteArray.mk #[32, 101, 108, 115, 101, 32])) := ⟨_, rfl⟩
        have hVs : V.heap.size = v1.heap.size + 1 + 1 := by rw [hV]; simp
        have hbx : V.heap[v1.heap.size]? = some (.cells #[.int .u8 y.kind, .string y.frm, .string y.too, .string y.name, .int .u8 y.expr.kind, .string y.expr.rat, .string y.expr.name, .int .i64 y.expr.date, .slice eap elp ecp, .int .i64 y.date, .slice dap dlp dcp, .slice ap lenp capp] 29) := by rw [hV]; exact heap_two ..
        rw [← hV] at hcv
        have HCV := Lib.hid hcv
        have HBXV := Lib.hid hbx
        have hbw := hcat.env.lt
        have hbo := (Array.getElem?_eq_some_iff.1 hcat.obx).1
        have hbc := (Array.getElem?_eq_some_iff.1 hcat.cbx).1
        have hl0 : 0 ≤ (subN n d x.sub k).length := Nat.zero_le _
        simp only [List.length_append] at hqk
        have HPP := Lib.hid (put1 B b m _ p V hcv.env.out (by simp only [List.length_append]; omega) hcv.env.size)
        rw [hVs] at HPP
        have HV := Lib.hid hV
        clear hy hym hx hp hps hq hcb hcv hV hbx hcat hel HBV HBX
        have L0 : (0 : Int) ≤ (k : Int) := by omega
        have L1 : (k : Int) < (len : Int) := by omega
        have HK0 : Hid (k = 0 ∨ ¬ k = 0) := Lib.hid (by omega)
        go_wp2_with fail
        rw [← HV.out]
        with_reducible refine HPP.out.mono ?_
        rintro e v2 ⟨rfl, hio2, hok2⟩
        have HC2 := Lib.hid (HCV.out.step hio2 hok2)
        have hbx2 := ctbox_kept HBXV.out hok2 (by omega)
        have o0 := exCell HC2.out.obx 0
        have hc3 := HC2.out.below (own_below v2 (.cells #[.int .u8 y.kind, .string y.frm, .string y.too, .string y.name, .int .u8 y.expr.kind, .string y.expr.rat, .string y.expr.name, .int .i64 y.expr.date, .slice eap elp ecp, .int .i64 y.date, .slice dap dlp dcp, .slice ap lenp capp] 29))
        have HBR := Lib.hid (braces_of HI.out d (ByteArray.mk #[]) (by decide) [y] v2.heap.size 0 1 1 _ _ rfl (by omega) hc3.env (parts_one HX.out HC2.out.env.lt) (fun z hz => by rw [List.mem_singleton.1 hz]; exact HOY.out) (fun z hz => by rw [List.mem_singleton.1 hz]; exact HDY.out) hd1 (by
          show _ + (brT d [] [pcT n y (d + 1)]).length ≤ _
          simp only [List.length_append]; omega))
        obtain ⟨c0, c1, c2, c3, c4, c5, c6, c7, c8, c9, ca, cb⟩ := ctBox hbx2
        have HC3 := Lib.hid hc3
        clear hio2 hok2 hbx2 hc3 u0 u1 lk
        go_wp2_with fail
        with_reducible refine HBR.out.mono ?_
        rintro e v3 ⟨rfl, hio3, hok3⟩
        have HC4 := Lib.hid (CAt.cast (l' := l ++ (H ++ subN n d x.sub (k + 1))) (by rw [HT.out]; simp [List.append_assoc]) (HC3.out.step hio3 hok3))
        clear hio3 hok3 c0 c1 c2 c3 c4 c5 c6 c7 c8 c9 ca cb o0
        go_wp2_with fail
        go_roundw
        case rel => exact ⟨k + 1, hlt, by go_num, HC4.out⟩
        case measure => simp [intOf] <;> omega
    · have HE : Hid (subN n d x.sub k = Y) := HALL.out k (by rw [HLEN2.out]; omega)
      have HF : Hid (WrP B b m (l ++ (H ++ Y)) w (.returned (.tuple #[])) v1) := by
        have := HCA.out
        rw [HE.out] at this
        exact ⟨rfl, this.env.out, this.kept⟩
      clear hcat
      go_wp2_with fail
      go_end0
      exact HF.out

end Go.Proofs.YtijkefflpojmhaaDoor

namespace Go.Proofs.YtijkefflpojmhaaDoor
open Go.RowKit

set_option maxHeartbeats 2000000 in
set_option maxRecDepth 100000 in
theorem contr_10 {Wb : World} {B b n : Nat} {m : Value} (ih : ContrC Wb B b m n) (x : Ct) (hk : x.kind = 10) (cs : List Value) (d : Nat) (l : List UInt8) (w : World) (h : CtAt (n + 1) Wb cs x) (ho : OkC (n + 1) x) (hd : d + x.size ≤ 3000) (he : OutEnv Wb B b m l w) (hlen : l.length + (pcT (n + 1) x d).length ≤ 1000000000) :
    Calls Tryd.prog 20 #[.pointer (some ⟨b, 0, none⟩), .agg cs.toArray, .int .i64 (d : Int)] w (WrP B b m (l ++ pcT (n + 1) x d) w) := by
  obtain ⟨ea, el, ec, da, dl, dc, a, len, cap, rfl, hex, hds, hlen2, hsub⟩ := h
  have hcs : (ctCells x ea el ec da dl dc a len cap).toArray = #[.int .u8 10, .string x.frm, .string x.too, .string x.name, .int .u8 x.expr.kind, .string x.expr.rat, .string x.expr.name, .int .i64 x.expr.date, .slice ea el ec, .int .i64 x.date, .slice da dl dc, .slice a len cap] := by unfold ctCells; rw [hk]
  rw [hcs]
  obtain ⟨_, hns, hox, hdt, _, hday, hsok⟩ := ho
  obtain ⟨Y, hY⟩ : ∃ Y, Y = subT d (x.sub.map fun y => pcT n y (d + 1)) := ⟨_, rfl⟩
  obtain ⟨H, hH⟩ : ∃ H, H = headT (n + 1) x := ⟨_, rfl⟩
  have hpc : pcT (n + 1) x d = H ++ Y := by rw [pcT, if_neg (by omega), if_neg (by omega), if_neg (by omega), hY, hH]
  rw [hpc] at hlen ⊢
  rw [List.length_append] at hlen
  have hlen3 : len ≤ 2 := by rw [← hlen2, hns]; unfold nSub; split <;> (try split) <;> decide
  have HSUB := Lib.hid hsub
  have HSOK := Lib.hid hsok
  have HLE : Hid (∀ k, (subN n d x.sub k).length ≤ Y.length) := fun k => by rw [hY]; exact subN_le _ _ _ _
  have HALL : Hid (∀ k, x.sub.length ≤ k → subN n d x.sub k = Y) := fun k hk => by rw [hY]; exact subN_all _ _ _ _ hk
  have HDS : Hid (∀ y ∈ x.sub, d + 1 + y.size ≤ 3000) := fun y hy => by have := Ct.sub_size hy; omega
  have hxp := x.size_pos
  have hd1 : d ≤ 3000 := by omega
  have HLEN2 := Lib.hid hlen2
  have HI := Lib.hid ih
  have hc0 := CAt.start #[.int .u8 10, .string x.frm, .string x.too, .string x.name, .int .u8 x.expr.kind, .string x.expr.rat, .string x.expr.name, .int .i64 x.expr.date, .slice ea el ec, .int .i64 x.date, .slice da dl dc, .slice a len cap] he
  obtain ⟨W0, hW0⟩ : ∃ W0, W0 = (w.alloc (.cells #[.pointer (some ⟨b, 0, none⟩)] 47)).alloc (.cells #[.int .u8 10, .string x.frm, .string x.too, .string x.name, .int .u8 x.expr.kind, .string x.expr.rat, .string x.expr.name, .int .i64 x.expr.date, .slice ea el ec, .int .i64 x.date, .slice da dl dc, .slice a len cap] 29) := ⟨_, rfl⟩
  have hW0s : W0.heap.size = w.heap.size + 1 + 1 := by rw [hW0]; simp
  rw [← hW0] at hc0
  have HW0 := Lib.hid hW0
  have HC0 := Lib.hid hc0
  have hday2 := hday (by omega)
  have HDS0 : Hid (DaysAt Wb da dl x.dates ∧ (∀ d ∈ x.dates, 0 ≤ d ∧ d ≤ 99999) ∧ x.dates.length ≤ 200) := ⟨hds, hday2.1, hday2.2.1⟩
  have HKX := Lib.hid hk
  have hH2 : H = [119, 104, 101, 110, 32] ++ rexT (n + 1) x.expr ++ onT x.dates := by rw [hH]; unfold headT wUntil; rw [if_neg (by omega), if_neg (by omega), if_neg (by omega), if_neg (by omega), if_neg (by omega), if_neg (by omega)]
  obtain ⟨E, hE⟩ : ∃ E, E = rexT (n + 1) x.expr := ⟨_, rfl⟩
  rw [← hE] at hH2
  have HXP : Hid (∀ l' W, OutEnv Wb B b m l' W → l'.length + E.length ≤ 1000000000 → Calls Tryd.prog 23 #[.pointer (some ⟨b, 0, none⟩), .agg #[.int .u8 x.expr.kind, .string x.expr.rat, .string x.expr.name, .int .i64 x.expr.date, .slice ea el ec], .int .i64 0] W (WrP B b m (l' ++ E) W)) := fun l' W hW hl' => by
    have := expr_all Wb B b m (n + 1) x.expr _ 0 l' W hex (hox (by rw [hk]; unfold HasEx; omega)).1 (by omega) (by omega) hW (by rw [pex_0, ← hE]; exact hl')
    rwa [pex_0, ← hE] at this
  have hHl : 5 + E.length ≤ H.length := by rw [hH2]; simp only [List.length_append, List.length_cons, List.length_nil]; omega
  have HH2 := Lib.hid hH2
  have u0 := ins_at W0 (ByteArray.mk #[117, 110, 116, 105, 108, 32])
  have u1 := ins_atf W0 (ByteArray.mk #[117, 110, 116, 105, 108, 32]) (ByteArray.mk #[119, 104, 101, 110, 32])
  have lk := lok_two (alloc_at W0 (twoM (ByteArray.mk #[117, 110, 116, 105, 108, 32]) (ByteArray.mk #[119, 104, 101, 110, 32]))) false
  rw [hW0s] at u0 u1 lk
  have lk2 : LokR (W0.alloc (twoM (ByteArray.mk #[117, 110, 116, 105, 108, 32]) (ByteArray.mk #[119, 104, 101, 110, 32]))) (w.heap.size + 1 + 1) false (ByteArray.mk #[119, 104, 101, 110, 32]) := lk
  have hmm := @run_makeMap Tryd.prog
  have hcv := hc0.below (own_below W0 (twoM (ByteArray.mk #[117, 110, 116, 105, 108, 32]) (ByteArray.mk #[119, 104, 101, 110, 32])))
  obtain ⟨V, hV⟩ : ∃ V, V = W0.alloc (twoM (ByteArray.mk #[117, 110, 116, 105, 108, 32]) (ByteArray.mk #[119, 104, 101, 110, 32])) := ⟨_, rfl⟩
  have hVs : V.heap.size = w.heap.size + 1 + 1 + 1 := by rw [hV, World.size_alloc, hW0s]
  rw [← hV] at hcv
  have HCV := Lib.hid hcv
  have HP0 := Lib.hid (put1 B b m l (ByteArray.mk #[119, 104, 101, 110, 32]) V hcv.env.out (by show l.length + 5 ≤ _; omega) hcv.env.size)
  rw [hVs] at HP0
  rw [hW0] at u0 u1 lk2 hV
  have HV := Lib.hid hV
  obtain ⟨c0, c1, c2, c3, c4, c5, c6, c7, c8, c9, ca, cb⟩ := ctBox hc0.cbx
  have o0 := exCell hc0.obx 0
  clear ih hsub hsok hlen2 hY hpc hH hH2 hns hox hdt hday hcs hex hds hW0 hc0 hE lk hV hcv hday2
  go_enter Tryd.func20, Tryd.ntmps20
  go_wp2_with fail
  rw [← HV.out]
  with_reducible refine HP0.out.mono ?_
  rintro e w1 ⟨rfl, hio1, hok1⟩
  have HC1 := Lib.hid (HCV.out.step hio1 hok1)
  have HP1 := Lib.hid (HXP.out _ w1 HC1.out.env (by simp only [List.length_append]; show l.length + 5 + _ ≤ _; omega))
  clear hio1 hok1 c0 c1 c2 c3 c4 c5 c6 c7 c8 c9 ca cb o0 u0 u1 lk2
  obtain ⟨c0, c1, c2, c3, c4, c5, c6, c7, c8, c9, ca, cb⟩ := ctBox HC1.out.cbx
  have o0 := exCell HC1.out.obx 0
  go_wp2_with fail
  with_reducible refine HP1.out.mono ?_
  rintro e w2 ⟨rfl, hio2, hok2⟩
  have HC2 := Lib.hid (HC1.out.step hio2 hok2)
  clear hio2 hok2 c0 c1 c2 c3 c4 c5 c6 c7 c8 c9 ca cb o0
  have HDT := Lib.hid (dates_any (Wb := Wb) (B := B) (b := b) (bc := w.heap.size + 1) (bo := w.heap.size) (m := m) x ea el ec da dl dc a len cap (_) w2 HC2.out.env HDS0.out.1 HDS0.out.2.1 HDS0.out.2.2 (by simp only [List.length_append]; show l.length + 5 + _ ≤ _; omega) (by rw [HKX.out]; exact HC2.out.cbx) HC2.out.obx (by have := HC2.out.lt; omega) (by have := HC2.out.lt; omega))
  obtain ⟨c0, c1, c2, c3, c4, c5, c6, c7, c8, c9, ca, cb⟩ := ctBox HC2.out.cbx
  have o0 := exCell HC2.out.obx 0
  go_wp2_with fail
  with_reducible refine HDT.out.mono ?_
  rintro e w3 ⟨rfl, hioN, hokN⟩
  have HCE := Lib.hid (CAt.cast (l' := l ++ H) (by rw [HH2.out]; simp [List.append_assoc]) (HC2.out.step hioN hokN))
  clear hioN hokN c0 c1 c2 c3 c4 c5 c6 c7 c8 c9 ca cb o0
  obtain ⟨c0, c1, c2, c3, c4, c5, c6, c7, c8, c9, ca, cb⟩ := ctBox HCE.out.cbx
  have o0 := exCell HCE.out.obx 0
  go_wp2_with fail
  go_loopw [119] (fun iv wr => ∃ k : Nat, k ≤ len ∧ iv = .int .i64 (k : Int) ∧ CAt Wb B b m w #[.int .u8 10, .string x.frm, .string x.too, .string x.name, .int .u8 x.expr.kind, .string x.expr.rat, .string x.expr.name, .int .i64 x.expr.date, .slice ea el ec, .int .i64 x.date, .slice da dl dc, .slice a len cap] (l ++ (H ++ subN n d x.sub k)) wr) (fun iv _ => len - (intOf iv).toNat)
  case atStart => exact ⟨0, Nat.zero_le _, rfl, by simpa [subN, subT] using HCE.out⟩
  case round =>
    clear c0 c1 c2 c3 c4 c5 c6 c7 c8 c9 ca cb o0
    obtain ⟨v1, rfl⟩ : ∃ w1 : World, w1 = wr := ⟨_, rfl⟩
    obtain ⟨k, hk, rfl, hcat⟩ := hrel
    have HCA := Lib.hid hcat
    have o0 := exCell hcat.obx 0
    by_cases hlt : k < len
    · have hlt2 : k < x.sub.length := by rw [HLEN2.out]; exact hlt
      rcases HSUB.out with h0 | ⟨g, o, ha, hg, hel⟩
      · omega
      · subst ha
        have HT := Lib.hid (subN_succ n d x.sub k hlt2)
        have hqk := HLE.out (k + 1)
        rw [HT.out] at hqk
        obtain ⟨y, hy, eap, elp, ecp, dap, dlp, dcp, ap, lenp, capp, ⟨e0, e1, e2, e3, e4, e5, e6, e7, e8, e9, ea_, eb_⟩, hx⟩ := (parts_old (B := B) (b := b) hcat.env.base hcat.env.old hg hel).elem (OutK.refl _ _ _) hlt2
        rw [← hy] at HT hqk
        have hym : y ∈ x.sub := by rw [hy]; exact List.getElem_mem _
        have HOY := Lib.hid (HSOK.out y hym)
        have HDY := Lib.hid (HDS.out y hym)
        have HX := Lib.hid hx
        have q0 : ((k : Int) == 0) = decide (k = 0) := by by_cases h : k = 0 <;> simp [h]
        obtain ⟨p, hp⟩ : ∃ p : ByteArray, p = if decide (k = 0) = true then ByteArray.mk #[32] else ByteArray.mk #[32, 101, 108, 115, 101, 32] := ⟨_, rfl⟩
        have hps : (if decide (k = 0) = true then [32] else [32, 101, 108, 115, 101, 32]) = p.data.toList := by rw [hp]; split <;> rfl
        rw [hps] at HT hqk
        have hpl : p.data.toList.length = p.size := by simp
        have u0 := ins_at (v1.alloc (.cells #[.int .u8 y.kind, .string y.frm, .string y.too, .string y.name, .int .u8 y.expr.kind, .string y.expr.rat, .string y.expr.name, .int .i64 y.expr.date, .slice eap elp ecp, .int .i64 y.date, .slice dap dlp dcp, .slice ap lenp capp] 29)) (ByteArray.mk #[32])
        have u1 := ins_atf (v1.alloc (.cells #[.int .u8 y.kind, .string y.frm, .string y.too, .string y.name, .int .u8 y.expr.kind, .string y.expr.rat, .string y.expr.name, .int .i64 y.expr.date, .slice eap elp ecp, .int .i64 y.date, .slice dap dlp dcp, .slice ap lenp capp] 29)) (ByteArray.mk #[32]) (ByteArray.mk #[32, 101, 108, 115, 101, 32])
        have lk := lok_two (alloc_at (v1.alloc (.cells #[.int .u8 y.kind, .string y.frm, .string y.too, .string y.name, .int .u8 y.expr.kind, .string y.expr.rat, .string y.expr.name, .int .i64 y.expr.date, .slice eap elp ecp, .int .i64 y.date, .slice dap dlp dcp, .slice ap lenp capp] 29)) (twoM (ByteArray.mk #[32]) (ByteArray.mk #[32, 101, 108, 115, 101, 32]))) (decide (k = 0))
        rw [← hp] at lk
        rw [World.size_alloc] at u0 u1 lk
        obtain ⟨q, hq⟩ : ∃ q, q = decide (k = 0) := ⟨_, rfl⟩
        rw [← hq] at q0 lk
        have hmm := @run_makeMap Tryd.prog
        have HBX := Lib.hid (alloc_at v1 (.cells #[.int .u8 y.kind, .string y.frm, .string y.too, .string y.name, .int .u8 y.expr.kind, .string y.expr.rat, .string y.expr.name, .int .i64 y.expr.date, .slice eap elp ecp, .int .i64 y.date, .slice dap dlp dcp, .slice ap lenp capp] 29))
        have hcb := HCA.out.below (own_below v1 (.cells #[.int .u8 y.kind, .string y.frm, .string y.too, .string y.name, .int .u8 y.expr.kind, .string y.expr.rat, .string y.expr.name, .int .i64 y.expr.date, .slice eap elp ecp, .int .i64 y.date, .slice dap dlp dcp, .slice ap lenp capp] 29))
        have HBV := Lib.hid (own_below (v1.alloc (.cells #[.int .u8 y.kind, .string y.frm, .string y.too, .string y.name, .int .u8 y.expr.kind, .string y.expr.rat, .string y.expr.name, .int .i64 y.expr.date, .slice eap elp ecp, .int .i64 y.date, .slice dap dlp dcp, .slice ap lenp capp] 29)) (twoM (ByteArray.mk #[32]) (ByteArray.mk #[32, 101, 108, 115, 101, 32])))
        have hcv := hcb.below HBV.out
        obtain ⟨V, hV⟩ : ∃ V, V = (v1.alloc (.cells #[.int .u8 y.kind, .string y.frm, .string y.too, .string y.name, .int .u8 y.expr.kind, .string y.expr.rat, .string y.expr.name, .int .i64 y.expr.date, .slice eap elp ecp, .int .i64 y.date, .slice dap dlp dcp, .slice ap lenp capp] 29)).alloc (twoM (ByteArray.mk #[32]) (ByteArray.mk #[32, 101, 108, 115, 101, 32])) := ⟨_, rfl⟩
        have hVs : V.heap.size = v1.heap.size + 1 + 1 := by rw [hV]; simp
        have hbx : V.heap[v1.heap.size]? = some (.cells #[.int .u8 y.kind, .string y.frm, .string y.too, .string y.name, .int .u8 y.expr.kind, .string y.expr.rat, .string y.expr.name, .int .i64 y.expr.date, .slice eap elp ecp, .int .i64 y.date, .slice dap dlp dcp, .slice ap lenp capp] 29) := by rw [hV]; exact heap_two ..
        rw [← hV] at hcv
        have HCV := Lib.hid hcv
        have HBXV := Lib.hid hbx
        have hbw := hcat.env.lt
        have hbo := (Array.getElem?_eq_some_iff.1 hcat.obx).1
        have hbc := (Array.getElem?_eq_some_iff.1 hcat.cbx).1
        have hl0 : 0 ≤ (subN n d x.sub k).length := Nat.zero_le _
        simp only [List.length_append] at hqk
        have HPP := Lib.hid (put1 B b m _ p V hcv.env.out (by simp only [List.length_append]; omega) hcv.env.size)
        rw [hVs] at HPP
        have HV := Lib.hid hV
        clear hy hym hx hp hps hq hcb hcv hV hbx hcat hel HBV HBX
        have L0 : (0 : Int) ≤ (k : Int) := by omega
        have L1 : (k : Int) < (len : Int) := by omega
        have HK0 : Hid (k = 0 ∨ ¬ k = 0) := Lib.hid (by omega)
        go_wp2_with fail
        rw [← HV.out]
        with_reducible refine HPP.out.mono ?_
        rintro e v2 ⟨rfl, hio2, hok2⟩
        have HC2 := Lib.hid (HCV.out.step hio2 hok2)
        have hbx2 := ctbox_kept HBXV.out hok2 (by omega)
        have o0 := exCell HC2.out.obx 0
        have hc3 := HC2.out.below (own_below v2 (.cells #[.int .u8 y.kind, .string y.frm, .string y.too, .string y.name, .int .u8 y.expr.kind, .string y.expr.rat, .string y.expr.name, .int .i64 y.expr.date, .slice eap elp ecp, .int .i64 y.date, .slice dap dlp dcp, .slice ap lenp capp] 29))
        have HBR := Lib.hid (braces_of HI.out d (ByteArray.mk #[]) (by decide) [y] v2.heap.size 0 1 1 _ _ rfl (by omega) hc3.env (parts_one HX.out HC2.out.env.lt) (fun z hz => by rw [List.mem_singleton.1 hz]; exact HOY.out) (fun z hz => by rw [List.mem_singleton.1 hz]; exact HDY.out) hd1 (by
          show _ + (brT d [] [pcT n y (d + 1)]).length ≤ _
          simp only [List.length_append]; omega))
        obtain ⟨c0, c1, c2, c3, c4, c5, c6, c7, c8, c9, ca, cb⟩ := ctBox hbx2
        have HC3 := Lib.hid hc3
        clear hio2 hok2 hbx2 hc3 u0 u1 lk
        go_wp2_with fail
        with_reducible refine HBR.out.mono ?_
        rintro e v3 ⟨rfl, hio3, hok3⟩
        have HC4 := Lib.hid (CAt.cast (l' := l ++ (H ++ subN n d x.sub (k + 1))) (by rw [HT.out]; simp [List.append_assoc]) (HC3.out.step hio3 hok3))
        clear hio3 hok3 c0 c1 c2 c3 c4 c5 c6 c7 c8 c9 ca cb o0
        go_wp2_with fail
        go_roundw
        case rel => exact ⟨k + 1, hlt, by go_num, HC4.out⟩
        case measure => simp [intOf] <;> omega
    · have HE : Hid (subN n d x.sub k = Y) := HALL.out k (by rw [HLEN2.out]; omega)
      have HF : Hid (WrP B b m (l ++ (H ++ Y)) w (.returned (.tuple #[])) v1) := by
        have := HCA.out
        rw [HE.out] at this
        exact ⟨rfl, this.env.out, this.kept⟩
      clear hcat
      go_wp2_with fail
      go_end0
      exact HF.out

end Go.Proofs.YtijkefflpojmhaaDoor

namespace Go.Proofs.YtijkefflpojmhaaDoor
open Go.RowKit

theorem contr_all (Wb : World) (B b : Nat) (m : Value) : ∀ n, ContrC Wb B b m n := by
  intro n
  induction n with
  | zero => intro x cs d l w h; exact h.elim
  | succ n ih =>
    intro x cs d l w h ho hd he hl
    have hk : x.kind = 1 ∨ x.kind = 2 ∨ x.kind = 3 ∨ x.kind = 4 ∨ x.kind = 5 ∨ x.kind = 6 ∨ x.kind = 7 ∨ x.kind = 8 ∨ x.kind = 9 ∨ x.kind = 10 := by have := ho.1; omega
    rcases hk with k | k | k | k | k | k | k | k | k | k
    · exact contr_1 ih x k cs d l w h ho hd he hl
    · exact contr_2 ih x k cs d l w h ho hd he hl
    · exact contr_3 ih x k cs d l w h ho hd he hl
    · exact contr_4 ih x k cs d l w h ho hd he hl
    · exact contr_5 ih x k cs d l w h ho hd he hl
    · exact contr_6 ih x k cs d l w h ho hd he hl
    · exact contr_7 ih x k cs d l w h ho hd he hl
    · exact contr_8 ih x k cs d l w h ho hd he hl
    · exact contr_9 ih x k cs d l w h ho hd he hl
    · exact contr_10 ih x k cs d l w h ho hd he hl

end Go.Proofs.YtijkefflpojmhaaDoor

namespace Go.Proofs.YtijkefflpojmhaaDoor
open Go.RowKit

/-- Behind the first k bytes. -/
def mvN (l : List UInt8) (k : Nat) : List UInt8 := [32, 32] ++ ind 2 (l.take k)
theorem mvN_succ (l : List UInt8) (k : Nat) (h : k < l.length) : mvN l (k + 1) = mvN l k ++ [l[k]] ++ (if l[k] = 10 then [32, 32] else []) := by
  unfold mvN
  rw [List.take_succ_eq_append_getElem h, ind_append, ind_cons, ind_nil]
  by_cases h10 : l[k] = 10
  · rw [if_pos h10, if_pos h10, h10]; simp
  · rw [if_neg h10, if_neg h10]; simp
theorem mvN_len (l : List UInt8) (k : Nat) (h : k ≤ l.length) : (mvN l k).length ≤ 2 + 3 * k := by
  induction k with
  | zero => simp [mvN, ind_nil]
  | succ k ih =>
    have := ih (by omega)
    rw [mvN_succ l k (by omega), List.length_append, List.length_append]
    split <;> simp <;> omega
theorem mvN_all (l : List UInt8) (k : Nat) (h : l.length ≤ k) : mvN l k = mvT l := by
  unfold mvN mvT; rw [List.take_of_length_le h]

def MvR (w : World) (s : ByteArray) (v iv : Value) (W : World) : Prop :=
  ∃ k : Nat, k ≤ s.size ∧ iv = .int .i64 (k : Int) ∧ W.ownsRow w.heap.size 5 1 v (mvN s.data.toList k).length (bytesV (mvN s.data.toList k)) ∧ Below w.heap.size w W
theorem bytesV_app (a b : List UInt8) : bytesV (a ++ b) = bytesV a ++ bytesV b := by simp [bytesV]
theorem owns_two (w : World) : (w.alloc (.cells #[.int .u8 32, .int .u8 32] 5)).ownsRow w.heap.size 5 1 (.slice (some ⟨w.heap.size, 0, none⟩) 2 2) 2 (bytesV [32, 32]) :=
  ⟨rfl, .inr ⟨w.heap.size, 2, #[.int .u8 32, .int .u8 32], rfl, Nat.le_refl _, alloc_at _ _, by decide, by decide, rfl, rfl⟩⟩
set_option maxHeartbeats 1000000 in
set_option maxRecDepth 100000 in
theorem rmoved_any (s : ByteArray) (w : World) (hs : s.size ≤ 300000000) : Calls Tryd.prog 9 #[.string s] w (RxP w (mvT s.data.toList)) := by
  obtain ⟨i0, hi, hz0, hz1, hz2⟩ := info_parts infoB8
  have hsz : s.data.toList.length = s.size := by simp
  have H0 : Hid (MvR w s (.slice (some ⟨w.heap.size, 0, none⟩) 2 2) (.int .i64 0) (w.alloc (.cells #[.int .u8 32, .int .u8 32] 5))) := ⟨0, Nat.zero_le _, rfl, owns_two w, own_below w _⟩
  go_enter Tryd.func9, Tryd.ntmps9
  go_wp2_with fail
  go_loopw [3, 4] (fun v iv wr => MvR w s v iv wr) (fun _ iv _ => s.size - (intOf iv).toNat)
  case atStart => exact H0.out
  case round =>
    clear H0
    obtain ⟨w1, rfl⟩ : ∃ w1 : World, w1 = wr := ⟨_, rfl⟩
    obtain ⟨k, hk, rfl, ho, hb⟩ := hrel
    have HO := Lib.hid ho
    have HB := Lib.hid hb
    have hbs := hb.size
    have hml := mvN_len s.data.toList k (by omega)
    clear ho hb
    by_cases hlt : k < s.size
    · have hlt2 : k < s.data.toList.length := by omega
      have HT := Lib.hid (mvN_succ s.data.toList k hlt2)
      have hel : s.data.toList[k] = s[k] := rfl
      rw [hel] at HT
      have k0 : (0 : Int) ≤ (k : Int) := by omega
      have k1 : (k : Int) < (s.size : Int) := by omega
      obtain ⟨M, hM⟩ : ∃ M, M = mvN s.data.toList k := ⟨_, rfl⟩
      rw [← hM] at HT HO hml
      clear hM hel
      by_cases h10 : s[k] = 10
      · have q10 : (((s[k]'hlt).toNat : Int) == 10) = true := by rw [h10]; rfl
        rw [if_pos h10] at HT
        have HE : Hid (Value.int .u8 ((s[k]'hlt).toNat : Int) = .int .u8 10) := by show _ = _; rw [h10]; rfl
        clear h10
        go_wp2_with (at_builtin; refine wpList_append_own _ rfl (.tmp 12) (.tmp 16) 43 rfl w.heap.size 5 i0 (.int .u8 0) 1 1 Tryd.underlying43 hi hz0 hz1 hz2 rfl (by decide) _ _ _ rfl (HO.out.alloc _) ⟨w1.heap.size, 0, none⟩ 1 1 [.int .u8 ((s[k]'hlt).toNat : Int)] rfl rfl ?c1 ?c2 ?c3 ?c4 ?c5 ?_)
        case c1 =>
          intro j u hj
          match j, hj with
          | 0, hj => simp at hj; subst hj; simp [Addr.add]
          | (j + 1), hj => simp at hj
        case c2 => intro u hu; simp at hu; subst hu; rfl
        case c3 => unfold maxLen; omega
        case c4 => omega
        case c5 => simp; omega
        intro v2 w2 ho2 hg2 hn2
        have HB2 : Hid (Below w.heap.size w w2) := (HB.out.alloc hbs _).grown hg2 (by simp; omega) (fun k hk => (HO.out.lt k hk).1)
        have ho2' : w2.ownsRow w.heap.size 5 1 v2 (M.length + 1) (bytesV (M ++ [s[k]'hlt])) := by rw [bytesV_app]; exact ho2
        have HO2 := Lib.hid ho2'
        have hbs2 := HB2.out.size
        clear ho2 ho2' hg2 hn2
        go_wp2_with (at_builtin; refine wpList_append_own _ rfl (.tmp 22) (.tmp 23) 43 rfl w.heap.size 5 i0 (.int .u8 0) 1 1 Tryd.underlying43 hi hz0 hz1 hz2 rfl (by decide) _ _ _ rfl (HO2.out.alloc _) ⟨w2.heap.size, 0, none⟩ 2 2 [.int .u8 32, .int .u8 32] rfl rfl ?c1 ?c2 ?c3 ?c4 ?c5 ?_)
        case c1 =>
          intro j u hj
          match j, hj with
          | 0, hj => simp at hj; subst hj; simp [Addr.add]
          | 1, hj => simp at hj; subst hj; simp [Addr.add]
          | (j + 2), hj => simp at hj
        case c2 => intro u hu; simp at hu; subst hu; rfl
        case c3 => unfold maxLen; omega
        case c4 => omega
        case c5 => simp; omega
        intro v3 w3 ho3 hg3 hn3
        have HB3 : Hid (Below w.heap.size w w3) := (HB2.out.alloc hbs2 _).grown hg3 (by simp; omega) (fun k hk => (HO2.out.lt k hk).1)
        have HO3 : Hid (w3.ownsRow w.heap.size 5 1 v3 (mvN s.data.toList (k + 1)).length (bytesV (mvN s.data.toList (k + 1)))) := by
          show World.ownsRow ..
          rw [HT.out, bytesV_app, List.length_append, List.length_append]
          exact ho3
        clear ho3 hg3 hn3
        go_wp2_with fail
        go_roundw
        case rel => exact ⟨k + 1, hlt, by go_num, HO3.out, HB3.out⟩
        case measure => simp [intOf] <;> omega
      · have q10 : (((s[k]'hlt).toNat : Int) == 10) = false := by
          rw [beq_eq_false_iff_ne]
          intro e
          exact h10 (UInt8.toNat_inj.1 (by have : (10 : UInt8).toNat = 10 := rfl; omega))
        rw [if_neg h10, List.append_nil] at HT
        clear h10
        go_wp2_with (at_builtin; refine wpList_append_own _ rfl (.tmp 12) (.tmp 16) 43 rfl w.heap.size 5 i0 (.int .u8 0) 1 1 Tryd.underlying43 hi hz0 hz1 hz2 rfl (by decide) _ _ _ rfl (HO.out.alloc _) ⟨w1.heap.size, 0, none⟩ 1 1 [.int .u8 ((s[k]'hlt).toNat : Int)] rfl rfl ?c1 ?c2 ?c3 ?c4 ?c5 ?_)
        case c1 =>
          intro j u hj
          match j, hj with
          | 0, hj => simp at hj; subst hj; simp [Addr.add]
          | (j + 1), hj => simp at hj
        case c2 => intro u hu; simp at hu; subst hu; rfl
        case c3 => unfold maxLen; omega
        case c4 => omega
        case c5 => simp; omega
        intro v2 w2 ho2 hg2 hn2
        have HB2 : Hid (Below w.heap.size w w2) := (HB.out.alloc hbs _).grown hg2 (by simp; omega) (fun k hk => (HO.out.lt k hk).1)
        have HO2 : Hid (w2.ownsRow w.heap.size 5 1 v2 (mvN s.data.toList (k + 1)).length (bytesV (mvN s.data.toList (k + 1)))) := by
          show World.ownsRow ..
          rw [HT.out, bytesV_app, List.length_append]
          exact ho2
        clear ho2 hg2 hn2
        go_wp2_with fail
        go_roundw
        case rel => exact ⟨k + 1, hlt, by go_num, HO2.out, HB2.out⟩
        case measure => simp [intOf] <;> omega
    · have hall := mvN_all s.data.toList k (by omega)
      rw [hall] at HO
      have hcv := conv_own HO.out 9 Tryd.underlying9
      clear hall hml
      go_wp2_with fail
      go_ret
      exact ⟨rfl, HB.out⟩

end Go.Proofs.YtijkefflpojmhaaDoor

namespace Go.Proofs.YtijkefflpojmhaaDoor
open Go.RowKit

noncomputable def dyN (l : List Int) (k : Nat) : List UInt8 := commas ((l.take k).map dtxt)
theorem dyN_one (l : List Int) (h : 0 < l.length) : dyN l 1 = dtxt l[0] := by
  unfold dyN
  rw [List.take_succ_eq_append_getElem h]; simp [commas]
theorem dyN_succ (l : List Int) (k : Nat) (h : k < l.length) (h0 : 0 < k) : dyN l (k + 1) = dyN l k ++ ([44, 32] ++ dtxt l[k]) := by
  unfold dyN
  rw [List.take_succ_eq_append_getElem h, List.map_append, List.map_singleton, commas_snoc, if_neg (by
    intro e
    have e2 := congrArg List.length e
    rw [List.length_map, List.length_take, List.length_nil] at e2
    omega)]
theorem dyN_len (l : List Int) (k : Nat) (h : k ≤ l.length) : (dyN l k).length ≤ 12 * k := by
  induction k with
  | zero => simp [dyN, commas]
  | succ k ih =>
    have := ih (by omega)
    by_cases h0 : k = 0
    · subst h0
      rw [dyN_one l (by omega), dtxt_len]; omega
    · rw [dyN_succ l k (by omega) (by omega), List.length_append, List.length_append, dtxt_len]
      simp; omega
theorem dyN_all (l : List Int) (k : Nat) (h : l.length ≤ k) : dyN l k = daysT l := by
  unfold dyN daysT; rw [List.take_of_length_le h]
def DyR (w : World) (l : List Int) (sv iv : Value) (W : World) : Prop :=
  ∃ (k : Nat) (s : ByteArray), k ≤ l.length ∧ iv = .int .i64 (k : Int) ∧ sv = .string s ∧ Hid (s.data.toList = dyN l k) ∧ Below w.heap.size w W
end Go.Proofs.YtijkefflpojmhaaDoor

namespace Go.Proofs.YtijkefflpojmhaaDoor
open Go.RowKit

theorem rcT_small {n d : Nat} {x : Ct} (ho : OkC n x) (hs : CSm d x) (hz : x.size ≤ 3000) : (rcT n x).length ≤ 180000000 ∧ (mvT (rcT n x)).length ≤ 180030000 ∧ (inT (rcT n x)).length ≤ 180030000 := by
  obtain ⟨h1, h2⟩ := rcT_len n x d ho hs hz
  rw [mvT_len, inT_len]
  omega
end Go.Proofs.YtijkefflpojmhaaDoor

namespace Go.Proofs.YtijkefflpojmhaaDoor
open Go.RowKit

end Go.Proofs.YtijkefflpojmhaaDoor

namespace Go.Proofs.YtijkefflpojmhaaDoor
open Go.RowKit

end Go.Proofs.YtijkefflpojmhaaDoor

namespace Go.Proofs.YtijkefflpojmhaaDoor
open Go.RowKit

end Go.Proofs.YtijkefflpojmhaaDoor

namespace Go.Proofs.YtijkefflpojmhaaDoor
open Go.RowKit

end Go.Proofs.YtijkefflpojmhaaDoor

namespace Go.Proofs.YtijkefflpojmhaaDoor
open Go.RowKit

end Go.Proofs.YtijkefflpojmhaaDoor

namespace Go.Proofs.YtijkefflpojmhaaDoor
open Go.RowKit

end Go.Proofs.YtijkefflpojmhaaDoor

namespace Go.Proofs.YtijkefflpojmhaaDoor
open Go.RowKit

end Go.Proofs.YtijkefflpojmhaaDoor

namespace Go.Proofs.YtijkefflpojmhaaDoor
open Go.RowKit

end Go.Proofs.YtijkefflpojmhaaDoor

namespace Go.Proofs.YtijkefflpojmhaaDoor
open Go.RowKit

end Go.Proofs.YtijkefflpojmhaaDoor

namespace Go.Proofs.YtijkefflpojmhaaDoor
open Go.RowKit

end Go.Proofs.YtijkefflpojmhaaDoor

namespace Go.Proofs.YtijkefflpojmhaaDoor
open Go.RowKit

theorem formX_no {x : Ct} {k : Nat} (hk : k < x.sub.length) (h : formX x.sub[k] = false) : formX x = false := by
  rw [formX_is, show x.sub.all formX = false from by
    rw [List.all_eq_false]
    exact ⟨_, List.getElem_mem hk, by rw [h]; simp⟩]
  rfl
theorem formX_all {x : Ct} (h : ∀ i (hi : i < x.sub.length), formX x.sub[i] = true) : formX x = nodeX x := by
  rw [formX_is, show x.sub.all formX = true from by
    rw [List.all_eq_true]
    intro y hy
    obtain ⟨i, hi, rfl⟩ := List.getElem_of_mem hy
    exact h i hi]
  rfl
end Go.Proofs.YtijkefflpojmhaaDoor

namespace Go.Proofs.YtijkefflpojmhaaDoor
open Go.RowKit

/-- What Check answers. -/
def chkC (x : Ct) : Int := if 500 < x.csz ∨ 60 < x.cdp then 4 else if formX x then 0 else 8
theorem CtIn.sm9 {n : Nat} {x : Ct} {cs : List Value} {w Wg : World} (h : CtIn n x cs w Wg) : ∃ d, d ≤ 900 ∧ CSm d x := by
  obtain ⟨d, hd, h⟩ := h.small
  exact ⟨d, by omega, h⟩
end Go.Proofs.YtijkefflpojmhaaDoor
