/-
  (*out).expr walked: of an operator that binds too weakly: in parentheses (the second one is put by a deferred call). No condition but lengths.
-/
import Derived.Test.YtdgmpgejemgbbaaGreatDoorOe
import Derived.Defers
namespace Go.Proofs.YtdgmpgejemgbbaaGreatDoor
open Go.RowKit

set_option maxHeartbeats 2000000 in
set_option maxRecDepth 100000 in
theorem put_anyD (B b g : Nat) (m : Value) (l : List UInt8) (ss : List ByteArray) (u : FrameMode) (w : World) (n : Nat) (h : IsOut B b m l w) (hg : w.heap[g]? = some (.cells (ss.map Value.string).toArray 9 (0, 0))) (hn : ss.length = n) (hn1 : n ≤ 1000) (hlen : l.length + (catB ss).length ≤ 140737488355328) (hBw : B ≤ w.heap.size) :
    CallsD Tryz.prog 26 #[.pointer (some ⟨b, 0, none⟩), .slice (some ⟨g, 0, none⟩) n n] u w (fun e u' w' => u' = u ∧ WrP B b m (l ++ catB ss) w e w') := by
  have hgb : g ≠ b := by
    rintro rfl
    obtain ⟨p, _, v, hb, _⟩ := h.at
    rw [hg] at hb
    simp at hb
  have HG := Lib.hid hg
  have HO := Lib.hid h
  have HN := Lib.hid hn
  clear hg h hn
  go_enter_d Tryz.func26, Tryz.ntmps26
  go_wp2_with fail
  go_loopw [5, 8] (fun _ iv wr => ∃ k : Nat, k ≤ n ∧ iv = .int .i64 (k : Int) ∧ IsOut B b m (l ++ catB (ss.take k)) wr ∧ OutK B b w wr) (fun _ iv _ => n - (intOf iv).toNat)
  case atStart => exact ⟨0, Nat.zero_le _, rfl, by simpa [catB] using HO.out, OutK.refl _ _ _⟩
  case round =>
    obtain ⟨w1, rfl⟩ : ∃ w1 : World, w1 = wr := ⟨_, rfl⟩
    obtain ⟨k, hk, rfl, hio, hok⟩ := hrel
    have hB1 : B ≤ w1.heap.size := Nat.le_trans hBw hok.1.size
    have HIO := Lib.hid hio
    have HOK := Lib.hid hok
    have hg1 : w1.heap[g]? = some (.cells (ss.map Value.string).toArray 9 (0, 0)) := hok.2 g _ HG.out (by simpa using hgb) (by intro c fz e; simp at e)
    have hlt1 : b < w1.heap.size := by obtain ⟨p, hp⟩ := hio.at; exact hp.lt
    clear hio hok
    by_cases hlt : k < n
    · have hlt2 : k < ss.length := by rw [HN.out]; exact hlt
      obtain ⟨s, hs⟩ : ∃ s, s = ss[k] := ⟨_, rfl⟩
      have c0 : w1.cell? ⟨g, k, none⟩ = some (.string s) := by rw [Lib.cell_of_heap hg1, hs]; simp [hlt2]
      have HT : Hid (catB (ss.take (k + 1)) = catB (ss.take k) ++ s.data.toList) := by rw [hs]; exact catB_take ss k hlt2
      have HC := Lib.hid (bwrite_any B b m (l ++ catB (ss.take k)) s w1 HIO.out (by
        have q1 := catB_le ss (k + 1)
        have q2 := HT.out
        have q3 : s.data.toList.length = s.size := by simp
        rw [q2, List.length_append, q3] at q1
        rw [List.length_append]; omega) hB1)
      clear hg1 hs
      go_wp2_with fail
      refine HC.out.mono ?_
      rintro e w2 ⟨rfl, hio2, hok2⟩
      have HIO2 := Lib.hid hio2
      have HOK2 := Lib.hid (HOK.out.trans hok2)
      clear hio2 hok2
      go_wp2_with fail
      go_roundw
      case rel => exact ⟨k + 1, by omega, by go_num, by rw [HT.out, ← List.append_assoc]; exact HIO2.out, HOK2.out⟩
      case measure => simp [intOf] <;> omega
    · have HE : Hid (ss.take k = ss) := Lib.hid (List.take_of_length_le (by rw [HN.out]; omega))
      clear hg1
      go_wp2_with fail
      go_end0
      exact ⟨rfl, by rw [← HE.out]; exact HIO.out, HOK.out⟩

set_option maxHeartbeats 4000000 in
set_option maxRecDepth 100000 in
theorem expr_par4_1 {Wb : World} {B b : Nat} {m : Value} {n : Nat} (ih : ExprC Wb B b m n) (r nm : ByteArray) (d : Int) (x0 x1 : Ex) (cs : List Value) (least : Int) (l : List UInt8) (w : World)
    (h : ExAt (n + 1) Wb cs (Ex.mk 4 r nm d [x0, x1])) (ho0 : OkX n x0) (ho1 : OkX n x1) (hl : least = 1) (he : OutEnv Wb B b m l w) (hlen : l.length + (pexT (n + 1) (Ex.mk 4 r nm d [x0, x1]) least).length ≤ 1000000000) :
    Calls Tryz.prog 14 #[.pointer (some ⟨b, 0, none⟩), .agg cs.toArray, .int .i64 least] w (WrP B b m (l ++ pexT (n + 1) (Ex.mk 4 r nm d [x0, x1]) least) w) := by
  subst hl
  have hpt : pexT (n + 1) (Ex.mk 4 r nm d [x0, x1]) 1 = [40] ++ (pexT n x0 0 ++ ([32, 43, 32] ++ (pexT n x1 1 ++ [41]))) := by
    rw [pexT]; simp [parT, opO, opS, opN, Ex.kind, prt, Ex.sub]
  rw [hpt] at hlen ⊢
  obtain ⟨t0, ht0⟩ : ∃ t, t = pexT n x0 0 := ⟨_, rfl⟩
  obtain ⟨t1, ht1⟩ : ∃ t, t = pexT n x1 1 := ⟨_, rfl⟩
  rw [← ht0, ← ht1] at hlen ⊢
  simp only [List.length_append, List.length_cons, List.length_nil] at hlen
  obtain ⟨a, len, cap, rfl, hlen2, hsub⟩ := h
  obtain rfl : len = 2 := hlen2.symm
  rcases hsub with h0 | ⟨g, o, rfl, hg, hel⟩
  · omega
  have HOP : Hid (∀ W, Calls Tryz.prog 25 #[.int .u8 4] W (fun e w' => e = .returned (.tuple #[.string (ByteArray.mk #[32, 43, 32]), .int .i64 0, .int .i64 1]) ∧ W = w')) := fun W => oper_any 4 W
  have HI := Lib.hid ih
  have HE := Lib.hid hel
  have HG := Lib.hid hg
  have HO0 := Lib.hid ho0
  have HO1 := Lib.hid ho1
  have HT0 := Lib.hid ht0
  have HT1 := Lib.hid ht1
  have HEN := Lib.hid he
  have hbw := he.lt
  clear ih hel hg ho0 ho1 ht0 ht1 hlen2 hpt
  show Calls Tryz.prog 14 #[.pointer (some ⟨b, 0, none⟩), .agg #[.int .u8 4, .string r, .string nm, .int .i64 d, .slice (some ⟨g, o, none⟩) 2 cap], .int .i64 1] w _
  go_enter_defers Tryz.func14, Tryz.ntmps14
  go_wp2_with fail
  refine (HOP.out _).mono ?_
  rintro e w' ⟨rfl, rfl⟩
  obtain ⟨W0, hW0⟩ : ∃ W0, W0 = w.alloc (.cells #[.int .u8 4, .string r, .string nm, .int .i64 d, .slice (some ⟨g, o, none⟩) 2 cap] 25) := ⟨_, rfl⟩
  have hbx : W0.heap[w.heap.size]? = some (.cells #[.int .u8 4, .string r, .string nm, .int .i64 d, .slice (some ⟨g, o, none⟩) 2 cap] 25) := by rw [hW0]; exact alloc_at _ _
  have hE0 : OutEnv Wb B b m l W0 := by rw [hW0]; exact HEN.out.below (own_below w _)
  have hK0 : OutK B b w W0 := by rw [hW0]; exact OutK.below (own_below w _) HEN.out.size
  rw [← hW0]
  have HE0 := Lib.hid hE0
  have HBX := Lib.hid hbx
  have HK0 := Lib.hid hK0
  have HCP := Lib.hid (put1 B b m l (ByteArray.mk #[40]) W0 hE0.out (by show l.length + 1 ≤ _; omega) hE0.size)
  clear hW0 hbx hE0 hK0
  go_wp2_with fail
  refine HCP.out.mono ?_
  rintro e V1 ⟨rfl, hioP, hokP⟩
  obtain ⟨V0, hV0⟩ : ∃ V0, V0 = V1.alloc (.cells #[.string (ByteArray.mk #[41])] 9) := ⟨_, rfl⟩
  have hEP := HE0.out.step hioP hokP
  have hEV : OutEnv Wb B b m (l ++ [40]) V0 := by rw [hV0]; exact hEP.below (own_below V1 _)
  have hbv : V0.heap[V1.heap.size]? = some (.cells #[.string (ByteArray.mk #[41])] 9 (0, 0)) := by rw [hV0]; exact alloc_at _ _
  have hbxP := boxed_kept HBX.out hokP (by omega)
  have hbx : V0.heap[w.heap.size]? = some (.cells #[.int .u8 4, .string r, .string nm, .int .i64 d, .slice (some ⟨g, o, none⟩) 2 cap] 25) := by rw [hV0]; exact (Below.heap_alloc V1 _ _ (Array.getElem?_eq_some_iff.1 hbxP).1).trans hbxP
  have hKV : OutK B b w V0 := by rw [hV0]; exact (HK0.out.trans hokP).alloc hEP.size _
  have HBV := Lib.hid hbv
  have HEV := Lib.hid hEV
  have HBXV := Lib.hid hbx
  have HKV := Lib.hid hKV
  have hvb : V1.heap.size ≠ b := by have := hEP.lt; omega
  have z1 : w.heap.size < V1.heap.size := (Array.getElem?_eq_some_iff.1 hbxP).1
  have z2 : g < V1.heap.size := Nat.lt_of_lt_of_le HG.out hEP.old.size
  have hE0 := hEP
  obtain ⟨p0, l0, c0, ⟨e00, e01, e02, e03, e04⟩, hx0⟩ := ExAt.part (k := 0) (x := Ex.mk 4 r nm d [x0, x1]) HG.out hE0.old (show 0 < 2 by decide) HE.out
  simp only [Nat.zero_mul, Nat.add_zero, Ex.sub, List.getElem_cons_zero] at e00 e01 e02 e03 e04 hx0
  have b4 : V1.cell? ⟨w.heap.size, 4, none⟩ = some (.slice (some ⟨g, o, none⟩) 2 cap) := (exCells hbxP).2.2.2.2
  have HC0 := Lib.hid (HI.out x0 _ 0 (l ++ [40]) V0 hx0 HO0.out (by omega) (by omega) hEV (by rw [← HT0.out]; simp only [List.length_append, List.length_cons, List.length_nil]; omega))
  rw [← HT0.out] at HC0
  clear hbx hE0 hKV hx0 hbxP hEP hEV hbv hioP hokP
  subst hV0
  go_wp2_with fail
  refine HC0.out.mono ?_
  rintro e W1 ⟨rfl, hio1, hok1⟩
  have hE1 := HEV.out.step hio1 hok1
  have HBX1 := Lib.hid (boxed_kept HBXV.out hok1 (by omega))
  have HK1 := Lib.hid (HKV.out.trans hok1)
  have HE1 := Lib.hid hE1
  have HOK1 := Lib.hid hok1
  have HC1 := Lib.hid (put1 B b m (l ++ [40] ++ t0) (ByteArray.mk #[32, 43, 32]) W1 hio1 (by show (l ++ [40] ++ t0).length + 3 ≤ _; simp only [List.length_append, List.length_cons, List.length_nil]; omega) hE1.size)
  have b4' : W1.cell? ⟨w.heap.size, 4, none⟩ = some (.slice (some ⟨g, o, none⟩) 2 cap) := (exCells HBX1.out).2.2.2.2
  clear hio1 hok1 hE1 e00 e01 e02 e03 e04 b4
  go_wp2_with fail
  refine HC1.out.mono ?_
  rintro e W2 ⟨rfl, hio2, hok2⟩
  have hE2 := HE1.out.step hio2 hok2
  have HE2 := Lib.hid hE2
  have HOV := Lib.hid (HOK1.out.trans hok2)
  have HBX2 := Lib.hid (boxed_kept HBX1.out hok2 (by omega))
  have HK2 := Lib.hid (HK1.out.trans hok2)
  obtain ⟨p1, l1, c1, ⟨f0, f1, f2, f3, f4⟩, hx1⟩ := ExAt.part (k := 1) (x := Ex.mk 4 r nm d [x0, x1]) HG.out hE2.old (show 1 < 2 by decide) HE.out
  simp only [Nat.one_mul, Ex.sub, List.getElem_cons_succ, List.getElem_cons_zero] at f0 f1 f2 f3 f4 hx1
  have b4'' : W2.cell? ⟨w.heap.size, 4, none⟩ = some (.slice (some ⟨g, o, none⟩) 2 cap) := (exCells HBX2.out).2.2.2.2
  have HC2 := Lib.hid (HI.out x1 _ 1 _ W2 hx1 HO1.out (by omega) (by omega) hE2 (by rw [← HT1.out]; simp only [List.length_append]; show l.length + 1 + t0.length + 3 + _ ≤ _; omega))
  rw [← HT1.out] at HC2
  clear hio2 hok2 hE2 hx1 b4'
  go_wp2_with fail
  refine HC2.out.mono ?_
  rintro e W3 ⟨rfl, hio3, hok3⟩
  have HBV3 := HOV.out.2 _ _ (HBV.out) (by simpa using hvb) (by intro c fz e; simp at e)
  have HE3 := Lib.hid (HE2.out.step hio3 hok3)
  have HK3 := Lib.hid (HK2.out.trans hok3)
  have HBV4 := Lib.hid (hok3.2 _ _ HBV3 (by simpa using hvb) (by intro c fz e; simp at e))
  clear hio3 hok3 f0 f1 f2 f3 f4 b4'' HBV3
  go_wp2_with fail
  refine leaves_cons (f := 26) (args := #[.pointer (some ⟨b, 0, none⟩), .slice (some ⟨V1.heap.size, 0, none⟩) 1 1]) (by simp) (by simp [go_sem]) ?_
  refine (put_anyD B b _ m _ [ByteArray.mk #[41]] .returning W3 1 HE3.out.out HBV4.out rfl (by omega) (by simp only [List.length_append, List.length_cons, List.length_nil]; show l.length + (0 + 1) + t0.length + 3 + t1.length + 1 ≤ _; omega) HE3.out.size).mono ?_
  rintro e u' w'' ⟨rfl, rfl, hio4, hok4⟩
  exact ⟨_, results_none rfl _ _ _, rfl, by simpa [catB, List.append_assoc] using hio4, HK3.out.trans hok4⟩

set_option maxHeartbeats 4000000 in
set_option maxRecDepth 100000 in
theorem expr_par4_2 {Wb : World} {B b : Nat} {m : Value} {n : Nat} (ih : ExprC Wb B b m n) (r nm : ByteArray) (d : Int) (x0 x1 : Ex) (cs : List Value) (least : Int) (l : List UInt8) (w : World)
    (h : ExAt (n + 1) Wb cs (Ex.mk 4 r nm d [x0, x1])) (ho0 : OkX n x0) (ho1 : OkX n x1) (hl : least = 2) (he : OutEnv Wb B b m l w) (hlen : l.length + (pexT (n + 1) (Ex.mk 4 r nm d [x0, x1]) least).length ≤ 1000000000) :
    Calls Tryz.prog 14 #[.pointer (some ⟨b, 0, none⟩), .agg cs.toArray, .int .i64 least] w (WrP B b m (l ++ pexT (n + 1) (Ex.mk 4 r nm d [x0, x1]) least) w) := by
  subst hl
  have hpt : pexT (n + 1) (Ex.mk 4 r nm d [x0, x1]) 2 = [40] ++ (pexT n x0 0 ++ ([32, 43, 32] ++ (pexT n x1 1 ++ [41]))) := by
    rw [pexT]; simp [parT, opO, opS, opN, Ex.kind, prt, Ex.sub]
  rw [hpt] at hlen ⊢
  obtain ⟨t0, ht0⟩ : ∃ t, t = pexT n x0 0 := ⟨_, rfl⟩
  obtain ⟨t1, ht1⟩ : ∃ t, t = pexT n x1 1 := ⟨_, rfl⟩
  rw [← ht0, ← ht1] at hlen ⊢
  simp only [List.length_append, List.length_cons, List.length_nil] at hlen
  obtain ⟨a, len, cap, rfl, hlen2, hsub⟩ := h
  obtain rfl : len = 2 := hlen2.symm
  rcases hsub with h0 | ⟨g, o, rfl, hg, hel⟩
  · omega
  have HOP : Hid (∀ W, Calls Tryz.prog 25 #[.int .u8 4] W (fun e w' => e = .returned (.tuple #[.string (ByteArray.mk #[32, 43, 32]), .int .i64 0, .int .i64 1]) ∧ W = w')) := fun W => oper_any 4 W
  have HI := Lib.hid ih
  have HE := Lib.hid hel
  have HG := Lib.hid hg
  have HO0 := Lib.hid ho0
  have HO1 := Lib.hid ho1
  have HT0 := Lib.hid ht0
  have HT1 := Lib.hid ht1
  have HEN := Lib.hid he
  have hbw := he.lt
  clear ih hel hg ho0 ho1 ht0 ht1 hlen2 hpt
  show Calls Tryz.prog 14 #[.pointer (some ⟨b, 0, none⟩), .agg #[.int .u8 4, .string r, .string nm, .int .i64 d, .slice (some ⟨g, o, none⟩) 2 cap], .int .i64 2] w _
  go_enter_defers Tryz.func14, Tryz.ntmps14
  go_wp2_with fail
  refine (HOP.out _).mono ?_
  rintro e w' ⟨rfl, rfl⟩
  obtain ⟨W0, hW0⟩ : ∃ W0, W0 = w.alloc (.cells #[.int .u8 4, .string r, .string nm, .int .i64 d, .slice (some ⟨g, o, none⟩) 2 cap] 25) := ⟨_, rfl⟩
  have hbx : W0.heap[w.heap.size]? = some (.cells #[.int .u8 4, .string r, .string nm, .int .i64 d, .slice (some ⟨g, o, none⟩) 2 cap] 25) := by rw [hW0]; exact alloc_at _ _
  have hE0 : OutEnv Wb B b m l W0 := by rw [hW0]; exact HEN.out.below (own_below w _)
  have hK0 : OutK B b w W0 := by rw [hW0]; exact OutK.below (own_below w _) HEN.out.size
  rw [← hW0]
  have HE0 := Lib.hid hE0
  have HBX := Lib.hid hbx
  have HK0 := Lib.hid hK0
  have HCP := Lib.hid (put1 B b m l (ByteArray.mk #[40]) W0 hE0.out (by show l.length + 1 ≤ _; omega) hE0.size)
  clear hW0 hbx hE0 hK0
  go_wp2_with fail
  refine HCP.out.mono ?_
  rintro e V1 ⟨rfl, hioP, hokP⟩
  obtain ⟨V0, hV0⟩ : ∃ V0, V0 = V1.alloc (.cells #[.string (ByteArray.mk #[41])] 9) := ⟨_, rfl⟩
  have hEP := HE0.out.step hioP hokP
  have hEV : OutEnv Wb B b m (l ++ [40]) V0 := by rw [hV0]; exact hEP.below (own_below V1 _)
  have hbv : V0.heap[V1.heap.size]? = some (.cells #[.string (ByteArray.mk #[41])] 9 (0, 0)) := by rw [hV0]; exact alloc_at _ _
  have hbxP := boxed_kept HBX.out hokP (by omega)
  have hbx : V0.heap[w.heap.size]? = some (.cells #[.int .u8 4, .string r, .string nm, .int .i64 d, .slice (some ⟨g, o, none⟩) 2 cap] 25) := by rw [hV0]; exact (Below.heap_alloc V1 _ _ (Array.getElem?_eq_some_iff.1 hbxP).1).trans hbxP
  have hKV : OutK B b w V0 := by rw [hV0]; exact (HK0.out.trans hokP).alloc hEP.size _
  have HBV := Lib.hid hbv
  have HEV := Lib.hid hEV
  have HBXV := Lib.hid hbx
  have HKV := Lib.hid hKV
  have hvb : V1.heap.size ≠ b := by have := hEP.lt; omega
  have z1 : w.heap.size < V1.heap.size := (Array.getElem?_eq_some_iff.1 hbxP).1
  have z2 : g < V1.heap.size := Nat.lt_of_lt_of_le HG.out hEP.old.size
  have hE0 := hEP
  obtain ⟨p0, l0, c0, ⟨e00, e01, e02, e03, e04⟩, hx0⟩ := ExAt.part (k := 0) (x := Ex.mk 4 r nm d [x0, x1]) HG.out hE0.old (show 0 < 2 by decide) HE.out
  simp only [Nat.zero_mul, Nat.add_zero, Ex.sub, List.getElem_cons_zero] at e00 e01 e02 e03 e04 hx0
  have b4 : V1.cell? ⟨w.heap.size, 4, none⟩ = some (.slice (some ⟨g, o, none⟩) 2 cap) := (exCells hbxP).2.2.2.2
  have HC0 := Lib.hid (HI.out x0 _ 0 (l ++ [40]) V0 hx0 HO0.out (by omega) (by omega) hEV (by rw [← HT0.out]; simp only [List.length_append, List.length_cons, List.length_nil]; omega))
  rw [← HT0.out] at HC0
  clear hbx hE0 hKV hx0 hbxP hEP hEV hbv hioP hokP
  subst hV0
  go_wp2_with fail
  refine HC0.out.mono ?_
  rintro e W1 ⟨rfl, hio1, hok1⟩
  have hE1 := HEV.out.step hio1 hok1
  have HBX1 := Lib.hid (boxed_kept HBXV.out hok1 (by omega))
  have HK1 := Lib.hid (HKV.out.trans hok1)
  have HE1 := Lib.hid hE1
  have HOK1 := Lib.hid hok1
  have HC1 := Lib.hid (put1 B b m (l ++ [40] ++ t0) (ByteArray.mk #[32, 43, 32]) W1 hio1 (by show (l ++ [40] ++ t0).length + 3 ≤ _; simp only [List.length_append, List.length_cons, List.length_nil]; omega) hE1.size)
  have b4' : W1.cell? ⟨w.heap.size, 4, none⟩ = some (.slice (some ⟨g, o, none⟩) 2 cap) := (exCells HBX1.out).2.2.2.2
  clear hio1 hok1 hE1 e00 e01 e02 e03 e04 b4
  go_wp2_with fail
  refine HC1.out.mono ?_
  rintro e W2 ⟨rfl, hio2, hok2⟩
  have hE2 := HE1.out.step hio2 hok2
  have HE2 := Lib.hid hE2
  have HOV := Lib.hid (HOK1.out.trans hok2)
  have HBX2 := Lib.hid (boxed_kept HBX1.out hok2 (by omega))
  have HK2 := Lib.hid (HK1.out.trans hok2)
  obtain ⟨p1, l1, c1, ⟨f0, f1, f2, f3, f4⟩, hx1⟩ := ExAt.part (k := 1) (x := Ex.mk 4 r nm d [x0, x1]) HG.out hE2.old (show 1 < 2 by decide) HE.out
  simp only [Nat.one_mul, Ex.sub, List.getElem_cons_succ, List.getElem_cons_zero] at f0 f1 f2 f3 f4 hx1
  have b4'' : W2.cell? ⟨w.heap.size, 4, none⟩ = some (.slice (some ⟨g, o, none⟩) 2 cap) := (exCells HBX2.out).2.2.2.2
  have HC2 := Lib.hid (HI.out x1 _ 1 _ W2 hx1 HO1.out (by omega) (by omega) hE2 (by rw [← HT1.out]; simp only [List.length_append]; show l.length + 1 + t0.length + 3 + _ ≤ _; omega))
  rw [← HT1.out] at HC2
  clear hio2 hok2 hE2 hx1 b4'
  go_wp2_with fail
  refine HC2.out.mono ?_
  rintro e W3 ⟨rfl, hio3, hok3⟩
  have HBV3 := HOV.out.2 _ _ (HBV.out) (by simpa using hvb) (by intro c fz e; simp at e)
  have HE3 := Lib.hid (HE2.out.step hio3 hok3)
  have HK3 := Lib.hid (HK2.out.trans hok3)
  have HBV4 := Lib.hid (hok3.2 _ _ HBV3 (by simpa using hvb) (by intro c fz e; simp at e))
  clear hio3 hok3 f0 f1 f2 f3 f4 b4'' HBV3
  go_wp2_with fail
  refine leaves_cons (f := 26) (args := #[.pointer (some ⟨b, 0, none⟩), .slice (some ⟨V1.heap.size, 0, none⟩) 1 1]) (by simp) (by simp [go_sem]) ?_
  refine (put_anyD B b _ m _ [ByteArray.mk #[41]] .returning W3 1 HE3.out.out HBV4.out rfl (by omega) (by simp only [List.length_append, List.length_cons, List.length_nil]; show l.length + (0 + 1) + t0.length + 3 + t1.length + 1 ≤ _; omega) HE3.out.size).mono ?_
  rintro e u' w'' ⟨rfl, rfl, hio4, hok4⟩
  exact ⟨_, results_none rfl _ _ _, rfl, by simpa [catB, List.append_assoc] using hio4, HK3.out.trans hok4⟩

set_option maxHeartbeats 4000000 in
set_option maxRecDepth 100000 in
theorem expr_par5_1 {Wb : World} {B b : Nat} {m : Value} {n : Nat} (ih : ExprC Wb B b m n) (r nm : ByteArray) (d : Int) (x0 x1 : Ex) (cs : List Value) (least : Int) (l : List UInt8) (w : World)
    (h : ExAt (n + 1) Wb cs (Ex.mk 5 r nm d [x0, x1])) (ho0 : OkX n x0) (ho1 : OkX n x1) (hl : least = 1) (he : OutEnv Wb B b m l w) (hlen : l.length + (pexT (n + 1) (Ex.mk 5 r nm d [x0, x1]) least).length ≤ 1000000000) :
    Calls Tryz.prog 14 #[.pointer (some ⟨b, 0, none⟩), .agg cs.toArray, .int .i64 least] w (WrP B b m (l ++ pexT (n + 1) (Ex.mk 5 r nm d [x0, x1]) least) w) := by
  subst hl
  have hpt : pexT (n + 1) (Ex.mk 5 r nm d [x0, x1]) 1 = [40] ++ (pexT n x0 0 ++ ([32, 45, 32] ++ (pexT n x1 1 ++ [41]))) := by
    rw [pexT]; simp [parT, opO, opS, opN, Ex.kind, prt, Ex.sub]
  rw [hpt] at hlen ⊢
  obtain ⟨t0, ht0⟩ : ∃ t, t = pexT n x0 0 := ⟨_, rfl⟩
  obtain ⟨t1, ht1⟩ : ∃ t, t = pexT n x1 1 := ⟨_, rfl⟩
  rw [← ht0, ← ht1] at hlen ⊢
  simp only [List.length_append, List.length_cons, List.length_nil] at hlen
  obtain ⟨a, len, cap, rfl, hlen2, hsub⟩ := h
  obtain rfl : len = 2 := hlen2.symm
  rcases hsub with h0 | ⟨g, o, rfl, hg, hel⟩
  · omega
  have HOP : Hid (∀ W, Calls Tryz.prog 25 #[.int .u8 5] W (fun e w' => e = .returned (.tuple #[.string (ByteArray.mk #[32, 45, 32]), .int .i64 0, .int .i64 1]) ∧ W = w')) := fun W => oper_any 5 W
  have HI := Lib.hid ih
  have HE := Lib.hid hel
  have HG := Lib.hid hg
  have HO0 := Lib.hid ho0
  have HO1 := Lib.hid ho1
  have HT0 := Lib.hid ht0
  have HT1 := Lib.hid ht1
  have HEN := Lib.hid he
  have hbw := he.lt
  clear ih hel hg ho0 ho1 ht0 ht1 hlen2 hpt
  show Calls Tryz.prog 14 #[.pointer (some ⟨b, 0, none⟩), .agg #[.int .u8 5, .string r, .string nm, .int .i64 d, .slice (some ⟨g, o, none⟩) 2 cap], .int .i64 1] w _
  go_enter_defers Tryz.func14, Tryz.ntmps14
  go_wp2_with fail
  refine (HOP.out _).mono ?_
  rintro e w' ⟨rfl, rfl⟩
  obtain ⟨W0, hW0⟩ : ∃ W0, W0 = w.alloc (.cells #[.int .u8 5, .string r, .string nm, .int .i64 d, .slice (some ⟨g, o, none⟩) 2 cap] 25) := ⟨_, rfl⟩
  have hbx : W0.heap[w.heap.size]? = some (.cells #[.int .u8 5, .string r, .string nm, .int .i64 d, .slice (some ⟨g, o, none⟩) 2 cap] 25) := by rw [hW0]; exact alloc_at _ _
  have hE0 : OutEnv Wb B b m l W0 := by rw [hW0]; exact HEN.out.below (own_below w _)
  have hK0 : OutK B b w W0 := by rw [hW0]; exact OutK.below (own_below w _) HEN.out.size
  rw [← hW0]
  have HE0 := Lib.hid hE0
  have HBX := Lib.hid hbx
  have HK0 := Lib.hid hK0
  have HCP := Lib.hid (put1 B b m l (ByteArray.mk #[40]) W0 hE0.out (by show l.length + 1 ≤ _; omega) hE0.size)
  clear hW0 hbx hE0 hK0
  go_wp2_with fail
  refine HCP.out.mono ?_
  rintro e V1 ⟨rfl, hioP, hokP⟩
  obtain ⟨V0, hV0⟩ : ∃ V0, V0 = V1.alloc (.cells #[.string (ByteArray.mk #[41])] 9) := ⟨_, rfl⟩
  have hEP := HE0.out.step hioP hokP
  have hEV : OutEnv Wb B b m (l ++ [40]) V0 := by rw [hV0]; exact hEP.below (own_below V1 _)
  have hbv : V0.heap[V1.heap.size]? = some (.cells #[.string (ByteArray.mk #[41])] 9 (0, 0)) := by rw [hV0]; exact alloc_at _ _
  have hbxP := boxed_kept HBX.out hokP (by omega)
  have hbx : V0.heap[w.heap.size]? = some (.cells #[.int .u8 5, .string r, .string nm, .int .i64 d, .slice (some ⟨g, o, none⟩) 2 cap] 25) := by rw [hV0]; exact (Below.heap_alloc V1 _ _ (Array.getElem?_eq_some_iff.1 hbxP).1).trans hbxP
  have hKV : OutK B b w V0 := by rw [hV0]; exact (HK0.out.trans hokP).alloc hEP.size _
  have HBV := Lib.hid hbv
  have HEV := Lib.hid hEV
  have HBXV := Lib.hid hbx
  have HKV := Lib.hid hKV
  have hvb : V1.heap.size ≠ b := by have := hEP.lt; omega
  have z1 : w.heap.size < V1.heap.size := (Array.getElem?_eq_some_iff.1 hbxP).1
  have z2 : g < V1.heap.size := Nat.lt_of_lt_of_le HG.out hEP.old.size
  have hE0 := hEP
  obtain ⟨p0, l0, c0, ⟨e00, e01, e02, e03, e04⟩, hx0⟩ := ExAt.part (k := 0) (x := Ex.mk 5 r nm d [x0, x1]) HG.out hE0.old (show 0 < 2 by decide) HE.out
  simp only [Nat.zero_mul, Nat.add_zero, Ex.sub, List.getElem_cons_zero] at e00 e01 e02 e03 e04 hx0
  have b4 : V1.cell? ⟨w.heap.size, 4, none⟩ = some (.slice (some ⟨g, o, none⟩) 2 cap) := (exCells hbxP).2.2.2.2
  have HC0 := Lib.hid (HI.out x0 _ 0 (l ++ [40]) V0 hx0 HO0.out (by omega) (by omega) hEV (by rw [← HT0.out]; simp only [List.length_append, List.length_cons, List.length_nil]; omega))
  rw [← HT0.out] at HC0
  clear hbx hE0 hKV hx0 hbxP hEP hEV hbv hioP hokP
  subst hV0
  go_wp2_with fail
  refine HC0.out.mono ?_
  rintro e W1 ⟨rfl, hio1, hok1⟩
  have hE1 := HEV.out.step hio1 hok1
  have HBX1 := Lib.hid (boxed_kept HBXV.out hok1 (by omega))
  have HK1 := Lib.hid (HKV.out.trans hok1)
  have HE1 := Lib.hid hE1
  have HOK1 := Lib.hid hok1
  have HC1 := Lib.hid (put1 B b m (l ++ [40] ++ t0) (ByteArray.mk #[32, 45, 32]) W1 hio1 (by show (l ++ [40] ++ t0).length + 3 ≤ _; simp only [List.length_append, List.length_cons, List.length_nil]; omega) hE1.size)
  have b4' : W1.cell? ⟨w.heap.size, 4, none⟩ = some (.slice (some ⟨g, o, none⟩) 2 cap) := (exCells HBX1.out).2.2.2.2
  clear hio1 hok1 hE1 e00 e01 e02 e03 e04 b4
  go_wp2_with fail
  refine HC1.out.mono ?_
  rintro e W2 ⟨rfl, hio2, hok2⟩
  have hE2 := HE1.out.step hio2 hok2
  have HE2 := Lib.hid hE2
  have HOV := Lib.hid (HOK1.out.trans hok2)
  have HBX2 := Lib.hid (boxed_kept HBX1.out hok2 (by omega))
  have HK2 := Lib.hid (HK1.out.trans hok2)
  obtain ⟨p1, l1, c1, ⟨f0, f1, f2, f3, f4⟩, hx1⟩ := ExAt.part (k := 1) (x := Ex.mk 5 r nm d [x0, x1]) HG.out hE2.old (show 1 < 2 by decide) HE.out
  simp only [Nat.one_mul, Ex.sub, List.getElem_cons_succ, List.getElem_cons_zero] at f0 f1 f2 f3 f4 hx1
  have b4'' : W2.cell? ⟨w.heap.size, 4, none⟩ = some (.slice (some ⟨g, o, none⟩) 2 cap) := (exCells HBX2.out).2.2.2.2
  have HC2 := Lib.hid (HI.out x1 _ 1 _ W2 hx1 HO1.out (by omega) (by omega) hE2 (by rw [← HT1.out]; simp only [List.length_append]; show l.length + 1 + t0.length + 3 + _ ≤ _; omega))
  rw [← HT1.out] at HC2
  clear hio2 hok2 hE2 hx1 b4'
  go_wp2_with fail
  refine HC2.out.mono ?_
  rintro e W3 ⟨rfl, hio3, hok3⟩
  have HBV3 := HOV.out.2 _ _ (HBV.out) (by simpa using hvb) (by intro c fz e; simp at e)
  have HE3 := Lib.hid (HE2.out.step hio3 hok3)
  have HK3 := Lib.hid (HK2.out.trans hok3)
  have HBV4 := Lib.hid (hok3.2 _ _ HBV3 (by simpa using hvb) (by intro c fz e; simp at e))
  clear hio3 hok3 f0 f1 f2 f3 f4 b4'' HBV3
  go_wp2_with fail
  refine leaves_cons (f := 26) (args := #[.pointer (some ⟨b, 0, none⟩), .slice (some ⟨V1.heap.size, 0, none⟩) 1 1]) (by simp) (by simp [go_sem]) ?_
  refine (put_anyD B b _ m _ [ByteArray.mk #[41]] .returning W3 1 HE3.out.out HBV4.out rfl (by omega) (by simp only [List.length_append, List.length_cons, List.length_nil]; show l.length + (0 + 1) + t0.length + 3 + t1.length + 1 ≤ _; omega) HE3.out.size).mono ?_
  rintro e u' w'' ⟨rfl, rfl, hio4, hok4⟩
  exact ⟨_, results_none rfl _ _ _, rfl, by simpa [catB, List.append_assoc] using hio4, HK3.out.trans hok4⟩

set_option maxHeartbeats 4000000 in
set_option maxRecDepth 100000 in
theorem expr_par5_2 {Wb : World} {B b : Nat} {m : Value} {n : Nat} (ih : ExprC Wb B b m n) (r nm : ByteArray) (d : Int) (x0 x1 : Ex) (cs : List Value) (least : Int) (l : List UInt8) (w : World)
    (h : ExAt (n + 1) Wb cs (Ex.mk 5 r nm d [x0, x1])) (ho0 : OkX n x0) (ho1 : OkX n x1) (hl : least = 2) (he : OutEnv Wb B b m l w) (hlen : l.length + (pexT (n + 1) (Ex.mk 5 r nm d [x0, x1]) least).length ≤ 1000000000) :
    Calls Tryz.prog 14 #[.pointer (some ⟨b, 0, none⟩), .agg cs.toArray, .int .i64 least] w (WrP B b m (l ++ pexT (n + 1) (Ex.mk 5 r nm d [x0, x1]) least) w) := by
  subst hl
  have hpt : pexT (n + 1) (Ex.mk 5 r nm d [x0, x1]) 2 = [40] ++ (pexT n x0 0 ++ ([32, 45, 32] ++ (pexT n x1 1 ++ [41]))) := by
    rw [pexT]; simp [parT, opO, opS, opN, Ex.kind, prt, Ex.sub]
  rw [hpt] at hlen ⊢
  obtain ⟨t0, ht0⟩ : ∃ t, t = pexT n x0 0 := ⟨_, rfl⟩
  obtain ⟨t1, ht1⟩ : ∃ t, t = pexT n x1 1 := ⟨_, rfl⟩
  rw [← ht0, ← ht1] at hlen ⊢
  simp only [List.length_append, List.length_cons, List.length_nil] at hlen
  obtain ⟨a, len, cap, rfl, hlen2, hsub⟩ := h
  obtain rfl : len = 2 := hlen2.symm
  rcases hsub with h0 | ⟨g, o, rfl, hg, hel⟩
  · omega
  have HOP : Hid (∀ W, Calls Tryz.prog 25 #[.int .u8 5] W (fun e w' => e = .returned (.tuple #[.string (ByteArray.mk #[32, 45, 32]), .int .i64 0, .int .i64 1]) ∧ W = w')) := fun W => oper_any 5 W
  have HI := Lib.hid ih
  have HE := Lib.hid hel
  have HG := Lib.hid hg
  have HO0 := Lib.hid ho0
  have HO1 := Lib.hid ho1
  have HT0 := Lib.hid ht0
  have HT1 := Lib.hid ht1
  have HEN := Lib.hid he
  have hbw := he.lt
  clear ih hel hg ho0 ho1 ht0 ht1 hlen2 hpt
  show Calls Tryz.prog 14 #[.pointer (some ⟨b, 0, none⟩), .agg #[.int .u8 5, .string r, .string nm, .int .i64 d, .slice (some ⟨g, o, none⟩) 2 cap], .int .i64 2] w _
  go_enter_defers Tryz.func14, Tryz.ntmps14
  go_wp2_with fail
  refine (HOP.out _).mono ?_
  rintro e w' ⟨rfl, rfl⟩
  obtain ⟨W0, hW0⟩ : ∃ W0, W0 = w.alloc (.cells #[.int .u8 5, .string r, .string nm, .int .i64 d, .slice (some ⟨g, o, none⟩) 2 cap] 25) := ⟨_, rfl⟩
  have hbx : W0.heap[w.heap.size]? = some (.cells #[.int .u8 5, .string r, .string nm, .int .i64 d, .slice (some ⟨g, o, none⟩) 2 cap] 25) := by rw [hW0]; exact alloc_at _ _
  have hE0 : OutEnv Wb B b m l W0 := by rw [hW0]; exact HEN.out.below (own_below w _)
  have hK0 : OutK B b w W0 := by rw [hW0]; exact OutK.below (own_below w _) HEN.out.size
  rw [← hW0]
  have HE0 := Lib.hid hE0
  have HBX := Lib.hid hbx
  have HK0 := Lib.hid hK0
  have HCP := Lib.hid (put1 B b m l (ByteArray.mk #[40]) W0 hE0.out (by show l.length + 1 ≤ _; omega) hE0.size)
  clear hW0 hbx hE0 hK0
  go_wp2_with fail
  refine HCP.out.mono ?_
  rintro e V1 ⟨rfl, hioP, hokP⟩
  obtain ⟨V0, hV0⟩ : ∃ V0, V0 = V1.alloc (.cells #[.string (ByteArray.mk #[41])] 9) := ⟨_, rfl⟩
  have hEP := HE0.out.step hioP hokP
  have hEV : OutEnv Wb B b m (l ++ [40]) V0 := by rw [hV0]; exact hEP.below (own_below V1 _)
  have hbv : V0.heap[V1.heap.size]? = some (.cells #[.string (ByteArray.mk #[41])] 9 (0, 0)) := by rw [hV0]; exact alloc_at _ _
  have hbxP := boxed_kept HBX.out hokP (by omega)
  have hbx : V0.heap[w.heap.size]? = some (.cells #[.int .u8 5, .string r, .string nm, .int .i64 d, .slice (some ⟨g, o, none⟩) 2 cap] 25) := by rw [hV0]; exact (Below.heap_alloc V1 _ _ (Array.getElem?_eq_some_iff.1 hbxP).1).trans hbxP
  have hKV : OutK B b w V0 := by rw [hV0]; exact (HK0.out.trans hokP).alloc hEP.size _
  have HBV := Lib.hid hbv
  have HEV := Lib.hid hEV
  have HBXV := Lib.hid hbx
  have HKV := Lib.hid hKV
  have hvb : V1.heap.size ≠ b := by have := hEP.lt; omega
  have z1 : w.heap.size < V1.heap.size := (Array.getElem?_eq_some_iff.1 hbxP).1
  have z2 : g < V1.heap.size := Nat.lt_of_lt_of_le HG.out hEP.old.size
  have hE0 := hEP
  obtain ⟨p0, l0, c0, ⟨e00, e01, e02, e03, e04⟩, hx0⟩ := ExAt.part (k := 0) (x := Ex.mk 5 r nm d [x0, x1]) HG.out hE0.old (show 0 < 2 by decide) HE.out
  simp only [Nat.zero_mul, Nat.add_zero, Ex.sub, List.getElem_cons_zero] at e00 e01 e02 e03 e04 hx0
  have b4 : V1.cell? ⟨w.heap.size, 4, none⟩ = some (.slice (some ⟨g, o, none⟩) 2 cap) := (exCells hbxP).2.2.2.2
  have HC0 := Lib.hid (HI.out x0 _ 0 (l ++ [40]) V0 hx0 HO0.out (by omega) (by omega) hEV (by rw [← HT0.out]; simp only [List.length_append, List.length_cons, List.length_nil]; omega))
  rw [← HT0.out] at HC0
  clear hbx hE0 hKV hx0 hbxP hEP hEV hbv hioP hokP
  subst hV0
  go_wp2_with fail
  refine HC0.out.mono ?_
  rintro e W1 ⟨rfl, hio1, hok1⟩
  have hE1 := HEV.out.step hio1 hok1
  have HBX1 := Lib.hid (boxed_kept HBXV.out hok1 (by omega))
  have HK1 := Lib.hid (HKV.out.trans hok1)
  have HE1 := Lib.hid hE1
  have HOK1 := Lib.hid hok1
  have HC1 := Lib.hid (put1 B b m (l ++ [40] ++ t0) (ByteArray.mk #[32, 45, 32]) W1 hio1 (by show (l ++ [40] ++ t0).length + 3 ≤ _; simp only [List.length_append, List.length_cons, List.length_nil]; omega) hE1.size)
  have b4' : W1.cell? ⟨w.heap.size, 4, none⟩ = some (.slice (some ⟨g, o, none⟩) 2 cap) := (exCells HBX1.out).2.2.2.2
  clear hio1 hok1 hE1 e00 e01 e02 e03 e04 b4
  go_wp2_with fail
  refine HC1.out.mono ?_
  rintro e W2 ⟨rfl, hio2, hok2⟩
  have hE2 := HE1.out.step hio2 hok2
  have HE2 := Lib.hid hE2
  have HOV := Lib.hid (HOK1.out.trans hok2)
  have HBX2 := Lib.hid (boxed_kept HBX1.out hok2 (by omega))
  have HK2 := Lib.hid (HK1.out.trans hok2)
  obtain ⟨p1, l1, c1, ⟨f0, f1, f2, f3, f4⟩, hx1⟩ := ExAt.part (k := 1) (x := Ex.mk 5 r nm d [x0, x1]) HG.out hE2.old (show 1 < 2 by decide) HE.out
  simp only [Nat.one_mul, Ex.sub, List.getElem_cons_succ, List.getElem_cons_zero] at f0 f1 f2 f3 f4 hx1
  have b4'' : W2.cell? ⟨w.heap.size, 4, none⟩ = some (.slice (some ⟨g, o, none⟩) 2 cap) := (exCells HBX2.out).2.2.2.2
  have HC2 := Lib.hid (HI.out x1 _ 1 _ W2 hx1 HO1.out (by omega) (by omega) hE2 (by rw [← HT1.out]; simp only [List.length_append]; show l.length + 1 + t0.length + 3 + _ ≤ _; omega))
  rw [← HT1.out] at HC2
  clear hio2 hok2 hE2 hx1 b4'
  go_wp2_with fail
  refine HC2.out.mono ?_
  rintro e W3 ⟨rfl, hio3, hok3⟩
  have HBV3 := HOV.out.2 _ _ (HBV.out) (by simpa using hvb) (by intro c fz e; simp at e)
  have HE3 := Lib.hid (HE2.out.step hio3 hok3)
  have HK3 := Lib.hid (HK2.out.trans hok3)
  have HBV4 := Lib.hid (hok3.2 _ _ HBV3 (by simpa using hvb) (by intro c fz e; simp at e))
  clear hio3 hok3 f0 f1 f2 f3 f4 b4'' HBV3
  go_wp2_with fail
  refine leaves_cons (f := 26) (args := #[.pointer (some ⟨b, 0, none⟩), .slice (some ⟨V1.heap.size, 0, none⟩) 1 1]) (by simp) (by simp [go_sem]) ?_
  refine (put_anyD B b _ m _ [ByteArray.mk #[41]] .returning W3 1 HE3.out.out HBV4.out rfl (by omega) (by simp only [List.length_append, List.length_cons, List.length_nil]; show l.length + (0 + 1) + t0.length + 3 + t1.length + 1 ≤ _; omega) HE3.out.size).mono ?_
  rintro e u' w'' ⟨rfl, rfl, hio4, hok4⟩
  exact ⟨_, results_none rfl _ _ _, rfl, by simpa [catB, List.append_assoc] using hio4, HK3.out.trans hok4⟩

set_option maxHeartbeats 4000000 in
set_option maxRecDepth 100000 in
theorem expr_par6_2 {Wb : World} {B b : Nat} {m : Value} {n : Nat} (ih : ExprC Wb B b m n) (r nm : ByteArray) (d : Int) (x0 x1 : Ex) (cs : List Value) (least : Int) (l : List UInt8) (w : World)
    (h : ExAt (n + 1) Wb cs (Ex.mk 6 r nm d [x0, x1])) (ho0 : OkX n x0) (ho1 : OkX n x1) (hl : least = 2) (he : OutEnv Wb B b m l w) (hlen : l.length + (pexT (n + 1) (Ex.mk 6 r nm d [x0, x1]) least).length ≤ 1000000000) :
    Calls Tryz.prog 14 #[.pointer (some ⟨b, 0, none⟩), .agg cs.toArray, .int .i64 least] w (WrP B b m (l ++ pexT (n + 1) (Ex.mk 6 r nm d [x0, x1]) least) w) := by
  subst hl
  have hpt : pexT (n + 1) (Ex.mk 6 r nm d [x0, x1]) 2 = [40] ++ (pexT n x0 1 ++ ([32, 42, 32] ++ (pexT n x1 2 ++ [41]))) := by
    rw [pexT]; simp [parT, opO, opS, opN, Ex.kind, prt, Ex.sub]
  rw [hpt] at hlen ⊢
  obtain ⟨t0, ht0⟩ : ∃ t, t = pexT n x0 1 := ⟨_, rfl⟩
  obtain ⟨t1, ht1⟩ : ∃ t, t = pexT n x1 2 := ⟨_, rfl⟩
  rw [← ht0, ← ht1] at hlen ⊢
  simp only [List.length_append, List.length_cons, List.length_nil] at hlen
  obtain ⟨a, len, cap, rfl, hlen2, hsub⟩ := h
  obtain rfl : len = 2 := hlen2.symm
  rcases hsub with h0 | ⟨g, o, rfl, hg, hel⟩
  · omega
  have HOP : Hid (∀ W, Calls Tryz.prog 25 #[.int .u8 6] W (fun e w' => e = .returned (.tuple #[.string (ByteArray.mk #[32, 42, 32]), .int .i64 1, .int .i64 2]) ∧ W = w')) := fun W => oper_any 6 W
  have HI := Lib.hid ih
  have HE := Lib.hid hel
  have HG := Lib.hid hg
  have HO0 := Lib.hid ho0
  have HO1 := Lib.hid ho1
  have HT0 := Lib.hid ht0
  have HT1 := Lib.hid ht1
  have HEN := Lib.hid he
  have hbw := he.lt
  clear ih hel hg ho0 ho1 ht0 ht1 hlen2 hpt
  show Calls Tryz.prog 14 #[.pointer (some ⟨b, 0, none⟩), .agg #[.int .u8 6, .string r, .string nm, .int .i64 d, .slice (some ⟨g, o, none⟩) 2 cap], .int .i64 2] w _
  go_enter_defers Tryz.func14, Tryz.ntmps14
  go_wp2_with fail
  refine (HOP.out _).mono ?_
  rintro e w' ⟨rfl, rfl⟩
  obtain ⟨W0, hW0⟩ : ∃ W0, W0 = w.alloc (.cells #[.int .u8 6, .string r, .string nm, .int .i64 d, .slice (some ⟨g, o, none⟩) 2 cap] 25) := ⟨_, rfl⟩
  have hbx : W0.heap[w.heap.size]? = some (.cells #[.int .u8 6, .string r, .string nm, .int .i64 d, .slice (some ⟨g, o, none⟩) 2 cap] 25) := by rw [hW0]; exact alloc_at _ _
  have hE0 : OutEnv Wb B b m l W0 := by rw [hW0]; exact HEN.out.below (own_below w _)
  have hK0 : OutK B b w W0 := by rw [hW0]; exact OutK.below (own_below w _) HEN.out.size
  rw [← hW0]
  have HE0 := Lib.hid hE0
  have HBX := Lib.hid hbx
  have HK0 := Lib.hid hK0
  have HCP := Lib.hid (put1 B b m l (ByteArray.mk #[40]) W0 hE0.out (by show l.length + 1 ≤ _; omega) hE0.size)
  clear hW0 hbx hE0 hK0
  go_wp2_with fail
  refine HCP.out.mono ?_
  rintro e V1 ⟨rfl, hioP, hokP⟩
  obtain ⟨V0, hV0⟩ : ∃ V0, V0 = V1.alloc (.cells #[.string (ByteArray.mk #[41])] 9) := ⟨_, rfl⟩
  have hEP := HE0.out.step hioP hokP
  have hEV : OutEnv Wb B b m (l ++ [40]) V0 := by rw [hV0]; exact hEP.below (own_below V1 _)
  have hbv : V0.heap[V1.heap.size]? = some (.cells #[.string (ByteArray.mk #[41])] 9 (0, 0)) := by rw [hV0]; exact alloc_at _ _
  have hbxP := boxed_kept HBX.out hokP (by omega)
  have hbx : V0.heap[w.heap.size]? = some (.cells #[.int .u8 6, .string r, .string nm, .int .i64 d, .slice (some ⟨g, o, none⟩) 2 cap] 25) := by rw [hV0]; exact (Below.heap_alloc V1 _ _ (Array.getElem?_eq_some_iff.1 hbxP).1).trans hbxP
  have hKV : OutK B b w V0 := by rw [hV0]; exact (HK0.out.trans hokP).alloc hEP.size _
  have HBV := Lib.hid hbv
  have HEV := Lib.hid hEV
  have HBXV := Lib.hid hbx
  have HKV := Lib.hid hKV
  have hvb : V1.heap.size ≠ b := by have := hEP.lt; omega
  have z1 : w.heap.size < V1.heap.size := (Array.getElem?_eq_some_iff.1 hbxP).1
  have z2 : g < V1.heap.size := Nat.lt_of_lt_of_le HG.out hEP.old.size
  have hE0 := hEP
  obtain ⟨p0, l0, c0, ⟨e00, e01, e02, e03, e04⟩, hx0⟩ := ExAt.part (k := 0) (x := Ex.mk 6 r nm d [x0, x1]) HG.out hE0.old (show 0 < 2 by decide) HE.out
  simp only [Nat.zero_mul, Nat.add_zero, Ex.sub, List.getElem_cons_zero] at e00 e01 e02 e03 e04 hx0
  have b4 : V1.cell? ⟨w.heap.size, 4, none⟩ = some (.slice (some ⟨g, o, none⟩) 2 cap) := (exCells hbxP).2.2.2.2
  have HC0 := Lib.hid (HI.out x0 _ 1 (l ++ [40]) V0 hx0 HO0.out (by omega) (by omega) hEV (by rw [← HT0.out]; simp only [List.length_append, List.length_cons, List.length_nil]; omega))
  rw [← HT0.out] at HC0
  clear hbx hE0 hKV hx0 hbxP hEP hEV hbv hioP hokP
  subst hV0
  go_wp2_with fail
  refine HC0.out.mono ?_
  rintro e W1 ⟨rfl, hio1, hok1⟩
  have hE1 := HEV.out.step hio1 hok1
  have HBX1 := Lib.hid (boxed_kept HBXV.out hok1 (by omega))
  have HK1 := Lib.hid (HKV.out.trans hok1)
  have HE1 := Lib.hid hE1
  have HOK1 := Lib.hid hok1
  have HC1 := Lib.hid (put1 B b m (l ++ [40] ++ t0) (ByteArray.mk #[32, 42, 32]) W1 hio1 (by show (l ++ [40] ++ t0).length + 3 ≤ _; simp only [List.length_append, List.length_cons, List.length_nil]; omega) hE1.size)
  have b4' : W1.cell? ⟨w.heap.size, 4, none⟩ = some (.slice (some ⟨g, o, none⟩) 2 cap) := (exCells HBX1.out).2.2.2.2
  clear hio1 hok1 hE1 e00 e01 e02 e03 e04 b4
  go_wp2_with fail
  refine HC1.out.mono ?_
  rintro e W2 ⟨rfl, hio2, hok2⟩
  have hE2 := HE1.out.step hio2 hok2
  have HE2 := Lib.hid hE2
  have HOV := Lib.hid (HOK1.out.trans hok2)
  have HBX2 := Lib.hid (boxed_kept HBX1.out hok2 (by omega))
  have HK2 := Lib.hid (HK1.out.trans hok2)
  obtain ⟨p1, l1, c1, ⟨f0, f1, f2, f3, f4⟩, hx1⟩ := ExAt.part (k := 1) (x := Ex.mk 6 r nm d [x0, x1]) HG.out hE2.old (show 1 < 2 by decide) HE.out
  simp only [Nat.one_mul, Ex.sub, List.getElem_cons_succ, List.getElem_cons_zero] at f0 f1 f2 f3 f4 hx1
  have b4'' : W2.cell? ⟨w.heap.size, 4, none⟩ = some (.slice (some ⟨g, o, none⟩) 2 cap) := (exCells HBX2.out).2.2.2.2
  have HC2 := Lib.hid (HI.out x1 _ 2 _ W2 hx1 HO1.out (by omega) (by omega) hE2 (by rw [← HT1.out]; simp only [List.length_append]; show l.length + 1 + t0.length + 3 + _ ≤ _; omega))
  rw [← HT1.out] at HC2
  clear hio2 hok2 hE2 hx1 b4'
  go_wp2_with fail
  refine HC2.out.mono ?_
  rintro e W3 ⟨rfl, hio3, hok3⟩
  have HBV3 := HOV.out.2 _ _ (HBV.out) (by simpa using hvb) (by intro c fz e; simp at e)
  have HE3 := Lib.hid (HE2.out.step hio3 hok3)
  have HK3 := Lib.hid (HK2.out.trans hok3)
  have HBV4 := Lib.hid (hok3.2 _ _ HBV3 (by simpa using hvb) (by intro c fz e; simp at e))
  clear hio3 hok3 f0 f1 f2 f3 f4 b4'' HBV3
  go_wp2_with fail
  refine leaves_cons (f := 26) (args := #[.pointer (some ⟨b, 0, none⟩), .slice (some ⟨V1.heap.size, 0, none⟩) 1 1]) (by simp) (by simp [go_sem]) ?_
  refine (put_anyD B b _ m _ [ByteArray.mk #[41]] .returning W3 1 HE3.out.out HBV4.out rfl (by omega) (by simp only [List.length_append, List.length_cons, List.length_nil]; show l.length + (0 + 1) + t0.length + 3 + t1.length + 1 ≤ _; omega) HE3.out.size).mono ?_
  rintro e u' w'' ⟨rfl, rfl, hio4, hok4⟩
  exact ⟨_, results_none rfl _ _ _, rfl, by simpa [catB, List.append_assoc] using hio4, HK3.out.trans hok4⟩

end Go.Proofs.YtdgmpgejemgbbaaGreatDoor
