/-
  The reference's Expr walked. No condition but lengths.
-/
import Derived.Test.YtdgmpgejemgbbaaGreatDoorOh
import Derived.Test.YtdgmpgejemgbbaaGreatDoorVa
namespace Go.Proofs.YtdgmpgejemgbbaaGreatDoor
open Go.RowKit

set_option maxHeartbeats 2000000 in
set_option maxRecDepth 100000 in
theorem rexpr_1 {n : Nat} (r nm : ByteArray) (d : Int) (sub : List Ex) (cs : List Value) (w : World) (h : ExAt (n + 1) w cs (Ex.mk 1 r nm d sub)) :
    Calls Tryz.prog 17 #[.agg cs.toArray] w (RxP w (rexT (n + 1) (Ex.mk 1 r nm d sub))) := by
  have hpt : rexT (n + 1) (Ex.mk 1 r nm d sub) = r.data.toList := by rw [rexT]; simp [Ex.kind, leafT, Ex.rat]
  rw [hpt]
  obtain ⟨a, len, cap, rfl, _, _⟩ := h
  show Calls Tryz.prog 17 #[.agg #[.int .u8 1, .string r, .string nm, .int .i64 d, .slice a len cap]] w _
  have HF : Hid (RxP w r.data.toList (.returned (.string r)) (w.alloc (.cells #[.int .u8 1, .string r, .string nm, .int .i64 d, .slice a len cap] 25))) := ⟨rfl, own_below _ _⟩
  clear hpt
  go_enter Tryz.func17, Tryz.ntmps17
  go_wp2_with fail
  go_ret
  exact HF.out

set_option maxHeartbeats 2000000 in
set_option maxRecDepth 100000 in
theorem rexpr_3 {n : Nat} (r nm : ByteArray) (d : Int) (sub : List Ex) (cs : List Value) (w : World) (h : ExAt (n + 1) w cs (Ex.mk 3 r nm d sub)) (hz : (rexT (n + 1) (Ex.mk 3 r nm d sub)).length ≤ 3000000) :
    Calls Tryz.prog 17 #[.agg cs.toArray] w (RxP w (rexT (n + 1) (Ex.mk 3 r nm d sub))) := by
  have hpt : rexT (n + 1) (Ex.mk 3 r nm d sub) = (qn nm).data.toList ++ [64, 110, 111, 119] := by rw [rexT]; simp [Ex.kind, leafT, Ex.name]
  rw [hpt] at hz ⊢
  obtain ⟨a, len, cap, rfl, _, _⟩ := h
  show Calls Tryz.prog 17 #[.agg #[.int .u8 3, .string r, .string nm, .int .i64 d, .slice a len cap]] w _
  have HQ := Lib.hid (rqname_any nm)
  obtain ⟨q, hq⟩ : ∃ q, q = qn nm := ⟨_, rfl⟩
  rw [← hq] at HQ hz ⊢
  have hqz : q.size ≤ 3000000 := by
    have : q.data.toList.length = q.size := by simp
    rw [List.length_append] at hz; omega
  have HT : Hid (q ++ ByteArray.mk #[64, 110, 111, 119] = ⟨(q.data.toList ++ [64, 110, 111, 119]).toArray⟩) := ba_eq (by simp)
  clear hpt hz hq
  go_enter Tryz.func17, Tryz.ntmps17
  go_wp2_with fail
  refine (HQ.out _).mono ?_
  rintro e w1 ⟨rfl, hb⟩
  have HB := Lib.hid ((own_below w (.cells #[.int .u8 3, .string r, .string nm, .int .i64 d, .slice a len cap] 25)).trans (hb.mono (own_below w _).size))
  clear hb
  go_wp2_with fail
  go_ret
  exact ⟨by rw [HT.out]; rfl, HB.out⟩

set_option maxHeartbeats 2000000 in
set_option maxRecDepth 100000 in
theorem rexpr_2 {n : Nat} (r nm : ByteArray) (d : Int) (hd0 : 0 ≤ d) (hd1 : d ≤ 99999) (sub : List Ex) (cs : List Value) (w : World) (h : ExAt (n + 1) w cs (Ex.mk 2 r nm d sub)) (hz : (rexT (n + 1) (Ex.mk 2 r nm d sub)).length ≤ 3000000) :
    Calls Tryz.prog 17 #[.agg cs.toArray] w (RxP w (rexT (n + 1) (Ex.mk 2 r nm d sub))) := by
  have hpt : rexT (n + 1) (Ex.mk 2 r nm d sub) = (qn nm).data.toList ++ [64] ++ (dS d).data.toList := by rw [rexT]; simp [Ex.kind, leafT, Ex.name, Ex.date, dS]
  rw [hpt] at hz ⊢
  obtain ⟨a, len, cap, rfl, _, _⟩ := h
  show Calls Tryz.prog 17 #[.agg #[.int .u8 2, .string r, .string nm, .int .i64 d, .slice a len cap]] w _
  have HQ := Lib.hid (rqname_any nm)
  have HD : Hid (∀ W, Calls Tryz.prog 33 #[.int .i64 d] W (fun e w' => e = .returned (.string (dS d)) ∧ Below W.heap.size W w')) := fun W => rdayT_is hd0 hd1 W
  obtain ⟨q, hq⟩ : ∃ q, q = qn nm := ⟨_, rfl⟩
  obtain ⟨s, hs⟩ : ∃ s, s = dS d := ⟨_, rfl⟩
  rw [← hq, ← hs] at hz ⊢
  rw [← hq] at HQ
  rw [← hs] at HD
  have hqz : q.size + 1 + s.size ≤ 3000000 := by
    have h1 : q.data.toList.length = q.size := by simp
    have h2 : s.data.toList.length = s.size := by simp
    simp only [List.length_append, List.length_cons, List.length_nil] at hz; omega
  have n1 : ¬ 9223372036854775807 < q.size + 1 := by omega
  have n2 : ¬ 9223372036854775807 < q.size + 1 + s.size := by omega
  have HT : Hid (q ++ ByteArray.mk #[64] ++ s = ⟨(q.data.toList ++ [64] ++ s.data.toList).toArray⟩) := ba_eq (by simp)
  have HC0 : Hid (Below w.heap.size w (w.alloc (.cells #[.int .u8 2, .string r, .string nm, .int .i64 d, .slice a len cap] 25))) := own_below _ _
  obtain ⟨W0, hW0⟩ : ∃ W0, W0 = w.alloc (.cells #[.int .u8 2, .string r, .string nm, .int .i64 d, .slice a len cap] 25) := ⟨_, rfl⟩
  have hbx : W0.heap[w.heap.size]? = some (.cells #[.int .u8 2, .string r, .string nm, .int .i64 d, .slice a len cap] 25) := by rw [hW0]; exact alloc_at _ _
  rw [← hW0] at HC0
  clear hpt hz hq hs hd0 hd1
  go_enter Tryz.func17, Tryz.ntmps17
  go_wp2_with fail
  rw [← hW0]
  obtain ⟨b0, b1, b2, b3, b4⟩ := exCells hbx
  have SB : ∀ W, Below W0.heap.size W0 W → W.cell? ⟨w.heap.size, 2, none⟩ = some (.string nm) ∧ W.cell? ⟨w.heap.size, 3, none⟩ = some (.int .i64 d) := fun W hW =>
    have q := exCells ((hW.block _ (Array.getElem?_eq_some_iff.1 hbx).1).trans hbx)
    ⟨q.2.2.1, q.2.2.2.1⟩
  have HSB := Lib.hid SB
  have HCW : Hid (Below W0.heap.size W0 W0) := Below.refl _ W0
  have HC : Hid (Below W0.heap.size W0 W0.drew) := (Below.refl _ W0).drew
  clear hW0 hbx SB
  go_wp2_with fail
  go_region_held3 (fun W => W.cell? ⟨w.heap.size, 2, none⟩ = some (.string nm) ∧ W.cell? ⟨w.heap.size, 3, none⟩ = some (.int .i64 d))
    ((first | with_reducible exact HSB.out _ HC.out | with_reducible exact HSB.out _ HCW.out))
    ((first
      | (go_at_call 21; refine (HQ.out _).mono ?_; rintro e u ⟨rfl, hb⟩; have HC := Lib.hid (HC.out.trans (hb.mono HC.out.size)); clear hb)
      | (go_at_call 33; refine (HD.out _).mono ?_; rintro e u ⟨rfl, hb⟩; have HC := Lib.hid (HC.out.trans (hb.mono HC.out.size)); clear hb)))
  go_wp2_with fail
  go_ret
  exact ⟨by rw [HT.out]; rfl, HC0.out.trans (HC.out.mono HC0.out.size)⟩

set_option maxHeartbeats 2000000 in
set_option maxRecDepth 100000 in
theorem rexpr_7 {n : Nat} (ih : RexC n) (r nm : ByteArray) (d : Int) (sub : List Ex) (hs : sub.length ≤ 3) (ho : ∀ y ∈ sub, OkX n y) (cs : List Value) (w : World) (h : ExAt (n + 1) w cs (Ex.mk 7 r nm d sub)) (hz : (rexT (n + 1) (Ex.mk 7 r nm d sub)).length ≤ 2999000) :
    Calls Tryz.prog 17 #[.agg cs.toArray] w (RxP w (rexT (n + 1) (Ex.mk 7 r nm d sub))) := by
  have hpt : rexT (n + 1) (Ex.mk 7 r nm d sub) = [109, 97, 120] ++ ([40] ++ (commas (sub.map (rexT n)) ++ [41])) := by rw [rexT]; simp [Ex.kind, Ex.sub, wdL]
  rw [hpt] at hz ⊢
  obtain ⟨a, len, cap, rfl, hlen, hsub⟩ := h
  have hlen2 : sub.length = len := hlen
  show Calls Tryz.prog 17 #[.agg #[.int .u8 7, .string r, .string nm, .int .i64 d, .slice a len cap]] w _
  have hB := own_below w (.cells #[.int .u8 7, .string r, .string nm, .int .i64 d, .slice a len cap] 25)
  have hcz : (commas (sub.map (rexT n))).length ≤ 2999000 := by simp only [List.length_append] at hz; omega
  have hc := rlist_of ih sub a len cap (w.alloc (.cells #[.int .u8 7, .string r, .string nm, .int .i64 d, .slice a len cap] 25)) hlen2 (by omega) ho hcz (by
    rcases hsub with h0 | ⟨g, o, ha, hg, hel⟩
    · exact .inl h0
    · exact .inr ⟨g, o, ha, Nat.lt_of_lt_of_le hg hB.size, fun i hi => by
        obtain ⟨cs', h1, h2⟩ := hel i hi
        exact ⟨cs', fun j hj => ((bcell hB).1 _ _ hg).trans (h1 j hj), ExAt.below hB h2⟩⟩)
  unfold RxP at hc
  obtain ⟨t, ht⟩ : ∃ t : ByteArray, t = ⟨([40] ++ (commas (sub.map (rexT n)) ++ [41])).toArray⟩ := ⟨_, rfl⟩
  have htz : t.data.toList = [40] ++ (commas (sub.map (rexT n)) ++ [41]) := by rw [ht]
  have hts : t.size ≤ 3000000 := by
    have := ba_size htz
    simp only [List.length_append, List.length_cons, List.length_nil] at this; omega
  rw [← ht] at hc
  have HT : Hid (ByteArray.mk #[109, 97, 120] ++ t = ⟨([109, 97, 120] ++ ([40] ++ (commas (sub.map (rexT n)) ++ [41]))).toArray⟩) := ba_eq (by simp [htz])
  have HC := Lib.hid hc
  have HBB := Lib.hid hB
  clear hpt hz hlen hsub hB hcz hc ht htz ho
  go_enter Tryz.func17, Tryz.ntmps17
  go_wp2_with fail
  refine HC.out.mono ?_
  rintro e w1 ⟨rfl, hb⟩
  have HB := Lib.hid (HBB.out.trans (hb.mono HBB.out.size))
  clear hb
  go_wp2_with fail
  go_ret
  exact ⟨by rw [HT.out]; rfl, HB.out⟩

set_option maxHeartbeats 2000000 in
set_option maxRecDepth 100000 in
theorem rexpr_8 {n : Nat} (ih : RexC n) (r nm : ByteArray) (d : Int) (sub : List Ex) (hs : sub.length ≤ 3) (ho : ∀ y ∈ sub, OkX n y) (cs : List Value) (w : World) (h : ExAt (n + 1) w cs (Ex.mk 8 r nm d sub)) (hz : (rexT (n + 1) (Ex.mk 8 r nm d sub)).length ≤ 2999000) :
    Calls Tryz.prog 17 #[.agg cs.toArray] w (RxP w (rexT (n + 1) (Ex.mk 8 r nm d sub))) := by
  have hpt : rexT (n + 1) (Ex.mk 8 r nm d sub) = [109, 105, 110] ++ ([40] ++ (commas (sub.map (rexT n)) ++ [41])) := by rw [rexT]; simp [Ex.kind, Ex.sub, wdL]
  rw [hpt] at hz ⊢
  obtain ⟨a, len, cap, rfl, hlen, hsub⟩ := h
  have hlen2 : sub.length = len := hlen
  show Calls Tryz.prog 17 #[.agg #[.int .u8 8, .string r, .string nm, .int .i64 d, .slice a len cap]] w _
  have hB := own_below w (.cells #[.int .u8 8, .string r, .string nm, .int .i64 d, .slice a len cap] 25)
  have hcz : (commas (sub.map (rexT n))).length ≤ 2999000 := by simp only [List.length_append] at hz; omega
  have hc := rlist_of ih sub a len cap (w.alloc (.cells #[.int .u8 8, .string r, .string nm, .int .i64 d, .slice a len cap] 25)) hlen2 (by omega) ho hcz (by
    rcases hsub with h0 | ⟨g, o, ha, hg, hel⟩
    · exact .inl h0
    · exact .inr ⟨g, o, ha, Nat.lt_of_lt_of_le hg hB.size, fun i hi => by
        obtain ⟨cs', h1, h2⟩ := hel i hi
        exact ⟨cs', fun j hj => ((bcell hB).1 _ _ hg).trans (h1 j hj), ExAt.below hB h2⟩⟩)
  unfold RxP at hc
  obtain ⟨t, ht⟩ : ∃ t : ByteArray, t = ⟨([40] ++ (commas (sub.map (rexT n)) ++ [41])).toArray⟩ := ⟨_, rfl⟩
  have htz : t.data.toList = [40] ++ (commas (sub.map (rexT n)) ++ [41]) := by rw [ht]
  have hts : t.size ≤ 3000000 := by
    have := ba_size htz
    simp only [List.length_append, List.length_cons, List.length_nil] at this; omega
  rw [← ht] at hc
  have HT : Hid (ByteArray.mk #[109, 105, 110] ++ t = ⟨([109, 105, 110] ++ ([40] ++ (commas (sub.map (rexT n)) ++ [41]))).toArray⟩) := ba_eq (by simp [htz])
  have HC := Lib.hid hc
  have HBB := Lib.hid hB
  clear hpt hz hlen hsub hB hcz hc ht htz ho
  go_enter Tryz.func17, Tryz.ntmps17
  go_wp2_with fail
  refine HC.out.mono ?_
  rintro e w1 ⟨rfl, hb⟩
  have HB := Lib.hid (HBB.out.trans (hb.mono HBB.out.size))
  clear hb
  go_wp2_with fail
  go_ret
  exact ⟨by rw [HT.out]; rfl, HB.out⟩

set_option maxHeartbeats 2000000 in
set_option maxRecDepth 100000 in
theorem rexpr_9 {n : Nat} (ih : RexC n) (r nm : ByteArray) (d : Int) (sub : List Ex) (hs : sub.length ≤ 3) (ho : ∀ y ∈ sub, OkX n y) (cs : List Value) (w : World) (h : ExAt (n + 1) w cs (Ex.mk 9 r nm d sub)) (hz : (rexT (n + 1) (Ex.mk 9 r nm d sub)).length ≤ 2999000) :
    Calls Tryz.prog 17 #[.agg cs.toArray] w (RxP w (rexT (n + 1) (Ex.mk 9 r nm d sub))) := by
  have hpt : rexT (n + 1) (Ex.mk 9 r nm d sub) = [99, 97, 115, 101] ++ ([40] ++ (commas (sub.map (rexT n)) ++ [41])) := by rw [rexT]; simp [Ex.kind, Ex.sub, wdL]
  rw [hpt] at hz ⊢
  obtain ⟨a, len, cap, rfl, hlen, hsub⟩ := h
  have hlen2 : sub.length = len := hlen
  show Calls Tryz.prog 17 #[.agg #[.int .u8 9, .string r, .string nm, .int .i64 d, .slice a len cap]] w _
  have hB := own_below w (.cells #[.int .u8 9, .string r, .string nm, .int .i64 d, .slice a len cap] 25)
  have hcz : (commas (sub.map (rexT n))).length ≤ 2999000 := by simp only [List.length_append] at hz; omega
  have hc := rlist_of ih sub a len cap (w.alloc (.cells #[.int .u8 9, .string r, .string nm, .int .i64 d, .slice a len cap] 25)) hlen2 (by omega) ho hcz (by
    rcases hsub with h0 | ⟨g, o, ha, hg, hel⟩
    · exact .inl h0
    · exact .inr ⟨g, o, ha, Nat.lt_of_lt_of_le hg hB.size, fun i hi => by
        obtain ⟨cs', h1, h2⟩ := hel i hi
        exact ⟨cs', fun j hj => ((bcell hB).1 _ _ hg).trans (h1 j hj), ExAt.below hB h2⟩⟩)
  unfold RxP at hc
  obtain ⟨t, ht⟩ : ∃ t : ByteArray, t = ⟨([40] ++ (commas (sub.map (rexT n)) ++ [41])).toArray⟩ := ⟨_, rfl⟩
  have htz : t.data.toList = [40] ++ (commas (sub.map (rexT n)) ++ [41]) := by rw [ht]
  have hts : t.size ≤ 3000000 := by
    have := ba_size htz
    simp only [List.length_append, List.length_cons, List.length_nil] at this; omega
  rw [← ht] at hc
  have HT : Hid (ByteArray.mk #[99, 97, 115, 101] ++ t = ⟨([99, 97, 115, 101] ++ ([40] ++ (commas (sub.map (rexT n)) ++ [41]))).toArray⟩) := ba_eq (by simp [htz])
  have HC := Lib.hid hc
  have HBB := Lib.hid hB
  clear hpt hz hlen hsub hB hcz hc ht htz ho
  go_enter Tryz.func17, Tryz.ntmps17
  go_wp2_with fail
  refine HC.out.mono ?_
  rintro e w1 ⟨rfl, hb⟩
  have HB := Lib.hid (HBB.out.trans (hb.mono HBB.out.size))
  clear hb
  go_wp2_with fail
  go_ret
  exact ⟨by rw [HT.out]; rfl, HB.out⟩

set_option maxHeartbeats 2000000 in
set_option maxRecDepth 100000 in
theorem rexpr_11 {n : Nat} (ih : RexC n) (r nm : ByteArray) (d : Int) (sub : List Ex) (hs : sub.length ≤ 3) (ho : ∀ y ∈ sub, OkX n y) (cs : List Value) (w : World) (h : ExAt (n + 1) w cs (Ex.mk 11 r nm d sub)) (hz : (rexT (n + 1) (Ex.mk 11 r nm d sub)).length ≤ 2999000) :
    Calls Tryz.prog 17 #[.agg cs.toArray] w (RxP w (rexT (n + 1) (Ex.mk 11 r nm d sub))) := by
  have hpt : rexT (n + 1) (Ex.mk 11 r nm d sub) = [108, 101, 115, 115] ++ ([40] ++ (commas (sub.map (rexT n)) ++ [41])) := by rw [rexT]; simp [Ex.kind, Ex.sub, wdL]
  rw [hpt] at hz ⊢
  obtain ⟨a, len, cap, rfl, hlen, hsub⟩ := h
  have hlen2 : sub.length = len := hlen
  show Calls Tryz.prog 17 #[.agg #[.int .u8 11, .string r, .string nm, .int .i64 d, .slice a len cap]] w _
  have hB := own_below w (.cells #[.int .u8 11, .string r, .string nm, .int .i64 d, .slice a len cap] 25)
  have hcz : (commas (sub.map (rexT n))).length ≤ 2999000 := by simp only [List.length_append] at hz; omega
  have hc := rlist_of ih sub a len cap (w.alloc (.cells #[.int .u8 11, .string r, .string nm, .int .i64 d, .slice a len cap] 25)) hlen2 (by omega) ho hcz (by
    rcases hsub with h0 | ⟨g, o, ha, hg, hel⟩
    · exact .inl h0
    · exact .inr ⟨g, o, ha, Nat.lt_of_lt_of_le hg hB.size, fun i hi => by
        obtain ⟨cs', h1, h2⟩ := hel i hi
        exact ⟨cs', fun j hj => ((bcell hB).1 _ _ hg).trans (h1 j hj), ExAt.below hB h2⟩⟩)
  unfold RxP at hc
  obtain ⟨t, ht⟩ : ∃ t : ByteArray, t = ⟨([40] ++ (commas (sub.map (rexT n)) ++ [41])).toArray⟩ := ⟨_, rfl⟩
  have htz : t.data.toList = [40] ++ (commas (sub.map (rexT n)) ++ [41]) := by rw [ht]
  have hts : t.size ≤ 3000000 := by
    have := ba_size htz
    simp only [List.length_append, List.length_cons, List.length_nil] at this; omega
  rw [← ht] at hc
  have HT : Hid (ByteArray.mk #[108, 101, 115, 115] ++ t = ⟨([108, 101, 115, 115] ++ ([40] ++ (commas (sub.map (rexT n)) ++ [41]))).toArray⟩) := ba_eq (by simp [htz])
  have HC := Lib.hid hc
  have HBB := Lib.hid hB
  clear hpt hz hlen hsub hB hcz hc ht htz ho
  go_enter Tryz.func17, Tryz.ntmps17
  go_wp2_with fail
  refine HC.out.mono ?_
  rintro e w1 ⟨rfl, hb⟩
  have HB := Lib.hid (HBB.out.trans (hb.mono HBB.out.size))
  clear hb
  go_wp2_with fail
  go_ret
  exact ⟨by rw [HT.out]; rfl, HB.out⟩

set_option maxHeartbeats 2000000 in
set_option maxRecDepth 100000 in
theorem rexpr_12 {n : Nat} (ih : RexC n) (r nm : ByteArray) (d : Int) (sub : List Ex) (hs : sub.length ≤ 3) (ho : ∀ y ∈ sub, OkX n y) (cs : List Value) (w : World) (h : ExAt (n + 1) w cs (Ex.mk 12 r nm d sub)) (hz : (rexT (n + 1) (Ex.mk 12 r nm d sub)).length ≤ 2999000) :
    Calls Tryz.prog 17 #[.agg cs.toArray] w (RxP w (rexT (n + 1) (Ex.mk 12 r nm d sub))) := by
  have hpt : rexT (n + 1) (Ex.mk 12 r nm d sub) = [101, 113, 117, 97, 108] ++ ([40] ++ (commas (sub.map (rexT n)) ++ [41])) := by rw [rexT]; simp [Ex.kind, Ex.sub, wdL]
  rw [hpt] at hz ⊢
  obtain ⟨a, len, cap, rfl, hlen, hsub⟩ := h
  have hlen2 : sub.length = len := hlen
  show Calls Tryz.prog 17 #[.agg #[.int .u8 12, .string r, .string nm, .int .i64 d, .slice a len cap]] w _
  have hB := own_below w (.cells #[.int .u8 12, .string r, .string nm, .int .i64 d, .slice a len cap] 25)
  have hcz : (commas (sub.map (rexT n))).length ≤ 2999000 := by simp only [List.length_append] at hz; omega
  have hc := rlist_of ih sub a len cap (w.alloc (.cells #[.int .u8 12, .string r, .string nm, .int .i64 d, .slice a len cap] 25)) hlen2 (by omega) ho hcz (by
    rcases hsub with h0 | ⟨g, o, ha, hg, hel⟩
    · exact .inl h0
    · exact .inr ⟨g, o, ha, Nat.lt_of_lt_of_le hg hB.size, fun i hi => by
        obtain ⟨cs', h1, h2⟩ := hel i hi
        exact ⟨cs', fun j hj => ((bcell hB).1 _ _ hg).trans (h1 j hj), ExAt.below hB h2⟩⟩)
  unfold RxP at hc
  obtain ⟨t, ht⟩ : ∃ t : ByteArray, t = ⟨([40] ++ (commas (sub.map (rexT n)) ++ [41])).toArray⟩ := ⟨_, rfl⟩
  have htz : t.data.toList = [40] ++ (commas (sub.map (rexT n)) ++ [41]) := by rw [ht]
  have hts : t.size ≤ 3000000 := by
    have := ba_size htz
    simp only [List.length_append, List.length_cons, List.length_nil] at this; omega
  rw [← ht] at hc
  have HT : Hid (ByteArray.mk #[101, 113, 117, 97, 108] ++ t = ⟨([101, 113, 117, 97, 108] ++ ([40] ++ (commas (sub.map (rexT n)) ++ [41]))).toArray⟩) := ba_eq (by simp [htz])
  have HC := Lib.hid hc
  have HBB := Lib.hid hB
  clear hpt hz hlen hsub hB hcz hc ht htz ho
  go_enter Tryz.func17, Tryz.ntmps17
  go_wp2_with fail
  refine HC.out.mono ?_
  rintro e w1 ⟨rfl, hb⟩
  have HB := Lib.hid (HBB.out.trans (hb.mono HBB.out.size))
  clear hb
  go_wp2_with fail
  go_ret
  exact ⟨by rw [HT.out]; rfl, HB.out⟩

set_option maxHeartbeats 2000000 in
set_option maxRecDepth 100000 in
theorem rexpr_13 {n : Nat} (ih : RexC n) (r nm : ByteArray) (d : Int) (sub : List Ex) (hs : sub.length ≤ 3) (ho : ∀ y ∈ sub, OkX n y) (cs : List Value) (w : World) (h : ExAt (n + 1) w cs (Ex.mk 13 r nm d sub)) (hz : (rexT (n + 1) (Ex.mk 13 r nm d sub)).length ≤ 2999000) :
    Calls Tryz.prog 17 #[.agg cs.toArray] w (RxP w (rexT (n + 1) (Ex.mk 13 r nm d sub))) := by
  have hpt : rexT (n + 1) (Ex.mk 13 r nm d sub) = [97, 110, 100] ++ ([40] ++ (commas (sub.map (rexT n)) ++ [41])) := by rw [rexT]; simp [Ex.kind, Ex.sub, wdL]
  rw [hpt] at hz ⊢
  obtain ⟨a, len, cap, rfl, hlen, hsub⟩ := h
  have hlen2 : sub.length = len := hlen
  show Calls Tryz.prog 17 #[.agg #[.int .u8 13, .string r, .string nm, .int .i64 d, .slice a len cap]] w _
  have hB := own_below w (.cells #[.int .u8 13, .string r, .string nm, .int .i64 d, .slice a len cap] 25)
  have hcz : (commas (sub.map (rexT n))).length ≤ 2999000 := by simp only [List.length_append] at hz; omega
  have hc := rlist_of ih sub a len cap (w.alloc (.cells #[.int .u8 13, .string r, .string nm, .int .i64 d, .slice a len cap] 25)) hlen2 (by omega) ho hcz (by
    rcases hsub with h0 | ⟨g, o, ha, hg, hel⟩
    · exact .inl h0
    · exact .inr ⟨g, o, ha, Nat.lt_of_lt_of_le hg hB.size, fun i hi => by
        obtain ⟨cs', h1, h2⟩ := hel i hi
        exact ⟨cs', fun j hj => ((bcell hB).1 _ _ hg).trans (h1 j hj), ExAt.below hB h2⟩⟩)
  unfold RxP at hc
  obtain ⟨t, ht⟩ : ∃ t : ByteArray, t = ⟨([40] ++ (commas (sub.map (rexT n)) ++ [41])).toArray⟩ := ⟨_, rfl⟩
  have htz : t.data.toList = [40] ++ (commas (sub.map (rexT n)) ++ [41]) := by rw [ht]
  have hts : t.size ≤ 3000000 := by
    have := ba_size htz
    simp only [List.length_append, List.length_cons, List.length_nil] at this; omega
  rw [← ht] at hc
  have HT : Hid (ByteArray.mk #[97, 110, 100] ++ t = ⟨([97, 110, 100] ++ ([40] ++ (commas (sub.map (rexT n)) ++ [41]))).toArray⟩) := ba_eq (by simp [htz])
  have HC := Lib.hid hc
  have HBB := Lib.hid hB
  clear hpt hz hlen hsub hB hcz hc ht htz ho
  go_enter Tryz.func17, Tryz.ntmps17
  go_wp2_with fail
  refine HC.out.mono ?_
  rintro e w1 ⟨rfl, hb⟩
  have HB := Lib.hid (HBB.out.trans (hb.mono HBB.out.size))
  clear hb
  go_wp2_with fail
  go_ret
  exact ⟨by rw [HT.out]; rfl, HB.out⟩

set_option maxHeartbeats 2000000 in
set_option maxRecDepth 100000 in
theorem rexpr_14 {n : Nat} (ih : RexC n) (r nm : ByteArray) (d : Int) (sub : List Ex) (hs : sub.length ≤ 3) (ho : ∀ y ∈ sub, OkX n y) (cs : List Value) (w : World) (h : ExAt (n + 1) w cs (Ex.mk 14 r nm d sub)) (hz : (rexT (n + 1) (Ex.mk 14 r nm d sub)).length ≤ 2999000) :
    Calls Tryz.prog 17 #[.agg cs.toArray] w (RxP w (rexT (n + 1) (Ex.mk 14 r nm d sub))) := by
  have hpt : rexT (n + 1) (Ex.mk 14 r nm d sub) = [111, 114] ++ ([40] ++ (commas (sub.map (rexT n)) ++ [41])) := by rw [rexT]; simp [Ex.kind, Ex.sub, wdL]
  rw [hpt] at hz ⊢
  obtain ⟨a, len, cap, rfl, hlen, hsub⟩ := h
  have hlen2 : sub.length = len := hlen
  show Calls Tryz.prog 17 #[.agg #[.int .u8 14, .string r, .string nm, .int .i64 d, .slice a len cap]] w _
  have hB := own_below w (.cells #[.int .u8 14, .string r, .string nm, .int .i64 d, .slice a len cap] 25)
  have hcz : (commas (sub.map (rexT n))).length ≤ 2999000 := by simp only [List.length_append] at hz; omega
  have hc := rlist_of ih sub a len cap (w.alloc (.cells #[.int .u8 14, .string r, .string nm, .int .i64 d, .slice a len cap] 25)) hlen2 (by omega) ho hcz (by
    rcases hsub with h0 | ⟨g, o, ha, hg, hel⟩
    · exact .inl h0
    · exact .inr ⟨g, o, ha, Nat.lt_of_lt_of_le hg hB.size, fun i hi => by
        obtain ⟨cs', h1, h2⟩ := hel i hi
        exact ⟨cs', fun j hj => ((bcell hB).1 _ _ hg).trans (h1 j hj), ExAt.below hB h2⟩⟩)
  unfold RxP at hc
  obtain ⟨t, ht⟩ : ∃ t : ByteArray, t = ⟨([40] ++ (commas (sub.map (rexT n)) ++ [41])).toArray⟩ := ⟨_, rfl⟩
  have htz : t.data.toList = [40] ++ (commas (sub.map (rexT n)) ++ [41]) := by rw [ht]
  have hts : t.size ≤ 3000000 := by
    have := ba_size htz
    simp only [List.length_append, List.length_cons, List.length_nil] at this; omega
  rw [← ht] at hc
  have HT : Hid (ByteArray.mk #[111, 114] ++ t = ⟨([111, 114] ++ ([40] ++ (commas (sub.map (rexT n)) ++ [41]))).toArray⟩) := ba_eq (by simp [htz])
  have HC := Lib.hid hc
  have HBB := Lib.hid hB
  clear hpt hz hlen hsub hB hcz hc ht htz ho
  go_enter Tryz.func17, Tryz.ntmps17
  go_wp2_with fail
  refine HC.out.mono ?_
  rintro e w1 ⟨rfl, hb⟩
  have HB := Lib.hid (HBB.out.trans (hb.mono HBB.out.size))
  clear hb
  go_wp2_with fail
  go_ret
  exact ⟨by rw [HT.out]; rfl, HB.out⟩

set_option maxHeartbeats 2000000 in
set_option maxRecDepth 100000 in
theorem rexpr_15 {n : Nat} (ih : RexC n) (r nm : ByteArray) (d : Int) (sub : List Ex) (hs : sub.length ≤ 3) (ho : ∀ y ∈ sub, OkX n y) (cs : List Value) (w : World) (h : ExAt (n + 1) w cs (Ex.mk 15 r nm d sub)) (hz : (rexT (n + 1) (Ex.mk 15 r nm d sub)).length ≤ 2999000) :
    Calls Tryz.prog 17 #[.agg cs.toArray] w (RxP w (rexT (n + 1) (Ex.mk 15 r nm d sub))) := by
  have hpt : rexT (n + 1) (Ex.mk 15 r nm d sub) = [110, 111, 116] ++ ([40] ++ (commas (sub.map (rexT n)) ++ [41])) := by rw [rexT]; simp [Ex.kind, Ex.sub, wdL]
  rw [hpt] at hz ⊢
  obtain ⟨a, len, cap, rfl, hlen, hsub⟩ := h
  have hlen2 : sub.length = len := hlen
  show Calls Tryz.prog 17 #[.agg #[.int .u8 15, .string r, .string nm, .int .i64 d, .slice a len cap]] w _
  have hB := own_below w (.cells #[.int .u8 15, .string r, .string nm, .int .i64 d, .slice a len cap] 25)
  have hcz : (commas (sub.map (rexT n))).length ≤ 2999000 := by simp only [List.length_append] at hz; omega
  have hc := rlist_of ih sub a len cap (w.alloc (.cells #[.int .u8 15, .string r, .string nm, .int .i64 d, .slice a len cap] 25)) hlen2 (by omega) ho hcz (by
    rcases hsub with h0 | ⟨g, o, ha, hg, hel⟩
    · exact .inl h0
    · exact .inr ⟨g, o, ha, Nat.lt_of_lt_of_le hg hB.size, fun i hi => by
        obtain ⟨cs', h1, h2⟩ := hel i hi
        exact ⟨cs', fun j hj => ((bcell hB).1 _ _ hg).trans (h1 j hj), ExAt.below hB h2⟩⟩)
  unfold RxP at hc
  obtain ⟨t, ht⟩ : ∃ t : ByteArray, t = ⟨([40] ++ (commas (sub.map (rexT n)) ++ [41])).toArray⟩ := ⟨_, rfl⟩
  have htz : t.data.toList = [40] ++ (commas (sub.map (rexT n)) ++ [41]) := by rw [ht]
  have hts : t.size ≤ 3000000 := by
    have := ba_size htz
    simp only [List.length_append, List.length_cons, List.length_nil] at this; omega
  rw [← ht] at hc
  have HT : Hid (ByteArray.mk #[110, 111, 116] ++ t = ⟨([110, 111, 116] ++ ([40] ++ (commas (sub.map (rexT n)) ++ [41]))).toArray⟩) := ba_eq (by simp [htz])
  have HC := Lib.hid hc
  have HBB := Lib.hid hB
  clear hpt hz hlen hsub hB hcz hc ht htz ho
  go_enter Tryz.func17, Tryz.ntmps17
  go_wp2_with fail
  refine HC.out.mono ?_
  rintro e w1 ⟨rfl, hb⟩
  have HB := Lib.hid (HBB.out.trans (hb.mono HBB.out.size))
  clear hb
  go_wp2_with fail
  go_ret
  exact ⟨by rw [HT.out]; rfl, HB.out⟩

set_option maxHeartbeats 2000000 in
set_option maxRecDepth 100000 in
theorem rexpr_4 {n : Nat} (ih : RexC n) (r nm : ByteArray) (d : Int) (x0 x1 : Ex) (ho0 : OkX n x0) (ho1 : OkX n x1) (cs : List Value) (w : World) (h : ExAt (n + 1) w cs (Ex.mk 4 r nm d [x0, x1])) (hz : (rexT (n + 1) (Ex.mk 4 r nm d [x0, x1])).length ≤ 2999000) :
    Calls Tryz.prog 17 #[.agg cs.toArray] w (RxP w (rexT (n + 1) (Ex.mk 4 r nm d [x0, x1]))) := by
  have hpt : rexT (n + 1) (Ex.mk 4 r nm d [x0, x1]) = rexT n x0 ++ [32, 43, 32] ++ (parS (sumB x1) ⟨(rexT n x1).toArray⟩).data.toList := by
    rw [rexT]; cases hb : sumB x1 <;> simp [Ex.kind, opS, prt, Ex.sub, parS, parT, hb]
  rw [hpt] at hz ⊢
  obtain ⟨a, len, cap, rfl, hlen2, hsub⟩ := h
  obtain rfl : len = 2 := hlen2.symm
  rcases hsub with h0 | ⟨g, o, rfl, hg, hel⟩
  · omega
  show Calls Tryz.prog 17 #[.agg #[.int .u8 4, .string r, .string nm, .int .i64 d, .slice (some ⟨g, o, none⟩) 2 cap]] w _
  obtain ⟨p0, l0, c0, ⟨e00, e01, e02, e03, e04⟩, hx0⟩ := ExAt.elem (k := 0) (x := Ex.mk 4 r nm d [x0, x1]) hg (Below.refl _ w) (show 0 < 2 by decide) hel
  simp only [Nat.zero_mul, Nat.add_zero, Ex.sub, List.getElem_cons_zero] at e00 e01 e02 e03 e04 hx0
  obtain ⟨p1, l1, c1, ⟨f0, f1, f2, f3, f4⟩, hx1⟩ := ExAt.elem (k := 1) (x := Ex.mk 4 r nm d [x0, x1]) hg (Below.refl _ w) (show 1 < 2 by decide) hel
  simp only [Nat.one_mul, Ex.sub, List.getElem_cons_succ, List.getElem_cons_zero] at f0 f1 f2 f3 f4 hx1
  obtain ⟨t0, ht0⟩ : ∃ t : ByteArray, t = ⟨(rexT n x0).toArray⟩ := ⟨_, rfl⟩
  obtain ⟨t1, ht1⟩ : ∃ t : ByteArray, t = ⟨(rexT n x1).toArray⟩ := ⟨_, rfl⟩
  have hz0 : t0.data.toList = rexT n x0 := by rw [ht0]
  have hz1 : t1.data.toList = rexT n x1 := by rw [ht1]
  have hs0 := ba_size hz0
  have hs1 := ba_size hz1
  obtain ⟨W0, hW0⟩ : ∃ W0, W0 = w.alloc (.cells #[.int .u8 4, .string r, .string nm, .int .i64 d, .slice (some ⟨g, o, none⟩) 2 cap] 25) := ⟨_, rfl⟩
  have hB0 : Below w.heap.size w W0 := by rw [hW0]; exact own_below w _
  have hbx : W0.heap[w.heap.size]? = some (.cells #[.int .u8 4, .string r, .string nm, .int .i64 d, .slice (some ⟨g, o, none⟩) 2 cap] 25) := by rw [hW0]; exact alloc_at _ _
  rw [← ht1, ← hz0] at hz ⊢
  obtain ⟨q1, hq1⟩ : ∃ q, q = parS (sumB x1) t1 := ⟨_, rfl⟩
  have pz : ∀ (b : Bool) (t : ByteArray), t.size ≤ (parS b t).size := fun b t => by
    unfold parS; split
    · simp only [ByteArray.size_append]; omega
    · exact Nat.le_refl _
  have pz1 := pz (sumB x1) t1
  rw [← hq1] at hz pz1 ⊢
  have sz0 : t0.data.toList.length = t0.size := by simp
  have sz1 : q1.data.toList.length = q1.size := by simp
  simp only [List.length_append, List.length_cons, List.length_nil] at hz
  have hsz : t0.size + 3 + q1.size ≤ 2999000 := by omega
  have n1 : ¬ 9223372036854775807 < t0.size + 3 := by omega
  have n2 : ¬ 9223372036854775807 < t0.size + 3 + q1.size := by omega
  have HX1 : Hid (∀ W, Below W0.heap.size W0 W → Calls Tryz.prog 17 #[.agg #[.int .u8 x1.kind, .string x1.rat, .string x1.name, .int .i64 x1.date, .slice p1 l1 c1]] W (fun e w' => e = .returned (.string t1) ∧ Below W.heap.size W w')) := fun W hW => by
    have := ih x1 _ W (ExAt.below (hB0.trans (hW.mono hB0.size)) hx1) ho1 (by omega)
    unfold RxP at this; rwa [← ht1] at this
  have HX0 : Hid (∀ W, Below W0.heap.size W0 W → Calls Tryz.prog 17 #[.agg #[.int .u8 x0.kind, .string x0.rat, .string x0.name, .int .i64 x0.date, .slice p0 l0 c0]] W (fun e w' => e = .returned (.string t0) ∧ Below W.heap.size W w')) := fun W hW => by
    have := ih x0 _ W (ExAt.below (hB0.trans (hW.mono hB0.size)) hx0) ho0 (by omega)
    unfold RxP at this; rwa [← ht0] at this
  have HM1 : Hid (∀ W, Calls Tryz.prog 35 #[.agg #[.int .u8 x1.kind, .string x1.rat, .string x1.name, .int .i64 x1.date, .slice p1 l1 c1]] W (BelB W (sumB x1))) := fun W => rsum_any _ _ _ _ _ _ _ W
  have HM0 : Hid (∀ W, Calls Tryz.prog 35 #[.agg #[.int .u8 x0.kind, .string x0.rat, .string x0.name, .int .i64 x0.date, .slice p0 l0 c0]] W (BelB W (sumB x0))) := fun W => rsum_any _ _ _ _ _ _ _ W
  have HP1 : Hid (∀ W, Below W0.heap.size W0 W → Calls Tryz.prog 34 #[.agg #[.int .u8 x1.kind, .string x1.rat, .string x1.name, .int .i64 x1.date, .slice p1 l1 c1], .bool (sumB x1)] W (fun e w' => e = .returned (.string q1) ∧ Below W.heap.size W w')) := fun W hW => by
    rw [hq1]
    exact rpart_of _ _ _ _ _ _ _ t1 _ W (by omega) (Lib.hid fun W' hW' => HX1.out W' (hW.trans (hW'.mono hW.size)))
  have SB : ∀ W, Below W0.heap.size W0 W → W.cell? ⟨w.heap.size, 4, none⟩ = some (.slice (some ⟨g, o, none⟩) 2 cap) ∧ W.cell? ⟨g, o, none⟩ = some (.int .u8 x0.kind) ∧ W.cell? ⟨g, o + 1, none⟩ = some (.string x0.rat) ∧ W.cell? ⟨g, o + 2, none⟩ = some (.string x0.name) ∧ W.cell? ⟨g, o + 3, none⟩ = some (.int .i64 x0.date) ∧ W.cell? ⟨g, o + 4, none⟩ = some (.slice p0 l0 c0) ∧
      W.cell? ⟨g, o + 5, none⟩ = some (.int .u8 x1.kind) ∧ W.cell? ⟨g, o + 5 + 1, none⟩ = some (.string x1.rat) ∧ W.cell? ⟨g, o + 5 + 2, none⟩ = some (.string x1.name) ∧ W.cell? ⟨g, o + 5 + 3, none⟩ = some (.int .i64 x1.date) ∧ W.cell? ⟨g, o + 5 + 4, none⟩ = some (.slice p1 l1 c1) := fun W hW =>
    have hb : Below w.heap.size w W := hB0.trans (hW.mono hB0.size)
    have e : ∀ o', W.cell? ⟨g, o', none⟩ = w.cell? ⟨g, o', none⟩ := fun o' => (bcell hb).1 _ _ hg
    ⟨(exCells ((hW.block _ (Array.getElem?_eq_some_iff.1 hbx).1).trans hbx)).2.2.2.2, (e _).trans e00, (e _).trans e01, (e _).trans e02, (e _).trans e03, (e _).trans e04, (e _).trans f0, (e _).trans f1, (e _).trans f2, (e _).trans f3, (e _).trans f4⟩
  have HT : Hid (t0 ++ ByteArray.mk #[32, 43, 32] ++ q1 = ⟨(t0.data.toList ++ [32, 43, 32] ++ q1.data.toList).toArray⟩) := ba_eq (by simp)
  obtain ⟨b1, hb1⟩ : ∃ b, b = sumB x1 := ⟨_, rfl⟩
  rw [← hb1] at HM1 HP1
  obtain ⟨z0, z1, z2, z3, z4, z5, z6, z7, z8, z9, za⟩ := SB W0 (Below.refl _ _)
  have HSB := Lib.hid SB
  have HB0 := Lib.hid hB0
  have HCW : Hid (Below W0.heap.size W0 W0) := Below.refl _ W0
  have HC : Hid (Below W0.heap.size W0 W0.drew) := (Below.refl _ W0).drew
  have HW := Lib.hid hW0
  have hm1s : 0 ≤ q1.size := Nat.zero_le _
  clear SB hB0 hbx hel hx0 hx1 ho0 ho1 hz0 hz1 ht0 ht1 hs0 hs1 e00 e01 e02 e03 e04 f0 f1 f2 f3 f4 hpt hz hW0 hlen2 ih pz sz0 sz1 hq1 hm1s hb1
  go_enter Tryz.func17, Tryz.ntmps17
  go_wp2_with fail
  rw [← HW.out]
  clear HW
  go_wp2_with fail
  go_region_held3 (fun W => W.cell? ⟨w.heap.size, 4, none⟩ = some (.slice (some ⟨g, o, none⟩) 2 cap) ∧ W.cell? ⟨g, o, none⟩ = some (.int .u8 x0.kind) ∧ W.cell? ⟨g, o + 1, none⟩ = some (.string x0.rat) ∧ W.cell? ⟨g, o + 2, none⟩ = some (.string x0.name) ∧ W.cell? ⟨g, o + 3, none⟩ = some (.int .i64 x0.date) ∧ W.cell? ⟨g, o + 4, none⟩ = some (.slice p0 l0 c0) ∧
      W.cell? ⟨g, o + 5, none⟩ = some (.int .u8 x1.kind) ∧ W.cell? ⟨g, o + 5 + 1, none⟩ = some (.string x1.rat) ∧ W.cell? ⟨g, o + 5 + 2, none⟩ = some (.string x1.name) ∧ W.cell? ⟨g, o + 5 + 3, none⟩ = some (.int .i64 x1.date) ∧ W.cell? ⟨g, o + 5 + 4, none⟩ = some (.slice p1 l1 c1))
    ((first | with_reducible exact HSB.out _ HC.out | with_reducible exact HSB.out _ HCW.out))
    ((first
      | (go_at_call 17; refine (HX0.out _ HC.out).mono ?_; rintro e u ⟨rfl, hb⟩; have HC := Lib.hid (HC.out.trans (hb.mono HC.out.size)); clear hb)
      | (go_at_call 35; (first | (with_reducible refine (HM0.out _).mono ?_) | (with_reducible refine (HM1.out _).mono ?_)); rintro e u ⟨rfl, hb⟩; have HC := Lib.hid (HC.out.trans (hb.mono HC.out.size)); clear hb)
      | (go_at_call 34; (first | (with_reducible refine (HP1.out _ HC.out).mono ?_) | (with_reducible refine (HP0.out _ HC.out).mono ?_)); rintro e u ⟨rfl, hb⟩; have HC := Lib.hid (HC.out.trans (hb.mono HC.out.size)); clear hb)))
  go_wp2_with fail
  go_ret
  exact ⟨by rw [HT.out]; rfl, HB0.out.trans (HC.out.mono HB0.out.size)⟩

set_option maxHeartbeats 2000000 in
set_option maxRecDepth 100000 in
theorem rexpr_5 {n : Nat} (ih : RexC n) (r nm : ByteArray) (d : Int) (x0 x1 : Ex) (ho0 : OkX n x0) (ho1 : OkX n x1) (cs : List Value) (w : World) (h : ExAt (n + 1) w cs (Ex.mk 5 r nm d [x0, x1])) (hz : (rexT (n + 1) (Ex.mk 5 r nm d [x0, x1])).length ≤ 2999000) :
    Calls Tryz.prog 17 #[.agg cs.toArray] w (RxP w (rexT (n + 1) (Ex.mk 5 r nm d [x0, x1]))) := by
  have hpt : rexT (n + 1) (Ex.mk 5 r nm d [x0, x1]) = rexT n x0 ++ [32, 45, 32] ++ (parS (sumB x1) ⟨(rexT n x1).toArray⟩).data.toList := by
    rw [rexT]; cases hb : sumB x1 <;> simp [Ex.kind, opS, prt, Ex.sub, parS, parT, hb]
  rw [hpt] at hz ⊢
  obtain ⟨a, len, cap, rfl, hlen2, hsub⟩ := h
  obtain rfl : len = 2 := hlen2.symm
  rcases hsub with h0 | ⟨g, o, rfl, hg, hel⟩
  · omega
  show Calls Tryz.prog 17 #[.agg #[.int .u8 5, .string r, .string nm, .int .i64 d, .slice (some ⟨g, o, none⟩) 2 cap]] w _
  obtain ⟨p0, l0, c0, ⟨e00, e01, e02, e03, e04⟩, hx0⟩ := ExAt.elem (k := 0) (x := Ex.mk 5 r nm d [x0, x1]) hg (Below.refl _ w) (show 0 < 2 by decide) hel
  simp only [Nat.zero_mul, Nat.add_zero, Ex.sub, List.getElem_cons_zero] at e00 e01 e02 e03 e04 hx0
  obtain ⟨p1, l1, c1, ⟨f0, f1, f2, f3, f4⟩, hx1⟩ := ExAt.elem (k := 1) (x := Ex.mk 5 r nm d [x0, x1]) hg (Below.refl _ w) (show 1 < 2 by decide) hel
  simp only [Nat.one_mul, Ex.sub, List.getElem_cons_succ, List.getElem_cons_zero] at f0 f1 f2 f3 f4 hx1
  obtain ⟨t0, ht0⟩ : ∃ t : ByteArray, t = ⟨(rexT n x0).toArray⟩ := ⟨_, rfl⟩
  obtain ⟨t1, ht1⟩ : ∃ t : ByteArray, t = ⟨(rexT n x1).toArray⟩ := ⟨_, rfl⟩
  have hz0 : t0.data.toList = rexT n x0 := by rw [ht0]
  have hz1 : t1.data.toList = rexT n x1 := by rw [ht1]
  have hs0 := ba_size hz0
  have hs1 := ba_size hz1
  obtain ⟨W0, hW0⟩ : ∃ W0, W0 = w.alloc (.cells #[.int .u8 5, .string r, .string nm, .int .i64 d, .slice (some ⟨g, o, none⟩) 2 cap] 25) := ⟨_, rfl⟩
  have hB0 : Below w.heap.size w W0 := by rw [hW0]; exact own_below w _
  have hbx : W0.heap[w.heap.size]? = some (.cells #[.int .u8 5, .string r, .string nm, .int .i64 d, .slice (some ⟨g, o, none⟩) 2 cap] 25) := by rw [hW0]; exact alloc_at _ _
  rw [← ht1, ← hz0] at hz ⊢
  obtain ⟨q1, hq1⟩ : ∃ q, q = parS (sumB x1) t1 := ⟨_, rfl⟩
  have pz : ∀ (b : Bool) (t : ByteArray), t.size ≤ (parS b t).size := fun b t => by
    unfold parS; split
    · simp only [ByteArray.size_append]; omega
    · exact Nat.le_refl _
  have pz1 := pz (sumB x1) t1
  rw [← hq1] at hz pz1 ⊢
  have sz0 : t0.data.toList.length = t0.size := by simp
  have sz1 : q1.data.toList.length = q1.size := by simp
  simp only [List.length_append, List.length_cons, List.length_nil] at hz
  have hsz : t0.size + 3 + q1.size ≤ 2999000 := by omega
  have n1 : ¬ 9223372036854775807 < t0.size + 3 := by omega
  have n2 : ¬ 9223372036854775807 < t0.size + 3 + q1.size := by omega
  have HX1 : Hid (∀ W, Below W0.heap.size W0 W → Calls Tryz.prog 17 #[.agg #[.int .u8 x1.kind, .string x1.rat, .string x1.name, .int .i64 x1.date, .slice p1 l1 c1]] W (fun e w' => e = .returned (.string t1) ∧ Below W.heap.size W w')) := fun W hW => by
    have := ih x1 _ W (ExAt.below (hB0.trans (hW.mono hB0.size)) hx1) ho1 (by omega)
    unfold RxP at this; rwa [← ht1] at this
  have HX0 : Hid (∀ W, Below W0.heap.size W0 W → Calls Tryz.prog 17 #[.agg #[.int .u8 x0.kind, .string x0.rat, .string x0.name, .int .i64 x0.date, .slice p0 l0 c0]] W (fun e w' => e = .returned (.string t0) ∧ Below W.heap.size W w')) := fun W hW => by
    have := ih x0 _ W (ExAt.below (hB0.trans (hW.mono hB0.size)) hx0) ho0 (by omega)
    unfold RxP at this; rwa [← ht0] at this
  have HM1 : Hid (∀ W, Calls Tryz.prog 35 #[.agg #[.int .u8 x1.kind, .string x1.rat, .string x1.name, .int .i64 x1.date, .slice p1 l1 c1]] W (BelB W (sumB x1))) := fun W => rsum_any _ _ _ _ _ _ _ W
  have HM0 : Hid (∀ W, Calls Tryz.prog 35 #[.agg #[.int .u8 x0.kind, .string x0.rat, .string x0.name, .int .i64 x0.date, .slice p0 l0 c0]] W (BelB W (sumB x0))) := fun W => rsum_any _ _ _ _ _ _ _ W
  have HP1 : Hid (∀ W, Below W0.heap.size W0 W → Calls Tryz.prog 34 #[.agg #[.int .u8 x1.kind, .string x1.rat, .string x1.name, .int .i64 x1.date, .slice p1 l1 c1], .bool (sumB x1)] W (fun e w' => e = .returned (.string q1) ∧ Below W.heap.size W w')) := fun W hW => by
    rw [hq1]
    exact rpart_of _ _ _ _ _ _ _ t1 _ W (by omega) (Lib.hid fun W' hW' => HX1.out W' (hW.trans (hW'.mono hW.size)))
  have SB : ∀ W, Below W0.heap.size W0 W → W.cell? ⟨w.heap.size, 4, none⟩ = some (.slice (some ⟨g, o, none⟩) 2 cap) ∧ W.cell? ⟨g, o, none⟩ = some (.int .u8 x0.kind) ∧ W.cell? ⟨g, o + 1, none⟩ = some (.string x0.rat) ∧ W.cell? ⟨g, o + 2, none⟩ = some (.string x0.name) ∧ W.cell? ⟨g, o + 3, none⟩ = some (.int .i64 x0.date) ∧ W.cell? ⟨g, o + 4, none⟩ = some (.slice p0 l0 c0) ∧
      W.cell? ⟨g, o + 5, none⟩ = some (.int .u8 x1.kind) ∧ W.cell? ⟨g, o + 5 + 1, none⟩ = some (.string x1.rat) ∧ W.cell? ⟨g, o + 5 + 2, none⟩ = some (.string x1.name) ∧ W.cell? ⟨g, o + 5 + 3, none⟩ = some (.int .i64 x1.date) ∧ W.cell? ⟨g, o + 5 + 4, none⟩ = some (.slice p1 l1 c1) := fun W hW =>
    have hb : Below w.heap.size w W := hB0.trans (hW.mono hB0.size)
    have e : ∀ o', W.cell? ⟨g, o', none⟩ = w.cell? ⟨g, o', none⟩ := fun o' => (bcell hb).1 _ _ hg
    ⟨(exCells ((hW.block _ (Array.getElem?_eq_some_iff.1 hbx).1).trans hbx)).2.2.2.2, (e _).trans e00, (e _).trans e01, (e _).trans e02, (e _).trans e03, (e _).trans e04, (e _).trans f0, (e _).trans f1, (e _).trans f2, (e _).trans f3, (e _).trans f4⟩
  have HT : Hid (t0 ++ ByteArray.mk #[32, 45, 32] ++ q1 = ⟨(t0.data.toList ++ [32, 45, 32] ++ q1.data.toList).toArray⟩) := ba_eq (by simp)
  obtain ⟨b1, hb1⟩ : ∃ b, b = sumB x1 := ⟨_, rfl⟩
  rw [← hb1] at HM1 HP1
  obtain ⟨z0, z1, z2, z3, z4, z5, z6, z7, z8, z9, za⟩ := SB W0 (Below.refl _ _)
  have HSB := Lib.hid SB
  have HB0 := Lib.hid hB0
  have HCW : Hid (Below W0.heap.size W0 W0) := Below.refl _ W0
  have HC : Hid (Below W0.heap.size W0 W0.drew) := (Below.refl _ W0).drew
  have HW := Lib.hid hW0
  have hm1s : 0 ≤ q1.size := Nat.zero_le _
  clear SB hB0 hbx hel hx0 hx1 ho0 ho1 hz0 hz1 ht0 ht1 hs0 hs1 e00 e01 e02 e03 e04 f0 f1 f2 f3 f4 hpt hz hW0 hlen2 ih pz sz0 sz1 hq1 hm1s hb1
  go_enter Tryz.func17, Tryz.ntmps17
  go_wp2_with fail
  rw [← HW.out]
  clear HW
  go_wp2_with fail
  go_region_held3 (fun W => W.cell? ⟨w.heap.size, 4, none⟩ = some (.slice (some ⟨g, o, none⟩) 2 cap) ∧ W.cell? ⟨g, o, none⟩ = some (.int .u8 x0.kind) ∧ W.cell? ⟨g, o + 1, none⟩ = some (.string x0.rat) ∧ W.cell? ⟨g, o + 2, none⟩ = some (.string x0.name) ∧ W.cell? ⟨g, o + 3, none⟩ = some (.int .i64 x0.date) ∧ W.cell? ⟨g, o + 4, none⟩ = some (.slice p0 l0 c0) ∧
      W.cell? ⟨g, o + 5, none⟩ = some (.int .u8 x1.kind) ∧ W.cell? ⟨g, o + 5 + 1, none⟩ = some (.string x1.rat) ∧ W.cell? ⟨g, o + 5 + 2, none⟩ = some (.string x1.name) ∧ W.cell? ⟨g, o + 5 + 3, none⟩ = some (.int .i64 x1.date) ∧ W.cell? ⟨g, o + 5 + 4, none⟩ = some (.slice p1 l1 c1))
    ((first | with_reducible exact HSB.out _ HC.out | with_reducible exact HSB.out _ HCW.out))
    ((first
      | (go_at_call 17; refine (HX0.out _ HC.out).mono ?_; rintro e u ⟨rfl, hb⟩; have HC := Lib.hid (HC.out.trans (hb.mono HC.out.size)); clear hb)
      | (go_at_call 35; (first | (with_reducible refine (HM0.out _).mono ?_) | (with_reducible refine (HM1.out _).mono ?_)); rintro e u ⟨rfl, hb⟩; have HC := Lib.hid (HC.out.trans (hb.mono HC.out.size)); clear hb)
      | (go_at_call 34; (first | (with_reducible refine (HP1.out _ HC.out).mono ?_) | (with_reducible refine (HP0.out _ HC.out).mono ?_)); rintro e u ⟨rfl, hb⟩; have HC := Lib.hid (HC.out.trans (hb.mono HC.out.size)); clear hb)))
  go_wp2_with fail
  go_ret
  exact ⟨by rw [HT.out]; rfl, HB0.out.trans (HC.out.mono HB0.out.size)⟩

set_option maxHeartbeats 2000000 in
set_option maxRecDepth 100000 in
theorem rexpr_6_0 {n : Nat} (ih : RexC n) (r nm : ByteArray) (d : Int) (x0 x1 : Ex) (ho0 : OkX n x0) (ho1 : OkX n x1) (hsm : sumB x1 = false) (h6 : (x1.kind == 6) = false) (cs : List Value) (w : World) (h : ExAt (n + 1) w cs (Ex.mk 6 r nm d [x0, x1])) (hz : (rexT (n + 1) (Ex.mk 6 r nm d [x0, x1])).length ≤ 2999000) :
    Calls Tryz.prog 17 #[.agg cs.toArray] w (RxP w (rexT (n + 1) (Ex.mk 6 r nm d [x0, x1]))) := by
  have hpt : rexT (n + 1) (Ex.mk 6 r nm d [x0, x1]) = (parS (sumB x0) ⟨(rexT n x0).toArray⟩).data.toList ++ [32, 42, 32] ++ (parS false ⟨(rexT n x1).toArray⟩).data.toList := by
    rw [rexT, if_neg (show ¬ ((Ex.mk 6 r nm d [x0, x1]).kind = 1 ∨ (Ex.mk 6 r nm d [x0, x1]).kind = 2 ∨ (Ex.mk 6 r nm d [x0, x1]).kind = 3) by simp [Ex.kind]), if_neg (show ¬ ((Ex.mk 6 r nm d [x0, x1]).kind = 4 ∨ (Ex.mk 6 r nm d [x0, x1]).kind = 5) by simp [Ex.kind]), if_pos (show (Ex.mk 6 r nm d [x0, x1]).kind = 6 from rfl)]
    have e : parT (sumB (prt (Ex.mk 6 r nm d [x0, x1]) 1) || (prt (Ex.mk 6 r nm d [x0, x1]) 1).kind == 6) (rexT n (prt (Ex.mk 6 r nm d [x0, x1]) 1)) = (parS false ⟨(rexT n x1).toArray⟩).data.toList := by
      show parT (sumB x1 || x1.kind == 6) (rexT n x1) = _
      rw [hsm, h6]; simp [parT, parS]
    rw [e]
    show parT (sumB x0) (rexT n x0) ++ _ ++ _ = _
    cases hb : sumB x0 <;> simp [Ex.kind, opS, parS, parT]
  rw [hpt] at hz ⊢
  obtain ⟨a, len, cap, rfl, hlen2, hsub⟩ := h
  obtain rfl : len = 2 := hlen2.symm
  rcases hsub with h0 | ⟨g, o, rfl, hg, hel⟩
  · omega
  show Calls Tryz.prog 17 #[.agg #[.int .u8 6, .string r, .string nm, .int .i64 d, .slice (some ⟨g, o, none⟩) 2 cap]] w _
  obtain ⟨p0, l0, c0, ⟨e00, e01, e02, e03, e04⟩, hx0⟩ := ExAt.elem (k := 0) (x := Ex.mk 6 r nm d [x0, x1]) hg (Below.refl _ w) (show 0 < 2 by decide) hel
  simp only [Nat.zero_mul, Nat.add_zero, Ex.sub, List.getElem_cons_zero] at e00 e01 e02 e03 e04 hx0
  obtain ⟨p1, l1, c1, ⟨f0, f1, f2, f3, f4⟩, hx1⟩ := ExAt.elem (k := 1) (x := Ex.mk 6 r nm d [x0, x1]) hg (Below.refl _ w) (show 1 < 2 by decide) hel
  simp only [Nat.one_mul, Ex.sub, List.getElem_cons_succ, List.getElem_cons_zero] at f0 f1 f2 f3 f4 hx1
  obtain ⟨t0, ht0⟩ : ∃ t : ByteArray, t = ⟨(rexT n x0).toArray⟩ := ⟨_, rfl⟩
  obtain ⟨t1, ht1⟩ : ∃ t : ByteArray, t = ⟨(rexT n x1).toArray⟩ := ⟨_, rfl⟩
  have hz0 : t0.data.toList = rexT n x0 := by rw [ht0]
  have hz1 : t1.data.toList = rexT n x1 := by rw [ht1]
  have hs0 := ba_size hz0
  have hs1 := ba_size hz1
  obtain ⟨W0, hW0⟩ : ∃ W0, W0 = w.alloc (.cells #[.int .u8 6, .string r, .string nm, .int .i64 d, .slice (some ⟨g, o, none⟩) 2 cap] 25) := ⟨_, rfl⟩
  have hB0 : Below w.heap.size w W0 := by rw [hW0]; exact own_below w _
  have hbx : W0.heap[w.heap.size]? = some (.cells #[.int .u8 6, .string r, .string nm, .int .i64 d, .slice (some ⟨g, o, none⟩) 2 cap] 25) := by rw [hW0]; exact alloc_at _ _
  rw [← ht0, ← ht1] at hz ⊢
  obtain ⟨q1, hq1⟩ : ∃ q, q = parS false t1 := ⟨_, rfl⟩
  obtain ⟨q0, hq0⟩ : ∃ q, q = parS (sumB x0) t0 := ⟨_, rfl⟩
  have pz : ∀ (b : Bool) (t : ByteArray), t.size ≤ (parS b t).size := fun b t => by
    unfold parS; split
    · simp only [ByteArray.size_append]; omega
    · exact Nat.le_refl _
  have pz1 := pz false t1
  rw [← hq1] at hz pz1 ⊢
  have pz0 := pz (sumB x0) t0
  rw [← hq0] at hz pz0 ⊢
  have sz0 : q0.data.toList.length = q0.size := by simp
  have sz1 : q1.data.toList.length = q1.size := by simp
  simp only [List.length_append, List.length_cons, List.length_nil] at hz
  have hsz : q0.size + 3 + q1.size ≤ 2999000 := by omega
  have n1 : ¬ 9223372036854775807 < q0.size + 3 := by omega
  have n2 : ¬ 9223372036854775807 < q0.size + 3 + q1.size := by omega
  have HX1 : Hid (∀ W, Below W0.heap.size W0 W → Calls Tryz.prog 17 #[.agg #[.int .u8 x1.kind, .string x1.rat, .string x1.name, .int .i64 x1.date, .slice p1 l1 c1]] W (fun e w' => e = .returned (.string t1) ∧ Below W.heap.size W w')) := fun W hW => by
    have := ih x1 _ W (ExAt.below (hB0.trans (hW.mono hB0.size)) hx1) ho1 (by omega)
    unfold RxP at this; rwa [← ht1] at this
  have HX0 : Hid (∀ W, Below W0.heap.size W0 W → Calls Tryz.prog 17 #[.agg #[.int .u8 x0.kind, .string x0.rat, .string x0.name, .int .i64 x0.date, .slice p0 l0 c0]] W (fun e w' => e = .returned (.string t0) ∧ Below W.heap.size W w')) := fun W hW => by
    have := ih x0 _ W (ExAt.below (hB0.trans (hW.mono hB0.size)) hx0) ho0 (by omega)
    unfold RxP at this; rwa [← ht0] at this
  have HM1 : Hid (∀ W, Calls Tryz.prog 35 #[.agg #[.int .u8 x1.kind, .string x1.rat, .string x1.name, .int .i64 x1.date, .slice p1 l1 c1]] W (BelB W (sumB x1))) := fun W => rsum_any _ _ _ _ _ _ _ W
  have HM0 : Hid (∀ W, Calls Tryz.prog 35 #[.agg #[.int .u8 x0.kind, .string x0.rat, .string x0.name, .int .i64 x0.date, .slice p0 l0 c0]] W (BelB W (sumB x0))) := fun W => rsum_any _ _ _ _ _ _ _ W
  have HP1 : Hid (∀ W, Below W0.heap.size W0 W → Calls Tryz.prog 34 #[.agg #[.int .u8 x1.kind, .string x1.rat, .string x1.name, .int .i64 x1.date, .slice p1 l1 c1], .bool false] W (fun e w' => e = .returned (.string q1) ∧ Below W.heap.size W w')) := fun W hW => by
    rw [hq1]
    exact rpart_of _ _ _ _ _ _ _ t1 _ W (by omega) (Lib.hid fun W' hW' => HX1.out W' (hW.trans (hW'.mono hW.size)))
  have HP0 : Hid (∀ W, Below W0.heap.size W0 W → Calls Tryz.prog 34 #[.agg #[.int .u8 x0.kind, .string x0.rat, .string x0.name, .int .i64 x0.date, .slice p0 l0 c0], .bool (sumB x0)] W (fun e w' => e = .returned (.string q0) ∧ Below W.heap.size W w')) := fun W hW => by
    rw [hq0]
    exact rpart_of _ _ _ _ _ _ _ t0 _ W (by omega) (Lib.hid fun W' hW' => HX0.out W' (hW.trans (hW'.mono hW.size)))
  have SB : ∀ W, Below W0.heap.size W0 W → W.cell? ⟨w.heap.size, 4, none⟩ = some (.slice (some ⟨g, o, none⟩) 2 cap) ∧ W.cell? ⟨g, o, none⟩ = some (.int .u8 x0.kind) ∧ W.cell? ⟨g, o + 1, none⟩ = some (.string x0.rat) ∧ W.cell? ⟨g, o + 2, none⟩ = some (.string x0.name) ∧ W.cell? ⟨g, o + 3, none⟩ = some (.int .i64 x0.date) ∧ W.cell? ⟨g, o + 4, none⟩ = some (.slice p0 l0 c0) ∧
      W.cell? ⟨g, o + 5, none⟩ = some (.int .u8 x1.kind) ∧ W.cell? ⟨g, o + 5 + 1, none⟩ = some (.string x1.rat) ∧ W.cell? ⟨g, o + 5 + 2, none⟩ = some (.string x1.name) ∧ W.cell? ⟨g, o + 5 + 3, none⟩ = some (.int .i64 x1.date) ∧ W.cell? ⟨g, o + 5 + 4, none⟩ = some (.slice p1 l1 c1) := fun W hW =>
    have hb : Below w.heap.size w W := hB0.trans (hW.mono hB0.size)
    have e : ∀ o', W.cell? ⟨g, o', none⟩ = w.cell? ⟨g, o', none⟩ := fun o' => (bcell hb).1 _ _ hg
    ⟨(exCells ((hW.block _ (Array.getElem?_eq_some_iff.1 hbx).1).trans hbx)).2.2.2.2, (e _).trans e00, (e _).trans e01, (e _).trans e02, (e _).trans e03, (e _).trans e04, (e _).trans f0, (e _).trans f1, (e _).trans f2, (e _).trans f3, (e _).trans f4⟩
  have HT : Hid (q0 ++ ByteArray.mk #[32, 42, 32] ++ q1 = ⟨(q0.data.toList ++ [32, 42, 32] ++ q1.data.toList).toArray⟩) := ba_eq (by simp)
  obtain ⟨b0, hb0⟩ : ∃ b, b = sumB x0 := ⟨_, rfl⟩
  rw [← hb0] at HM0 HP0
  rw [hsm] at HM1
  obtain ⟨z0, z1, z2, z3, z4, z5, z6, z7, z8, z9, za⟩ := SB W0 (Below.refl _ _)
  have HSB := Lib.hid SB
  have HB0 := Lib.hid hB0
  have HCW : Hid (Below W0.heap.size W0 W0) := Below.refl _ W0
  have HC : Hid (Below W0.heap.size W0 W0.drew) := (Below.refl _ W0).drew
  have HW := Lib.hid hW0
  have hm1s : 0 ≤ q1.size := Nat.zero_le _
  clear SB hB0 hbx hel hx0 hx1 ho0 ho1 hz0 hz1 ht0 ht1 hs0 hs1 e00 e01 e02 e03 e04 f0 f1 f2 f3 f4 hpt hz hW0 hlen2 ih pz sz0 sz1 hq1 hm1s hb0 hq0 hsm
  go_enter Tryz.func17, Tryz.ntmps17
  go_wp2_with fail
  rw [← HW.out]
  clear HW
  go_upto_region 13 with (fail)
  have z0' := fun p : BelOf W0 => cell_bel z0 p
  have z1' := fun p : BelOf W0 => cell_bel z1 p
  have z2' := fun p : BelOf W0 => cell_bel z2 p
  have z3' := fun p : BelOf W0 => cell_bel z3 p
  have z4' := fun p : BelOf W0 => cell_bel z4 p
  have z5' := fun p : BelOf W0 => cell_bel z5 p
  have z6' := fun p : BelOf W0 => cell_bel z6 p
  have z7' := fun p : BelOf W0 => cell_bel z7 p
  have z8' := fun p : BelOf W0 => cell_bel z8 p
  have z9' := fun p : BelOf W0 => cell_bel z9 p
  have za' := fun p : BelOf W0 => cell_bel za p
  clear z0 z1 z2 z3 z4 z5 z6 z7 z8 z9 za
  refine region_bel (by kernel_rfl) (by kernel_rfl) ?_
  repeat (quiet_step (first
    | (go_at_call 35; first | with_reducible exact bel_of (HM0.out _) | with_reducible exact bel_of (HM1.out _))
    | (go_at_call 34; first | with_reducible exact bel_of (HP1.out _ (BelOf.h _)) | with_reducible exact bel_of (HP0.out _ (BelOf.h _)))))
  refine wpQuiet_nil ?_
  intro w3 hw
  obtain ⟨⟨w4, hb⟩, hw⟩ := hw
  subst hw
  have HC := Lib.hid hb
  clear hb
  go_wp2_with fail
  go_ret
  exact ⟨by rw [HT.out]; rfl, HB0.out.trans (HC.out.mono HB0.out.size)⟩

set_option maxHeartbeats 2000000 in
set_option maxRecDepth 100000 in
theorem rexpr_6_1 {n : Nat} (ih : RexC n) (r nm : ByteArray) (d : Int) (x0 x1 : Ex) (ho0 : OkX n x0) (ho1 : OkX n x1) (hsm : sumB x1 = true) (cs : List Value) (w : World) (h : ExAt (n + 1) w cs (Ex.mk 6 r nm d [x0, x1])) (hz : (rexT (n + 1) (Ex.mk 6 r nm d [x0, x1])).length ≤ 2999000) :
    Calls Tryz.prog 17 #[.agg cs.toArray] w (RxP w (rexT (n + 1) (Ex.mk 6 r nm d [x0, x1]))) := by
  have hpt : rexT (n + 1) (Ex.mk 6 r nm d [x0, x1]) = (parS (sumB x0) ⟨(rexT n x0).toArray⟩).data.toList ++ [32, 42, 32] ++ (parS true ⟨(rexT n x1).toArray⟩).data.toList := by
    rw [rexT, if_neg (show ¬ ((Ex.mk 6 r nm d [x0, x1]).kind = 1 ∨ (Ex.mk 6 r nm d [x0, x1]).kind = 2 ∨ (Ex.mk 6 r nm d [x0, x1]).kind = 3) by simp [Ex.kind]), if_neg (show ¬ ((Ex.mk 6 r nm d [x0, x1]).kind = 4 ∨ (Ex.mk 6 r nm d [x0, x1]).kind = 5) by simp [Ex.kind]), if_pos (show (Ex.mk 6 r nm d [x0, x1]).kind = 6 from rfl)]
    have e : parT (sumB (prt (Ex.mk 6 r nm d [x0, x1]) 1) || (prt (Ex.mk 6 r nm d [x0, x1]) 1).kind == 6) (rexT n (prt (Ex.mk 6 r nm d [x0, x1]) 1)) = (parS true ⟨(rexT n x1).toArray⟩).data.toList := by
      show parT (sumB x1 || x1.kind == 6) (rexT n x1) = _
      rw [hsm]; simp [parT, parS]
    rw [e]
    show parT (sumB x0) (rexT n x0) ++ _ ++ _ = _
    cases hb : sumB x0 <;> simp [Ex.kind, opS, parS, parT]
  rw [hpt] at hz ⊢
  obtain ⟨a, len, cap, rfl, hlen2, hsub⟩ := h
  obtain rfl : len = 2 := hlen2.symm
  rcases hsub with h0 | ⟨g, o, rfl, hg, hel⟩
  · omega
  show Calls Tryz.prog 17 #[.agg #[.int .u8 6, .string r, .string nm, .int .i64 d, .slice (some ⟨g, o, none⟩) 2 cap]] w _
  obtain ⟨p0, l0, c0, ⟨e00, e01, e02, e03, e04⟩, hx0⟩ := ExAt.elem (k := 0) (x := Ex.mk 6 r nm d [x0, x1]) hg (Below.refl _ w) (show 0 < 2 by decide) hel
  simp only [Nat.zero_mul, Nat.add_zero, Ex.sub, List.getElem_cons_zero] at e00 e01 e02 e03 e04 hx0
  obtain ⟨p1, l1, c1, ⟨f0, f1, f2, f3, f4⟩, hx1⟩ := ExAt.elem (k := 1) (x := Ex.mk 6 r nm d [x0, x1]) hg (Below.refl _ w) (show 1 < 2 by decide) hel
  simp only [Nat.one_mul, Ex.sub, List.getElem_cons_succ, List.getElem_cons_zero] at f0 f1 f2 f3 f4 hx1
  obtain ⟨t0, ht0⟩ : ∃ t : ByteArray, t = ⟨(rexT n x0).toArray⟩ := ⟨_, rfl⟩
  obtain ⟨t1, ht1⟩ : ∃ t : ByteArray, t = ⟨(rexT n x1).toArray⟩ := ⟨_, rfl⟩
  have hz0 : t0.data.toList = rexT n x0 := by rw [ht0]
  have hz1 : t1.data.toList = rexT n x1 := by rw [ht1]
  have hs0 := ba_size hz0
  have hs1 := ba_size hz1
  obtain ⟨W0, hW0⟩ : ∃ W0, W0 = w.alloc (.cells #[.int .u8 6, .string r, .string nm, .int .i64 d, .slice (some ⟨g, o, none⟩) 2 cap] 25) := ⟨_, rfl⟩
  have hB0 : Below w.heap.size w W0 := by rw [hW0]; exact own_below w _
  have hbx : W0.heap[w.heap.size]? = some (.cells #[.int .u8 6, .string r, .string nm, .int .i64 d, .slice (some ⟨g, o, none⟩) 2 cap] 25) := by rw [hW0]; exact alloc_at _ _
  rw [← ht0, ← ht1] at hz ⊢
  obtain ⟨q1, hq1⟩ : ∃ q, q = parS true t1 := ⟨_, rfl⟩
  obtain ⟨q0, hq0⟩ : ∃ q, q = parS (sumB x0) t0 := ⟨_, rfl⟩
  have pz : ∀ (b : Bool) (t : ByteArray), t.size ≤ (parS b t).size := fun b t => by
    unfold parS; split
    · simp only [ByteArray.size_append]; omega
    · exact Nat.le_refl _
  have pz1 := pz true t1
  rw [← hq1] at hz pz1 ⊢
  have pz0 := pz (sumB x0) t0
  rw [← hq0] at hz pz0 ⊢
  have sz0 : q0.data.toList.length = q0.size := by simp
  have sz1 : q1.data.toList.length = q1.size := by simp
  simp only [List.length_append, List.length_cons, List.length_nil] at hz
  have hsz : q0.size + 3 + q1.size ≤ 2999000 := by omega
  have n1 : ¬ 9223372036854775807 < q0.size + 3 := by omega
  have n2 : ¬ 9223372036854775807 < q0.size + 3 + q1.size := by omega
  have HX1 : Hid (∀ W, Below W0.heap.size W0 W → Calls Tryz.prog 17 #[.agg #[.int .u8 x1.kind, .string x1.rat, .string x1.name, .int .i64 x1.date, .slice p1 l1 c1]] W (fun e w' => e = .returned (.string t1) ∧ Below W.heap.size W w')) := fun W hW => by
    have := ih x1 _ W (ExAt.below (hB0.trans (hW.mono hB0.size)) hx1) ho1 (by omega)
    unfold RxP at this; rwa [← ht1] at this
  have HX0 : Hid (∀ W, Below W0.heap.size W0 W → Calls Tryz.prog 17 #[.agg #[.int .u8 x0.kind, .string x0.rat, .string x0.name, .int .i64 x0.date, .slice p0 l0 c0]] W (fun e w' => e = .returned (.string t0) ∧ Below W.heap.size W w')) := fun W hW => by
    have := ih x0 _ W (ExAt.below (hB0.trans (hW.mono hB0.size)) hx0) ho0 (by omega)
    unfold RxP at this; rwa [← ht0] at this
  have HM1 : Hid (∀ W, Calls Tryz.prog 35 #[.agg #[.int .u8 x1.kind, .string x1.rat, .string x1.name, .int .i64 x1.date, .slice p1 l1 c1]] W (BelB W (sumB x1))) := fun W => rsum_any _ _ _ _ _ _ _ W
  have HM0 : Hid (∀ W, Calls Tryz.prog 35 #[.agg #[.int .u8 x0.kind, .string x0.rat, .string x0.name, .int .i64 x0.date, .slice p0 l0 c0]] W (BelB W (sumB x0))) := fun W => rsum_any _ _ _ _ _ _ _ W
  have HP1 : Hid (∀ W, Below W0.heap.size W0 W → Calls Tryz.prog 34 #[.agg #[.int .u8 x1.kind, .string x1.rat, .string x1.name, .int .i64 x1.date, .slice p1 l1 c1], .bool true] W (fun e w' => e = .returned (.string q1) ∧ Below W.heap.size W w')) := fun W hW => by
    rw [hq1]
    exact rpart_of _ _ _ _ _ _ _ t1 _ W (by omega) (Lib.hid fun W' hW' => HX1.out W' (hW.trans (hW'.mono hW.size)))
  have HP0 : Hid (∀ W, Below W0.heap.size W0 W → Calls Tryz.prog 34 #[.agg #[.int .u8 x0.kind, .string x0.rat, .string x0.name, .int .i64 x0.date, .slice p0 l0 c0], .bool (sumB x0)] W (fun e w' => e = .returned (.string q0) ∧ Below W.heap.size W w')) := fun W hW => by
    rw [hq0]
    exact rpart_of _ _ _ _ _ _ _ t0 _ W (by omega) (Lib.hid fun W' hW' => HX0.out W' (hW.trans (hW'.mono hW.size)))
  have SB : ∀ W, Below W0.heap.size W0 W → W.cell? ⟨w.heap.size, 4, none⟩ = some (.slice (some ⟨g, o, none⟩) 2 cap) ∧ W.cell? ⟨g, o, none⟩ = some (.int .u8 x0.kind) ∧ W.cell? ⟨g, o + 1, none⟩ = some (.string x0.rat) ∧ W.cell? ⟨g, o + 2, none⟩ = some (.string x0.name) ∧ W.cell? ⟨g, o + 3, none⟩ = some (.int .i64 x0.date) ∧ W.cell? ⟨g, o + 4, none⟩ = some (.slice p0 l0 c0) ∧
      W.cell? ⟨g, o + 5, none⟩ = some (.int .u8 x1.kind) ∧ W.cell? ⟨g, o + 5 + 1, none⟩ = some (.string x1.rat) ∧ W.cell? ⟨g, o + 5 + 2, none⟩ = some (.string x1.name) ∧ W.cell? ⟨g, o + 5 + 3, none⟩ = some (.int .i64 x1.date) ∧ W.cell? ⟨g, o + 5 + 4, none⟩ = some (.slice p1 l1 c1) := fun W hW =>
    have hb : Below w.heap.size w W := hB0.trans (hW.mono hB0.size)
    have e : ∀ o', W.cell? ⟨g, o', none⟩ = w.cell? ⟨g, o', none⟩ := fun o' => (bcell hb).1 _ _ hg
    ⟨(exCells ((hW.block _ (Array.getElem?_eq_some_iff.1 hbx).1).trans hbx)).2.2.2.2, (e _).trans e00, (e _).trans e01, (e _).trans e02, (e _).trans e03, (e _).trans e04, (e _).trans f0, (e _).trans f1, (e _).trans f2, (e _).trans f3, (e _).trans f4⟩
  have HT : Hid (q0 ++ ByteArray.mk #[32, 42, 32] ++ q1 = ⟨(q0.data.toList ++ [32, 42, 32] ++ q1.data.toList).toArray⟩) := ba_eq (by simp)
  obtain ⟨b0, hb0⟩ : ∃ b, b = sumB x0 := ⟨_, rfl⟩
  rw [← hb0] at HM0 HP0
  rw [hsm] at HM1
  obtain ⟨z0, z1, z2, z3, z4, z5, z6, z7, z8, z9, za⟩ := SB W0 (Below.refl _ _)
  have HSB := Lib.hid SB
  have HB0 := Lib.hid hB0
  have HCW : Hid (Below W0.heap.size W0 W0) := Below.refl _ W0
  have HC : Hid (Below W0.heap.size W0 W0.drew) := (Below.refl _ W0).drew
  have HW := Lib.hid hW0
  have hm1s : 0 ≤ q1.size := Nat.zero_le _
  clear SB hB0 hbx hel hx0 hx1 ho0 ho1 hz0 hz1 ht0 ht1 hs0 hs1 e00 e01 e02 e03 e04 f0 f1 f2 f3 f4 hpt hz hW0 hlen2 ih pz sz0 sz1 hq1 hm1s hb0 hq0 hsm
  go_enter Tryz.func17, Tryz.ntmps17
  go_wp2_with fail
  rw [← HW.out]
  clear HW
  go_upto_region 13 with (fail)
  have z0' := fun p : BelOf W0 => cell_bel z0 p
  have z1' := fun p : BelOf W0 => cell_bel z1 p
  have z2' := fun p : BelOf W0 => cell_bel z2 p
  have z3' := fun p : BelOf W0 => cell_bel z3 p
  have z4' := fun p : BelOf W0 => cell_bel z4 p
  have z5' := fun p : BelOf W0 => cell_bel z5 p
  have z6' := fun p : BelOf W0 => cell_bel z6 p
  have z7' := fun p : BelOf W0 => cell_bel z7 p
  have z8' := fun p : BelOf W0 => cell_bel z8 p
  have z9' := fun p : BelOf W0 => cell_bel z9 p
  have za' := fun p : BelOf W0 => cell_bel za p
  clear z0 z1 z2 z3 z4 z5 z6 z7 z8 z9 za
  refine region_bel (by kernel_rfl) (by kernel_rfl) ?_
  repeat (quiet_step (first
    | (go_at_call 35; first | with_reducible exact bel_of (HM0.out _) | with_reducible exact bel_of (HM1.out _))
    | (go_at_call 34; first | with_reducible exact bel_of (HP1.out _ (BelOf.h _)) | with_reducible exact bel_of (HP0.out _ (BelOf.h _)))))
  refine wpQuiet_nil ?_
  intro w3 hw
  obtain ⟨⟨w4, hb⟩, hw⟩ := hw
  subst hw
  have HC := Lib.hid hb
  clear hb
  go_wp2_with fail
  go_ret
  exact ⟨by rw [HT.out]; rfl, HB0.out.trans (HC.out.mono HB0.out.size)⟩

set_option maxHeartbeats 2000000 in
set_option maxRecDepth 100000 in
theorem rexpr_6_2 {n : Nat} (ih : RexC n) (r nm : ByteArray) (d : Int) (x0 x1 : Ex) (ho0 : OkX n x0) (ho1 : OkX n x1) (hsm : sumB x1 = false) (h6 : (x1.kind == 6) = true) (cs : List Value) (w : World) (h : ExAt (n + 1) w cs (Ex.mk 6 r nm d [x0, x1])) (hz : (rexT (n + 1) (Ex.mk 6 r nm d [x0, x1])).length ≤ 2999000) :
    Calls Tryz.prog 17 #[.agg cs.toArray] w (RxP w (rexT (n + 1) (Ex.mk 6 r nm d [x0, x1]))) := by
  have hpt : rexT (n + 1) (Ex.mk 6 r nm d [x0, x1]) = (parS (sumB x0) ⟨(rexT n x0).toArray⟩).data.toList ++ [32, 42, 32] ++ (parS true ⟨(rexT n x1).toArray⟩).data.toList := by
    rw [rexT, if_neg (show ¬ ((Ex.mk 6 r nm d [x0, x1]).kind = 1 ∨ (Ex.mk 6 r nm d [x0, x1]).kind = 2 ∨ (Ex.mk 6 r nm d [x0, x1]).kind = 3) by simp [Ex.kind]), if_neg (show ¬ ((Ex.mk 6 r nm d [x0, x1]).kind = 4 ∨ (Ex.mk 6 r nm d [x0, x1]).kind = 5) by simp [Ex.kind]), if_pos (show (Ex.mk 6 r nm d [x0, x1]).kind = 6 from rfl)]
    have e : parT (sumB (prt (Ex.mk 6 r nm d [x0, x1]) 1) || (prt (Ex.mk 6 r nm d [x0, x1]) 1).kind == 6) (rexT n (prt (Ex.mk 6 r nm d [x0, x1]) 1)) = (parS true ⟨(rexT n x1).toArray⟩).data.toList := by
      show parT (sumB x1 || x1.kind == 6) (rexT n x1) = _
      rw [hsm, h6]; simp [parT, parS]
    rw [e]
    show parT (sumB x0) (rexT n x0) ++ _ ++ _ = _
    cases hb : sumB x0 <;> simp [Ex.kind, opS, parS, parT]
  rw [hpt] at hz ⊢
  obtain ⟨a, len, cap, rfl, hlen2, hsub⟩ := h
  obtain rfl : len = 2 := hlen2.symm
  rcases hsub with h0 | ⟨g, o, rfl, hg, hel⟩
  · omega
  show Calls Tryz.prog 17 #[.agg #[.int .u8 6, .string r, .string nm, .int .i64 d, .slice (some ⟨g, o, none⟩) 2 cap]] w _
  obtain ⟨p0, l0, c0, ⟨e00, e01, e02, e03, e04⟩, hx0⟩ := ExAt.elem (k := 0) (x := Ex.mk 6 r nm d [x0, x1]) hg (Below.refl _ w) (show 0 < 2 by decide) hel
  simp only [Nat.zero_mul, Nat.add_zero, Ex.sub, List.getElem_cons_zero] at e00 e01 e02 e03 e04 hx0
  obtain ⟨p1, l1, c1, ⟨f0, f1, f2, f3, f4⟩, hx1⟩ := ExAt.elem (k := 1) (x := Ex.mk 6 r nm d [x0, x1]) hg (Below.refl _ w) (show 1 < 2 by decide) hel
  simp only [Nat.one_mul, Ex.sub, List.getElem_cons_succ, List.getElem_cons_zero] at f0 f1 f2 f3 f4 hx1
  obtain ⟨t0, ht0⟩ : ∃ t : ByteArray, t = ⟨(rexT n x0).toArray⟩ := ⟨_, rfl⟩
  obtain ⟨t1, ht1⟩ : ∃ t : ByteArray, t = ⟨(rexT n x1).toArray⟩ := ⟨_, rfl⟩
  have hz0 : t0.data.toList = rexT n x0 := by rw [ht0]
  have hz1 : t1.data.toList = rexT n x1 := by rw [ht1]
  have hs0 := ba_size hz0
  have hs1 := ba_size hz1
  obtain ⟨W0, hW0⟩ : ∃ W0, W0 = w.alloc (.cells #[.int .u8 6, .string r, .string nm, .int .i64 d, .slice (some ⟨g, o, none⟩) 2 cap] 25) := ⟨_, rfl⟩
  have hB0 : Below w.heap.size w W0 := by rw [hW0]; exact own_below w _
  have hbx : W0.heap[w.heap.size]? = some (.cells #[.int .u8 6, .string r, .string nm, .int .i64 d, .slice (some ⟨g, o, none⟩) 2 cap] 25) := by rw [hW0]; exact alloc_at _ _
  rw [← ht0, ← ht1] at hz ⊢
  obtain ⟨q1, hq1⟩ : ∃ q, q = parS true t1 := ⟨_, rfl⟩
  obtain ⟨q0, hq0⟩ : ∃ q, q = parS (sumB x0) t0 := ⟨_, rfl⟩
  have pz : ∀ (b : Bool) (t : ByteArray), t.size ≤ (parS b t).size := fun b t => by
    unfold parS; split
    · simp only [ByteArray.size_append]; omega
    · exact Nat.le_refl _
  have pz1 := pz true t1
  rw [← hq1] at hz pz1 ⊢
  have pz0 := pz (sumB x0) t0
  rw [← hq0] at hz pz0 ⊢
  have sz0 : q0.data.toList.length = q0.size := by simp
  have sz1 : q1.data.toList.length = q1.size := by simp
  simp only [List.length_append, List.length_cons, List.length_nil] at hz
  have hsz : q0.size + 3 + q1.size ≤ 2999000 := by omega
  have n1 : ¬ 9223372036854775807 < q0.size + 3 := by omega
  have n2 : ¬ 9223372036854775807 < q0.size + 3 + q1.size := by omega
  have HX1 : Hid (∀ W, Below W0.heap.size W0 W → Calls Tryz.prog 17 #[.agg #[.int .u8 x1.kind, .string x1.rat, .string x1.name, .int .i64 x1.date, .slice p1 l1 c1]] W (fun e w' => e = .returned (.string t1) ∧ Below W.heap.size W w')) := fun W hW => by
    have := ih x1 _ W (ExAt.below (hB0.trans (hW.mono hB0.size)) hx1) ho1 (by omega)
    unfold RxP at this; rwa [← ht1] at this
  have HX0 : Hid (∀ W, Below W0.heap.size W0 W → Calls Tryz.prog 17 #[.agg #[.int .u8 x0.kind, .string x0.rat, .string x0.name, .int .i64 x0.date, .slice p0 l0 c0]] W (fun e w' => e = .returned (.string t0) ∧ Below W.heap.size W w')) := fun W hW => by
    have := ih x0 _ W (ExAt.below (hB0.trans (hW.mono hB0.size)) hx0) ho0 (by omega)
    unfold RxP at this; rwa [← ht0] at this
  have HM1 : Hid (∀ W, Calls Tryz.prog 35 #[.agg #[.int .u8 x1.kind, .string x1.rat, .string x1.name, .int .i64 x1.date, .slice p1 l1 c1]] W (BelB W (sumB x1))) := fun W => rsum_any _ _ _ _ _ _ _ W
  have HM0 : Hid (∀ W, Calls Tryz.prog 35 #[.agg #[.int .u8 x0.kind, .string x0.rat, .string x0.name, .int .i64 x0.date, .slice p0 l0 c0]] W (BelB W (sumB x0))) := fun W => rsum_any _ _ _ _ _ _ _ W
  have HP1 : Hid (∀ W, Below W0.heap.size W0 W → Calls Tryz.prog 34 #[.agg #[.int .u8 x1.kind, .string x1.rat, .string x1.name, .int .i64 x1.date, .slice p1 l1 c1], .bool true] W (fun e w' => e = .returned (.string q1) ∧ Below W.heap.size W w')) := fun W hW => by
    rw [hq1]
    exact rpart_of _ _ _ _ _ _ _ t1 _ W (by omega) (Lib.hid fun W' hW' => HX1.out W' (hW.trans (hW'.mono hW.size)))
  have HP0 : Hid (∀ W, Below W0.heap.size W0 W → Calls Tryz.prog 34 #[.agg #[.int .u8 x0.kind, .string x0.rat, .string x0.name, .int .i64 x0.date, .slice p0 l0 c0], .bool (sumB x0)] W (fun e w' => e = .returned (.string q0) ∧ Below W.heap.size W w')) := fun W hW => by
    rw [hq0]
    exact rpart_of _ _ _ _ _ _ _ t0 _ W (by omega) (Lib.hid fun W' hW' => HX0.out W' (hW.trans (hW'.mono hW.size)))
  have SB : ∀ W, Below W0.heap.size W0 W → W.cell? ⟨w.heap.size, 4, none⟩ = some (.slice (some ⟨g, o, none⟩) 2 cap) ∧ W.cell? ⟨g, o, none⟩ = some (.int .u8 x0.kind) ∧ W.cell? ⟨g, o + 1, none⟩ = some (.string x0.rat) ∧ W.cell? ⟨g, o + 2, none⟩ = some (.string x0.name) ∧ W.cell? ⟨g, o + 3, none⟩ = some (.int .i64 x0.date) ∧ W.cell? ⟨g, o + 4, none⟩ = some (.slice p0 l0 c0) ∧
      W.cell? ⟨g, o + 5, none⟩ = some (.int .u8 x1.kind) ∧ W.cell? ⟨g, o + 5 + 1, none⟩ = some (.string x1.rat) ∧ W.cell? ⟨g, o + 5 + 2, none⟩ = some (.string x1.name) ∧ W.cell? ⟨g, o + 5 + 3, none⟩ = some (.int .i64 x1.date) ∧ W.cell? ⟨g, o + 5 + 4, none⟩ = some (.slice p1 l1 c1) := fun W hW =>
    have hb : Below w.heap.size w W := hB0.trans (hW.mono hB0.size)
    have e : ∀ o', W.cell? ⟨g, o', none⟩ = w.cell? ⟨g, o', none⟩ := fun o' => (bcell hb).1 _ _ hg
    ⟨(exCells ((hW.block _ (Array.getElem?_eq_some_iff.1 hbx).1).trans hbx)).2.2.2.2, (e _).trans e00, (e _).trans e01, (e _).trans e02, (e _).trans e03, (e _).trans e04, (e _).trans f0, (e _).trans f1, (e _).trans f2, (e _).trans f3, (e _).trans f4⟩
  have HT : Hid (q0 ++ ByteArray.mk #[32, 42, 32] ++ q1 = ⟨(q0.data.toList ++ [32, 42, 32] ++ q1.data.toList).toArray⟩) := ba_eq (by simp)
  obtain ⟨b0, hb0⟩ : ∃ b, b = sumB x0 := ⟨_, rfl⟩
  rw [← hb0] at HM0 HP0
  rw [hsm] at HM1
  obtain ⟨z0, z1, z2, z3, z4, z5, z6, z7, z8, z9, za⟩ := SB W0 (Below.refl _ _)
  have HSB := Lib.hid SB
  have HB0 := Lib.hid hB0
  have HCW : Hid (Below W0.heap.size W0 W0) := Below.refl _ W0
  have HC : Hid (Below W0.heap.size W0 W0.drew) := (Below.refl _ W0).drew
  have HW := Lib.hid hW0
  have hm1s : 0 ≤ q1.size := Nat.zero_le _
  clear SB hB0 hbx hel hx0 hx1 ho0 ho1 hz0 hz1 ht0 ht1 hs0 hs1 e00 e01 e02 e03 e04 f0 f1 f2 f3 f4 hpt hz hW0 hlen2 ih pz sz0 sz1 hq1 hm1s hb0 hq0 hsm
  go_enter Tryz.func17, Tryz.ntmps17
  go_wp2_with fail
  rw [← HW.out]
  clear HW
  go_upto_region 13 with (fail)
  have z0' := fun p : BelOf W0 => cell_bel z0 p
  have z1' := fun p : BelOf W0 => cell_bel z1 p
  have z2' := fun p : BelOf W0 => cell_bel z2 p
  have z3' := fun p : BelOf W0 => cell_bel z3 p
  have z4' := fun p : BelOf W0 => cell_bel z4 p
  have z5' := fun p : BelOf W0 => cell_bel z5 p
  have z6' := fun p : BelOf W0 => cell_bel z6 p
  have z7' := fun p : BelOf W0 => cell_bel z7 p
  have z8' := fun p : BelOf W0 => cell_bel z8 p
  have z9' := fun p : BelOf W0 => cell_bel z9 p
  have za' := fun p : BelOf W0 => cell_bel za p
  clear z0 z1 z2 z3 z4 z5 z6 z7 z8 z9 za
  refine region_bel (by kernel_rfl) (by kernel_rfl) ?_
  repeat (quiet_step (first
    | (go_at_call 35; first | with_reducible exact bel_of (HM0.out _) | with_reducible exact bel_of (HM1.out _))
    | (go_at_call 34; first | with_reducible exact bel_of (HP1.out _ (BelOf.h _)) | with_reducible exact bel_of (HP0.out _ (BelOf.h _)))))
  refine wpQuiet_nil ?_
  intro w3 hw
  obtain ⟨⟨w4, hb⟩, hw⟩ := hw
  subst hw
  have HC := Lib.hid hb
  clear hb
  go_wp2_with fail
  go_ret
  exact ⟨by rw [HT.out]; rfl, HB0.out.trans (HC.out.mono HB0.out.size)⟩

end Go.Proofs.YtdgmpgejemgbbaaGreatDoor
