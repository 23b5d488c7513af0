/-
  (*out).expr walked: of a number, of a name with a day, of a name. No condition but lengths. (*out).expr walked: of a kind with a word. No condition but lengths.
-/
import Derived.Test.YtdgmpgejemgbbaaGreatDoorOf
import Derived.Deep.RegionHeld3
namespace Go.Proofs.YtdgmpgejemgbbaaGreatDoor
open Go.RowKit

theorem oper_leaf {k : Int} (h4 : k ≠ 4) (h5 : k ≠ 5) (h6 : k ≠ 6) (W : World) : Calls Tryz.prog 25 #[.int .u8 k] W (fun e w' => e = .returned (.tuple #[.string (ByteArray.mk #[]), .int .i64 2, .int .i64 2]) ∧ W = w') := by
  have := oper_any k W
  unfold opS opO opN at this
  rw [if_neg h4, if_neg h5, if_neg h6, if_neg h4, if_neg h5, if_neg h6, if_neg h4, if_neg h5] at this
  exact this

set_option maxHeartbeats 2000000 in
set_option maxRecDepth 100000 in
theorem expr_rat {Wb : World} {B b : Nat} {m : Value} {n : Nat} (r nm : ByteArray) (d : Int) (sub : List Ex) (cs : List Value) (least : Int) (l : List UInt8) (w : World)
    (h : ExAt (n + 1) Wb cs (Ex.mk 1 r nm d sub)) (hl : least ≤ 2) (he : OutEnv Wb B b m l w) (hlen : l.length + (pexT (n + 1) (Ex.mk 1 r nm d sub) least).length ≤ 1000000000) :
    Calls Tryz.prog 14 #[.pointer (some ⟨b, 0, none⟩), .agg cs.toArray, .int .i64 least] w (WrP B b m (l ++ pexT (n + 1) (Ex.mk 1 r nm d sub) least) w) := by
  have hpt : pexT (n + 1) (Ex.mk 1 r nm d sub) least = r.data.toList := by
    rw [pexT]; simp [parT, opO, Ex.kind, leafT, Ex.rat]; omega
  rw [hpt] at hlen ⊢
  obtain ⟨a, len, cap, rfl, hlen2, hsub⟩ := h
  have HOP : Hid (∀ W, Calls Tryz.prog 25 #[.int .u8 1] W (fun e w' => e = .returned (.tuple #[.string (ByteArray.mk #[]), .int .i64 2, .int .i64 2]) ∧ W = w')) := fun W => oper_leaf (by decide) (by decide) (by decide) W
  have HEN := Lib.hid he
  have hbw := he.lt
  clear hlen2 hpt hsub
  show Calls Tryz.prog 14 #[.pointer (some ⟨b, 0, none⟩), .agg #[.int .u8 1, .string r, .string nm, .int .i64 d, .slice a len cap], .int .i64 least] w _
  go_enter Tryz.func14, Tryz.ntmps14
  go_wp2_with fail
  refine (HOP.out _).mono ?_
  rintro e w' ⟨rfl, rfl⟩
  obtain ⟨W0, hW0⟩ : ∃ W0, W0 = w.alloc (.cells #[.int .u8 1, .string r, .string nm, .int .i64 d, .slice a len cap] 25) := ⟨_, rfl⟩
  have hbx : W0.heap[w.heap.size]? = some (.cells #[.int .u8 1, .string r, .string nm, .int .i64 d, .slice a len cap] 25) := by rw [hW0]; exact alloc_at _ _
  have hE0 : OutEnv Wb B b m l W0 := by rw [hW0]; exact HEN.out.below (own_below w _)
  have HK0 : Hid (OutK B b w W0) := by rw [hW0]; exact OutK.below (own_below w _) HEN.out.size
  rw [← hW0]
  obtain ⟨b0, b1, b2, b3, b4⟩ := exCells hbx
  have HC := Lib.hid (put1 B b m l r W0 hE0.out (by have : r.data.toList.length = r.size := by simp
                                                    omega) hE0.size)
  clear hW0 hE0 hbx
  go_wp2_with fail
  refine HC.out.mono ?_
  rintro e W1 ⟨rfl, hio1, hok1⟩
  have HF : Hid (WrP B b m (l ++ r.data.toList) w (.returned (.tuple #[])) W1) := ⟨rfl, hio1, HK0.out.trans hok1⟩
  clear hio1 hok1
  go_wp2_with fail
  go_end0
  exact HF.out

set_option maxHeartbeats 2000000 in
set_option maxRecDepth 100000 in
theorem expr_now {Wb : World} {B b : Nat} {m : Value} {n : Nat} (r nm : ByteArray) (d : Int) (sub : List Ex) (cs : List Value) (least : Int) (l : List UInt8) (w : World)
    (h : ExAt (n + 1) Wb cs (Ex.mk 3 r nm d sub)) (hl : least ≤ 2) (he : OutEnv Wb B b m l w) (hlen : l.length + (pexT (n + 1) (Ex.mk 3 r nm d sub) least).length ≤ 1000000000) :
    Calls Tryz.prog 14 #[.pointer (some ⟨b, 0, none⟩), .agg cs.toArray, .int .i64 least] w (WrP B b m (l ++ pexT (n + 1) (Ex.mk 3 r nm d sub) least) w) := by
  have hpt : pexT (n + 1) (Ex.mk 3 r nm d sub) least = (qn nm).data.toList ++ [64, 110, 111, 119] := by
    rw [pexT]; simp [parT, opO, Ex.kind, leafT, Ex.name]; omega
  rw [hpt] at hlen ⊢
  obtain ⟨a, len, cap, rfl, hlen2, hsub⟩ := h
  have HOP : Hid (∀ W, Calls Tryz.prog 25 #[.int .u8 3] W (fun e w' => e = .returned (.tuple #[.string (ByteArray.mk #[]), .int .i64 2, .int .i64 2]) ∧ W = w')) := fun W => oper_leaf (by decide) (by decide) (by decide) W
  have HQ := Lib.hid (pqname_any nm)
  obtain ⟨q, hq⟩ : ∃ q, q = qn nm := ⟨_, rfl⟩
  rw [← hq] at HQ hlen ⊢
  have hlen3 : l.length + (q.size + 4) ≤ 1000000000 := by
    have : q.data.toList.length = q.size := by simp
    rw [List.length_append, this] at hlen; exact hlen
  have HEN := Lib.hid he
  have hbw := he.lt
  clear hlen2 hpt hsub hq hlen
  show Calls Tryz.prog 14 #[.pointer (some ⟨b, 0, none⟩), .agg #[.int .u8 3, .string r, .string nm, .int .i64 d, .slice a len cap], .int .i64 least] w _
  go_enter Tryz.func14, Tryz.ntmps14
  go_wp2_with fail
  refine (HOP.out _).mono ?_
  rintro e w' ⟨rfl, rfl⟩
  obtain ⟨W0, hW0⟩ : ∃ W0, W0 = w.alloc (.cells #[.int .u8 3, .string r, .string nm, .int .i64 d, .slice a len cap] 25) := ⟨_, rfl⟩
  have hbx : W0.heap[w.heap.size]? = some (.cells #[.int .u8 3, .string r, .string nm, .int .i64 d, .slice a len cap] 25) := by rw [hW0]; exact alloc_at _ _
  have hE0 : OutEnv Wb B b m l W0 := by rw [hW0]; exact HEN.out.below (own_below w _)
  have hK0 : OutK B b w W0 := by rw [hW0]; exact OutK.below (own_below w _) HEN.out.size
  rw [← hW0]
  have HE0 := Lib.hid hE0
  have HK0 := Lib.hid hK0
  obtain ⟨b0, b1, b2, b3, b4⟩ := exCells hbx
  clear hW0 hbx hE0 hK0
  go_wp2_with fail
  refine (HQ.out _).mono ?_
  rintro e V ⟨rfl, hb⟩
  have hEV := HE0.out.below hb
  have HKV := Lib.hid (HK0.out.trans (OutK.below (b := b) hb HE0.out.size))
  have HC := Lib.hid (put2 B b m l q (ByteArray.mk #[64, 110, 111, 119]) V hEV.out (by show l.length + (q.size + 4) ≤ _; omega) hEV.size)
  clear hb hEV
  go_wp2_with fail
  refine HC.out.mono ?_
  rintro e W1 ⟨rfl, hio1, hok1⟩
  have HF : Hid (WrP B b m (l ++ (q.data.toList ++ [64, 110, 111, 119])) w (.returned (.tuple #[])) W1) := ⟨rfl, hio1, HKV.out.trans hok1⟩
  clear hio1 hok1
  go_wp2_with fail
  go_end0
  exact HF.out

set_option maxHeartbeats 4000000 in
set_option maxRecDepth 100000 in
theorem expr_fix {Wb : World} {B b : Nat} {m : Value} {n : Nat} (r nm : ByteArray) (d : Int) (sub : List Ex) (cs : List Value) (least : Int) (l : List UInt8) (w : World) (hd0 : 0 ≤ d) (hd1 : d ≤ 99999)
    (h : ExAt (n + 1) Wb cs (Ex.mk 2 r nm d sub)) (hl : least ≤ 2) (he : OutEnv Wb B b m l w) (hlen : l.length + (pexT (n + 1) (Ex.mk 2 r nm d sub) least).length ≤ 1000000000) :
    Calls Tryz.prog 14 #[.pointer (some ⟨b, 0, none⟩), .agg cs.toArray, .int .i64 least] w (WrP B b m (l ++ pexT (n + 1) (Ex.mk 2 r nm d sub) least) w) := by
  have hpt : pexT (n + 1) (Ex.mk 2 r nm d sub) least = (qn nm).data.toList ++ ([64] ++ (dS d).data.toList) := by
    rw [pexT]; simp [parT, opO, Ex.kind, leafT, Ex.name, Ex.date, dS]; omega
  rw [hpt] at hlen ⊢
  obtain ⟨a, len, cap, rfl, hlen2, hsub⟩ := h
  have HOP : Hid (∀ W, Calls Tryz.prog 25 #[.int .u8 2] W (fun e w' => e = .returned (.tuple #[.string (ByteArray.mk #[]), .int .i64 2, .int .i64 2]) ∧ W = w')) := fun W => oper_leaf (by decide) (by decide) (by decide) W
  have HQ := Lib.hid (pqname_any nm)
  have HD : Hid (∀ W, Calls Tryz.prog 27 #[.int .i64 d] W (fun e w' => e = .returned (.string (dS d)) ∧ Below W.heap.size W w')) := fun W => pdayT_is hd0 hd1 W
  obtain ⟨q, hq⟩ : ∃ q, q = qn nm := ⟨_, rfl⟩
  obtain ⟨s, hs⟩ : ∃ s, s = dS d := ⟨_, rfl⟩
  rw [← hq, ← hs] at hlen ⊢
  rw [← hq] at HQ
  rw [← hs] at HD
  have hlen3 : l.length + (q.size + (1 + s.size)) ≤ 1000000000 := by
    have h1 : q.data.toList.length = q.size := by simp
    have h2 : s.data.toList.length = s.size := by simp
    rw [List.length_append, List.length_append, h1, h2] at hlen; exact hlen
  have HEN := Lib.hid he
  have hbw := he.lt
  clear hlen2 hpt hsub hq hlen hs hd0 hd1
  show Calls Tryz.prog 14 #[.pointer (some ⟨b, 0, none⟩), .agg #[.int .u8 2, .string r, .string nm, .int .i64 d, .slice a len cap], .int .i64 least] w _
  go_enter Tryz.func14, Tryz.ntmps14
  go_wp2_with fail
  refine (HOP.out _).mono ?_
  rintro e w' ⟨rfl, rfl⟩
  obtain ⟨W0, hW0⟩ : ∃ W0, W0 = w.alloc (.cells #[.int .u8 2, .string r, .string nm, .int .i64 d, .slice a len cap] 25) := ⟨_, rfl⟩
  have hbx : W0.heap[w.heap.size]? = some (.cells #[.int .u8 2, .string r, .string nm, .int .i64 d, .slice a len cap] 25) := by rw [hW0]; exact alloc_at _ _
  have hE0 : OutEnv Wb B b m l W0 := by rw [hW0]; exact HEN.out.below (own_below w _)
  have hK0 : OutK B b w W0 := by rw [hW0]; exact OutK.below (own_below w _) HEN.out.size
  rw [← hW0]
  have HE0 := Lib.hid hE0
  have HK0 := Lib.hid hK0
  have HBX := Lib.hid hbx
  obtain ⟨b0, b1, b2, b3, b4⟩ := exCells hbx
  have SB : ∀ W, Below W0.heap.size W0 W → W.cell? ⟨w.heap.size, 2, none⟩ = some (.string nm) ∧ W.cell? ⟨w.heap.size, 3, none⟩ = some (.int .i64 d) := fun W hW =>
    have q := exCells ((hW.block _ (Array.getElem?_eq_some_iff.1 hbx).1).trans hbx)
    ⟨q.2.2.1, q.2.2.2.1⟩
  have HSB := Lib.hid SB
  have HC0 : Hid (Below W0.heap.size W0 W0) := Below.refl _ W0
  have HC : Hid (Below W0.heap.size W0 W0.drew) := (Below.refl _ W0).drew
  clear hW0 hbx hE0 hK0 SB
  go_wp2_with fail
  go_region_held3 (fun W => W.cell? ⟨w.heap.size, 2, none⟩ = some (.string nm) ∧ W.cell? ⟨w.heap.size, 3, none⟩ = some (.int .i64 d))
    ((first | with_reducible exact HSB.out _ HC.out | with_reducible exact HSB.out _ HC0.out | with_reducible exact HSB.out _ (HC.out.alloc HC.out.size _) | with_reducible exact HSZ.out))
    ((first
      | (go_at_call 19; refine (HQ.out _).mono ?_; rintro e u ⟨rfl, hb⟩; have HC := Lib.hid (HC.out.trans (hb.mono HC.out.size)); clear hb)
      | (go_at_call 27; refine (HD.out _).mono ?_; rintro e u ⟨rfl, hb⟩; have HC := Lib.hid (HC.out.trans (hb.mono HC.out.size)); clear hb)
      | (go_at_call 26; refine (put3 B b m l q (ByteArray.mk #[64]) s _ (HE0.out.below HC.out).out (by show l.length + (q.size + (1 + s.size)) ≤ _; omega) (HE0.out.below HC.out).size).mono ?_; rintro e u ⟨rfl, hio, hok⟩; have HIO := Lib.hid hio; have HOK := Lib.hid ((OutK.below (b := b) HC.out HE0.out.size).trans hok); have HXX := exCells (boxed_kept HBX.out HOK.out (by omega)); have HSZ := Lib.hid (And.intro HXX.2.2.1 HXX.2.2.2.1); clear HXX; clear hio hok)))
  have HF : Hid (WrP B b m (l ++ (q.data.toList ++ ([64] ++ s.data.toList))) w (.returned (.tuple #[])) u) := ⟨rfl, HIO.out, HK0.out.trans HOK.out⟩
  go_wp2_with fail
  go_end0
  exact HF.out

end Go.Proofs.YtdgmpgejemgbbaaGreatDoor

namespace Go.Proofs.YtdgmpgejemgbbaaGreatDoor
open Go.RowKit

theorem commas_snoc (l : List (List UInt8)) (a : List UInt8) : commas (l ++ [a]) = if l = [] then a else commas l ++ ([44, 32] ++ a) := by
  induction l with
  | nil => rfl
  | cons b l ih =>
    rw [if_neg (by simp)]
    cases l with
    | nil => simp [commas]
    | cons c l =>
      rw [if_neg (by simp)] at ih
      show b ++ [44, 32] ++ commas (c :: l ++ [a]) = b ++ [44, 32] ++ commas (c :: l) ++ ([44, 32] ++ a)
      rw [ih]
      simp [List.append_assoc]
theorem commas_le (l1 l2 : List (List UInt8)) : (commas l1).length ≤ (commas (l1 ++ l2)).length := by
  induction l2 generalizing l1 with
  | nil => simp
  | cons a l2 ih =>
    have h := ih (l1 ++ [a])
    rw [List.append_assoc] at h
    refine Nat.le_trans ?_ h
    rw [commas_snoc]
    split
    · rename_i h; rw [h]; simp [commas]
    · simp only [List.length_append]; omega
/-- The parts' texts so far. -/
noncomputable def comT (n : Nat) (x : Ex) (k : Nat) : List UInt8 := commas ((x.sub.take k).map fun y => pexT n y 0)
theorem comT_zero (n : Nat) (x : Ex) : comT n x 0 = [] := by simp [comT, commas]
theorem comT_one (n : Nat) (x : Ex) (h : 0 < x.sub.length) : comT n x 1 = pexT n x.sub[0] 0 := by
  unfold comT
  rw [List.take_succ_eq_append_getElem h]; simp [commas]
theorem comT_succ (n : Nat) (x : Ex) (k : Nat) (h : k < x.sub.length) (h0 : 0 < k) : comT n x (k + 1) = comT n x k ++ ([44, 32] ++ pexT n x.sub[k] 0) := by
  unfold comT
  rw [List.take_succ_eq_append_getElem h, List.map_append, List.map_singleton, commas_snoc, if_neg (by
    intro e
    have e2 := congrArg List.length e
    rw [List.length_map, List.length_take, List.length_nil] at e2
    omega)]
theorem comT_le (n : Nat) (x : Ex) (k : Nat) : (comT n x k).length ≤ (commas (x.sub.map fun y => pexT n y 0)).length := by
  have e : x.sub.map (fun y => pexT n y 0) = (x.sub.take k).map (fun y => pexT n y 0) ++ (x.sub.drop k).map (fun y => pexT n y 0) := by rw [← List.map_append, List.take_append_drop]
  rw [e]
  exact commas_le _ _
theorem comT_all (n : Nat) (x : Ex) (k : Nat) (h : x.sub.length ≤ k) : comT n x k = commas (x.sub.map fun y => pexT n y 0) := by
  unfold comT; rw [List.take_of_length_le h]
theorem pexT_word (n : Nat) (x : Ex) (least : Int) (hk : HasWd x.kind) (hl : least ≤ 2) : pexT (n + 1) x least = wdL x.kind ++ ([40] ++ (commas (x.sub.map fun y => pexT n y 0) ++ [41])) := by
  have : opO x.kind = 2 := by unfold opO; unfold HasWd at hk; rw [if_neg (by omega), if_neg (by omega), if_neg (by omega)]
  rw [pexT, this, parT, if_neg (by simp; omega), if_neg (by unfold HasWd at hk; omega), if_neg (by unfold HasWd at hk; omega)]
  simp
/-- The parts that are written so far. -/
def ComR (Wb : World) (B b : Nat) (m : Value) (n : Nat) (x : Ex) (l wd : List UInt8) (V : World) (len : Nat) (iv : Value) (wr : World) : Prop :=
  ∃ k : Nat, k ≤ len ∧ iv = .int .i64 (k : Int) ∧ OutEnv Wb B b m (l ++ (wd ++ [40]) ++ comT n x k) wr ∧ OutK B b V wr
theorem wdL_short (k : Int) : (wdL k).length ≤ 5 := by
  unfold wdL
  (repeat' split) <;> simp

set_option maxHeartbeats 1600000 in
set_option maxRecDepth 100000 in
theorem expr_word {Wb : World} {B b : Nat} {m : Value} {n : Nat} (ih : ExprC Wb B b m n) (x : Ex) (cs : List Value) (least : Int) (l : List UInt8) (w : World) (hk : HasWd x.kind) (ho : ∀ y ∈ x.sub, OkX n y)
    (h : ExAt (n + 1) Wb cs x) (hl : least ≤ 2) (hs : x.sub.length ≤ 1000) (he : OutEnv Wb B b m l w) (hlen : l.length + (pexT (n + 1) x least).length ≤ 1000000000) :
    Calls Tryz.prog 14 #[.pointer (some ⟨b, 0, none⟩), .agg cs.toArray, .int .i64 least] w (WrP B b m (l ++ pexT (n + 1) x least) w) := by
  rw [pexT_word n x least hk hl] at hlen ⊢
  have hwz := wdL_short x.kind
  obtain ⟨wd, hwd⟩ : ∃ wd, wd = wdL x.kind := ⟨_, rfl⟩
  have hlook : ∀ W, WordsAt m W → (Instr.lookup 40 m (.int .u8 x.kind) false).run Tryz.prog W = .ok (.string ⟨wd.toArray⟩) W := fun W h => by rw [hwd]; exact h.look hk
  rw [← hwd] at hlen hwz ⊢
  have HCM : Hid (∀ k, (comT n x k).length ≤ (commas (x.sub.map fun y => pexT n y 0)).length) := comT_le n x
  have HALL : Hid (∀ k, x.sub.length ≤ k → comT n x k = commas (x.sub.map fun y => pexT n y 0)) := comT_all n x
  obtain ⟨Z, hZ⟩ : ∃ Z, Z = commas (x.sub.map fun y => pexT n y 0) := ⟨_, rfl⟩
  rw [← hZ] at hlen HCM HALL ⊢
  simp only [List.length_append, List.length_cons, List.length_nil] at hlen
  obtain ⟨a, len, cap, rfl, hlen2, hsub⟩ := h
  have k4 : x.kind ≠ 4 := by unfold HasWd at hk; omega
  have k5 : x.kind ≠ 5 := by unfold HasWd at hk; omega
  have k6 : x.kind ≠ 6 := by unfold HasWd at hk; omega
  have k1 : ((x.kind : Int) == 1) = false := op_beq_no (by unfold HasWd at hk; omega)
  have k2 : ((x.kind : Int) == 2) = false := op_beq_no (by unfold HasWd at hk; omega)
  have k3 : ((x.kind : Int) == 3) = false := op_beq_no (by unfold HasWd at hk; omega)
  have HOP : Hid (∀ W, Calls Tryz.prog 25 #[.int .u8 x.kind] W (fun e w' => e = .returned (.tuple #[.string (ByteArray.mk #[]), .int .i64 2, .int .i64 2]) ∧ W = w')) := fun W => oper_leaf k4 k5 k6 W
  obtain ⟨kd, hkd⟩ : ∃ kd, kd = x.kind := ⟨_, rfl⟩
  rw [← hkd] at HOP k1 k2 k3 hlook ⊢
  have HI := Lib.hid ih
  have HS := Lib.hid hsub
  have HL := Lib.hid hlen2
  have HO := Lib.hid ho
  have HLK := Lib.hid hlook
  have HEN := Lib.hid he
  have hbw := he.lt
  have hlb : len ≤ 1000 := by omega
  clear ih hsub hlen2 ho hlook hwd hZ hk k4 k5 k6 hkd
  show Calls Tryz.prog 14 #[.pointer (some ⟨b, 0, none⟩), .agg #[.int .u8 kd, .string x.rat, .string x.name, .int .i64 x.date, .slice a len cap], .int .i64 least] w _
  go_enter Tryz.func14, Tryz.ntmps14
  go_wp2_with fail
  refine (HOP.out _).mono ?_
  rintro e w' ⟨rfl, rfl⟩
  obtain ⟨W0, hW0⟩ : ∃ W0, W0 = w.alloc (.cells #[.int .u8 kd, .string x.rat, .string x.name, .int .i64 x.date, .slice a len cap] 25) := ⟨_, rfl⟩
  have hbx : W0.heap[w.heap.size]? = some (.cells #[.int .u8 kd, .string x.rat, .string x.name, .int .i64 x.date, .slice a len cap] 25) := by rw [hW0]; exact alloc_at _ _
  have hE0 : OutEnv Wb B b m l W0 := by rw [hW0]; exact HEN.out.below (own_below w _)
  have hK0 : OutK B b w W0 := by rw [hW0]; exact OutK.below (own_below w _) HEN.out.size
  rw [← hW0]
  have HE0 := Lib.hid hE0
  have HK0 := Lib.hid hK0
  have HBX := Lib.hid hbx
  obtain ⟨b0, b1, b2, b3, b4⟩ := exCells hbx
  have hbm : W0.cell? ⟨b, 2, none⟩ = some m := by
    obtain ⟨p, hp⟩ := hE0.out.at
    obtain ⟨_, v, hv, _⟩ := hp
    rw [Lib.cell_of_heap hv]; rfl
  have hlk0 := HLK.out W0.drew hE0.words
  have SB : ∀ W, Below W0.heap.size W0 W → W.cell? ⟨b, 2, none⟩ = some m ∧ W.cell? ⟨w.heap.size, 0, none⟩ = some (.int .u8 kd) := fun W hW =>
    ⟨((bcell hW).1 _ _ hE0.lt).trans hbm, ((bcell hW).1 _ _ (Array.getElem?_eq_some_iff.1 hbx).1).trans b0⟩
  have HSB := Lib.hid SB
  have HC0 : Hid (Below W0.heap.size W0 W0) := Below.refl _ W0
  have HC : Hid (Below W0.heap.size W0 W0.drew) := (Below.refl _ W0).drew
  have dle : decide ((2 : Int) < least) = false := by simp; omega
  have hbz := hE0.lt
  have hxz : w.heap.size < W0.heap.size := (Array.getElem?_eq_some_iff.1 hbx).1
  have HED : Hid (OutEnv Wb B b m l W0.drew) := hE0.below (Below.refl _ W0).drew
  have HKD : Hid (OutK B b w W0.drew) := hK0.drew
  clear hW0 hbx hE0 hK0 SB
  go_wp2_with fail
  go_region_held3 (fun W => W.cell? ⟨b, 2, none⟩ = some m ∧ W.cell? ⟨w.heap.size, 0, none⟩ = some (.int .u8 kd))
    ((first | with_reducible exact HSB.out _ HC.out | with_reducible exact HSB.out _ HC0.out | with_reducible exact HSB.out _ (HC.out.alloc HC.out.size _) | with_reducible exact HSB.out _ ((HC0.out.alloc HC0.out.size _).drew) | with_reducible exact HSZ.out))
    ((go_at_call 26; refine (put2 B b m l ⟨wd.toArray⟩ (ByteArray.mk #[40]) _ HED.out.out (by show l.length + (wd.length + 1) ≤ _; omega) HED.out.size).mono ?_; rintro e V ⟨rfl, hio, hok⟩; have HEV := Lib.hid (HED.out.step hio hok); have HKV := Lib.hid (HKD.out.trans hok); have HBXV := Lib.hid (boxed_kept HBX.out (OutK.trans (OutK.drew (OutK.refl B b W0)) hok) (by omega)); have HVW := HEV.out.out.at; obtain ⟨pV, _, vV, hvV, _⟩ := HVW; have HSZ := Lib.hid (And.intro (show V.cell? ⟨b, 2, none⟩ = some m by rw [Lib.cell_of_heap hvV]; rfl) (exCells HBXV.out).1); clear hio hok hvV))
  obtain ⟨c0, c1, c2, c3, c4⟩ := exCells HBXV.out
  have hVz := HEV.out.size
  clear b0 b1 b2 b3 b4 hbm hlk0
  go_wp2_with fail
  go_loopw [9, 10, 39] (fun _ _ iv wr => ComR Wb B b m n x l wd V len iv wr) (fun _ _ iv _ => len - (intOf iv).toNat)
  case atStart => exact ⟨0, Nat.zero_le _, rfl, by rw [comT_zero]; simpa using HEV.out, OutK.refl _ _ _⟩
  case round =>
    obtain ⟨w1, rfl⟩ : ∃ w1 : World, w1 = wr := ⟨_, rfl⟩
    obtain ⟨k, hk, rfl, hen, hok⟩ := hrel
    have HE := Lib.hid hen
    have HK := Lib.hid hok
    have hbz1 := hen.lt
    clear hen hok
    by_cases hlt : k < len
    · have hlt2 : k < x.sub.length := by rw [HL.out]; exact hlt
      rcases HS.out with h0 | ⟨g, o, ha, hg, hel⟩
      · omega
      · subst ha
        obtain ⟨p1, l1, cc, ⟨e0, e1, e2, e3, e4⟩, hx1⟩ := ExAt.part hg HE.out.old hlt2 hel
        have hoy := HO.out _ (List.getElem_mem hlt2)
        have q1 := HCM.out (k + 1)
        have zg : g < w1.heap.size := Nat.lt_of_lt_of_le hg HE.out.old.size
        by_cases hk0 : k = 0
        · subst hk0
          have hT := comT_one n x hlt2
          obtain ⟨y, hy⟩ : ∃ y, y = x.sub[0] := ⟨_, rfl⟩
          rw [← hy] at e0 e1 e2 e3 hx1 hoy hT
          rw [hT] at q1
          have HT := Lib.hid hT
          have hC := HI.out y _ 0 (l ++ (wd ++ [40])) (w1.alloc (.cells #[.int .u8 y.kind, .string y.rat, .string y.name, .int .i64 y.date, .slice p1 l1 cc] 25)) hx1 hoy (by omega) (by omega) (by
            have := HE.out.below (own_below w1 (.cells #[.int .u8 y.kind, .string y.rat, .string y.name, .int .i64 y.date, .slice p1 l1 cc] 25))
            rwa [comT_zero, List.append_nil] at this) (by simp only [List.length_append, List.length_cons, List.length_nil]; omega)
          have HC := Lib.hid hC
          have HOA := Lib.hid (HK.out.alloc HE.out.size (.cells #[.int .u8 y.kind, .string y.rat, .string y.name, .int .i64 y.date, .slice p1 l1 cc] 25))
          have HEA := Lib.hid (HE.out.below (own_below w1 (.cells #[.int .u8 y.kind, .string y.rat, .string y.name, .int .i64 y.date, .slice p1 l1 cc] 25)))
          simp only [Nat.zero_mul, Nat.add_zero] at e0 e1 e2 e3 e4
          clear hC hT hx1 hoy hy q1 hel
          go_wp2_with fail
          refine HC.out.mono ?_
          rintro e w2 ⟨rfl, hio, hok⟩
          have HR : Hid (OutEnv Wb B b m (l ++ (wd ++ [40]) ++ comT n x (0 + 1)) w2 ∧ OutK B b V w2) := ⟨by
            have q := HEA.out.step hio hok
            rw [comT_zero, List.append_nil] at *
            rw [show comT n x (0 + 1) = comT n x 1 from rfl, HT.out]
            exact q, HOA.out.trans hok⟩
          clear hio hok e0 e1 e2 e3 e4
          go_wp2_with fail
          go_roundw
          case rel => exact ⟨0 + 1, by omega, by go_num, HR.out.1, HR.out.2⟩
          case measure => simp [intOf] <;> omega
        · have hk1 : 0 < k := by omega
          have hT := comT_succ n x k hlt2 hk1
          obtain ⟨y, hy⟩ : ∃ y, y = x.sub[k] := ⟨_, rfl⟩
          rw [← hy] at e0 e1 e2 e3 hx1 hoy hT
          rw [hT] at q1
          have HT := Lib.hid hT
          simp only [List.length_append, List.length_cons, List.length_nil] at q1
          obtain ⟨V1, hV1⟩ : ∃ V1, V1 = w1.alloc (.cells #[.int .u8 y.kind, .string y.rat, .string y.name, .int .i64 y.date, .slice p1 l1 cc] 25) := ⟨_, rfl⟩
          have hbv : V1.heap[w1.heap.size]? = some (.cells #[.int .u8 y.kind, .string y.rat, .string y.name, .int .i64 y.date, .slice p1 l1 cc] 25) := by rw [hV1]; exact alloc_at _ _
          have hEA : OutEnv Wb B b m (l ++ (wd ++ [40]) ++ comT n x k) V1 := by rw [hV1]; exact HE.out.below (own_below w1 _)
          have hOA : OutK B b V V1 := by rw [hV1]; exact HK.out.alloc HE.out.size _
          have hP := put1 B b m _ (ByteArray.mk #[44, 32]) V1 hEA.out (by show _ + 2 ≤ _; simp only [List.length_append, List.length_cons, List.length_nil]; omega) hEA.size
          have hVz : V1.heap.size = w1.heap.size + 1 := by rw [hV1]; simp
          rw [hVz] at hP
          have HP := Lib.hid hP
          clear hP hVz
          have HBV := Lib.hid hbv
          have HEA := Lib.hid hEA
          have HOA := Lib.hid hOA
          have HV := Lib.hid hV1
          have HX1 := Lib.hid hx1
          have HOY := Lib.hid hoy
          clear hT hx1 hoy hy hel hbv hEA hOA hV1
          have hd : decide ((0 : Int) < (k : Int)) = true := by simp; omega
          go_wp2_with fail
          rw [← HV.out]
          clear HV
          refine HP.out.mono ?_
          rintro e V2 ⟨rfl, hio, hok⟩
          have hEB := HEA.out.step hio hok
          have hbx2 := boxed_kept HBV.out hok (by omega)
          obtain ⟨f0, f1, f2, f3, f4⟩ := exCells hbx2
          have HC := Lib.hid (HI.out y _ 0 _ V2 HX1.out HOY.out (by omega) (by omega) hEB (by show (_ ++ [44, 32]).length + _ ≤ _; simp only [List.length_append, List.length_cons, List.length_nil]; omega))
          have HEB := Lib.hid hEB
          have HOB := Lib.hid (HOA.out.trans hok)
          clear hio hok hEB hbx2 e0 e1 e2 e3 e4
          go_wp2_with fail
          refine HC.out.mono ?_
          rintro e w2 ⟨rfl, hio, hok⟩
          have HR : Hid (OutEnv Wb B b m (l ++ (wd ++ [40]) ++ comT n x (k + 1)) w2 ∧ OutK B b V w2) := ⟨by
            have q := HEB.out.step hio hok
            rw [HT.out]
            simpa only [List.append_assoc] using q, HOB.out.trans hok⟩
          clear hio hok f0 f1 f2 f3 f4
          go_wp2_with fail
          go_roundw
          case rel => exact ⟨k + 1, by omega, by go_num, HR.out.1, HR.out.2⟩
          case measure => simp [intOf] <;> omega
    · have HT := Lib.hid (HALL.out k (by rw [HL.out]; omega))
      have hP := put1 B b m _ (ByteArray.mk #[41]) w1 HE.out.out (by
        show _ + 1 ≤ _
        rw [HT.out]
        simp only [List.length_append, List.length_cons, List.length_nil]; omega) HE.out.size
      have HP := Lib.hid hP
      clear hP
      go_wp2_with fail
      refine HP.out.mono ?_
      rintro e w2 ⟨rfl, hio, hok⟩
      have HF : Hid (WrP B b m (l ++ (wd ++ ([40] ++ (Z ++ [41])))) w (.returned (.tuple #[])) w2) := ⟨rfl, by rw [HT.out] at hio; simpa [List.append_assoc] using hio, HKV.out.trans (HK.out.trans hok)⟩
      clear hio hok
      go_wp2_with fail
      go_end0
      exact HF.out

end Go.Proofs.YtdgmpgejemgbbaaGreatDoor
