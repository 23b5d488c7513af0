/-
  (*out).expr walked: of an operator. No condition but lengths.
-/
import Derived.Test.YtdgmpgejemgbbaaGreatDoorOd
namespace Go.Proofs.YtdgmpgejemgbbaaGreatDoor
open Go.RowKit

/-- Of these kinds, days, parts. -/
def OkX : Nat → Ex → Prop
  | 0, _ => False
  | n + 1, x => (x.kind = 1 ∨ (x.kind = 2 ∧ 0 ≤ x.date ∧ x.date ≤ 99999) ∨ x.kind = 3 ∨ ((x.kind = 4 ∨ x.kind = 5 ∨ x.kind = 6) ∧ x.sub.length = 2) ∨ (HasWd x.kind ∧ x.sub.length ≤ 3)) ∧ ∀ y ∈ x.sub, OkX n y
/-- What stands while a text is written: the tree's memory (Wb), the collector, its words. -/
structure OutEnv (Wb : World) (B b : Nat) (m : Value) (l : List UInt8) (w : World) : Prop where
  base : Wb.heap.size ≤ B
  old : Below Wb.heap.size Wb w
  out : IsOut B b m l w
  words : WordsAt m w
  size : B ≤ w.heap.size
theorem OutEnv.step {Wb : World} {B b : Nat} {m : Value} {l l' : List UInt8} {w w' : World} (h : OutEnv Wb B b m l w) (ho : IsOut B b m l' w') (hk : OutK B b w w') : OutEnv Wb B b m l' w' := by
  obtain ⟨p, hp⟩ := h.out.at
  exact ⟨h.base, h.old.trans (hk.1.mono h.base), ho, h.words.keep hk hp, Nat.le_trans h.size hk.1.size⟩
theorem OutEnv.below {Wb : World} {B b : Nat} {m : Value} {l : List UInt8} {w w' : World} (h : OutEnv Wb B b m l w) (hb : Below w.heap.size w w') : OutEnv Wb B b m l w' :=
  ⟨h.base, h.old.trans (hb.mono (Nat.le_trans h.base h.size)), h.out.below hb, h.words.below hb, Nat.le_trans h.size hb.size⟩
theorem OutEnv.lt {Wb : World} {B b : Nat} {m : Value} {l : List UInt8} {w : World} (h : OutEnv Wb B b m l w) : b < w.heap.size := by
  obtain ⟨p, hp⟩ := h.out.at; exact hp.lt
/-- A part's cells, in a later world. -/
theorem ExAt.part {n : Nat} {w w1 : World} {g o k : Nat} {x : Ex} (hg : g < w.heap.size) (hb : Below w.heap.size w w1) (hk : k < x.sub.length)
    (hel : ∀ i (hi : i < x.sub.length), ∃ cs', (∀ j, j < 5 → w.cell? ⟨g, o + i * 5 + j, none⟩ = cs'[j]?) ∧ ExAt n w cs' x.sub[i]) :
    ∃ a l c, (w1.cell? ⟨g, o + k * 5, none⟩ = some (.int .u8 x.sub[k].kind) ∧ w1.cell? ⟨g, o + k * 5 + 1, none⟩ = some (.string x.sub[k].rat) ∧ w1.cell? ⟨g, o + k * 5 + 2, none⟩ = some (.string x.sub[k].name) ∧ w1.cell? ⟨g, o + k * 5 + 3, none⟩ = some (.int .i64 x.sub[k].date) ∧ w1.cell? ⟨g, o + k * 5 + 4, none⟩ = some (.slice a l c)) ∧
      ExAt n w [.int .u8 x.sub[k].kind, .string x.sub[k].rat, .string x.sub[k].name, .int .i64 x.sub[k].date, .slice a l c] x.sub[k] := by
  obtain ⟨cs', hcell, hx⟩ := hel k hk
  obtain ⟨a, l, c, hcs, _⟩ := hx.shape
  have hat : ∀ j, j < 5 → w1.cell? ⟨g, o + k * 5 + j, none⟩ = cs'[j]? := fun j hj => ((bcell hb).1 g _ hg).trans (hcell j hj)
  rw [hcs] at hat hx
  exact ⟨a, l, c, ⟨hat 0 (by omega), hat 1 (by omega), hat 2 (by omega), hat 3 (by omega), hat 4 (by omega)⟩, hx⟩
/-- The contract of expr at trees of a depth. -/
def ExprC (Wb : World) (B b : Nat) (m : Value) (n : Nat) : Prop :=
  ∀ (x : Ex) (cs : List Value) (least : Int) (l : List UInt8) (w : World), ExAt n Wb cs x → OkX n x → 0 ≤ least → least ≤ 2 → OutEnv Wb B b m l w → l.length + (pexT n x least).length ≤ 1000000000 →
    Calls Tryz.prog 14 #[.pointer (some ⟨b, 0, none⟩), .agg cs.toArray, .int .i64 least] w (WrP B b m (l ++ pexT n x least) w)
theorem boxed_kept {w w' : World} {B b i : Nat} {a0 a1 a2 a3 a4 : Value} (h : w.heap[i]? = some (.cells #[a0, a1, a2, a3, a4] 25)) (hk : OutK B b w w') (hib : i ≠ b) : w'.heap[i]? = some (.cells #[a0, a1, a2, a3, a4] 25) :=
  hk.2 i _ h (by simpa using hib) (by intro c fz e; simp at e)

set_option maxHeartbeats 4000000 in
set_option maxRecDepth 100000 in
theorem expr_op4_0 {Wb : World} {B b : Nat} {m : Value} {n : Nat} (ih : ExprC Wb B b m n) (r nm : ByteArray) (d : Int) (x0 x1 : Ex) (cs : List Value) (least : Int) (l : List UInt8) (w : World)
    (h : ExAt (n + 1) Wb cs (Ex.mk 4 r nm d [x0, x1])) (ho0 : OkX n x0) (ho1 : OkX n x1) (hl : least = 0) (he : OutEnv Wb B b m l w) (hlen : l.length + (pexT (n + 1) (Ex.mk 4 r nm d [x0, x1]) least).length ≤ 1000000000) :
    Calls Tryz.prog 14 #[.pointer (some ⟨b, 0, none⟩), .agg cs.toArray, .int .i64 least] w (WrP B b m (l ++ pexT (n + 1) (Ex.mk 4 r nm d [x0, x1]) least) w) := by
  subst hl
  have hpt : pexT (n + 1) (Ex.mk 4 r nm d [x0, x1]) 0 = pexT n x0 0 ++ ([32, 43, 32] ++ pexT n x1 1) := by
    rw [pexT]; simp [parT, opO, opS, opN, Ex.kind, prt, Ex.sub]
  rw [hpt] at hlen ⊢
  obtain ⟨t0, ht0⟩ : ∃ t, t = pexT n x0 0 := ⟨_, rfl⟩
  obtain ⟨t1, ht1⟩ : ∃ t, t = pexT n x1 1 := ⟨_, rfl⟩
  rw [← ht0, ← ht1] at hlen ⊢
  simp only [List.length_append, List.length_cons, List.length_nil] at hlen
  obtain ⟨a, len, cap, rfl, hlen2, hsub⟩ := h
  obtain rfl : len = 2 := hlen2.symm
  rcases hsub with h0 | ⟨g, o, rfl, hg, hel⟩
  · omega
  have HOP : Hid (∀ W, Calls Tryz.prog 25 #[.int .u8 4] W (fun e w' => e = .returned (.tuple #[.string (ByteArray.mk #[32, 43, 32]), .int .i64 0, .int .i64 1]) ∧ W = w')) := fun W => oper_any 4 W
  have HI := Lib.hid ih
  have HE := Lib.hid hel
  have HG := Lib.hid hg
  have HO0 := Lib.hid ho0
  have HO1 := Lib.hid ho1
  have HT0 := Lib.hid ht0
  have HT1 := Lib.hid ht1
  have HEN := Lib.hid he
  have hbw := he.lt
  clear ih hel hg ho0 ho1 ht0 ht1 hlen2 hpt
  show Calls Tryz.prog 14 #[.pointer (some ⟨b, 0, none⟩), .agg #[.int .u8 4, .string r, .string nm, .int .i64 d, .slice (some ⟨g, o, none⟩) 2 cap], .int .i64 0] w _
  go_enter Tryz.func14, Tryz.ntmps14
  go_wp2_with fail
  refine (HOP.out _).mono ?_
  rintro e w' ⟨rfl, rfl⟩
  obtain ⟨W0, hW0⟩ : ∃ W0, W0 = w.alloc (.cells #[.int .u8 4, .string r, .string nm, .int .i64 d, .slice (some ⟨g, o, none⟩) 2 cap] 25) := ⟨_, rfl⟩
  have hbx : W0.heap[w.heap.size]? = some (.cells #[.int .u8 4, .string r, .string nm, .int .i64 d, .slice (some ⟨g, o, none⟩) 2 cap] 25) := by rw [hW0]; exact alloc_at _ _
  have hE0 : OutEnv Wb B b m l W0 := by rw [hW0]; exact HEN.out.below (own_below w _)
  have hK0 : OutK B b w W0 := by rw [hW0]; exact OutK.below (own_below w _) HEN.out.size
  rw [← hW0]
  have HE0 := Lib.hid hE0
  have HBX := Lib.hid hbx
  have HK0 := Lib.hid hK0
  obtain ⟨p0, l0, c0, ⟨e00, e01, e02, e03, e04⟩, hx0⟩ := ExAt.part (k := 0) (x := Ex.mk 4 r nm d [x0, x1]) HG.out hE0.old (show 0 < 2 by decide) HE.out
  simp only [Nat.zero_mul, Nat.add_zero, Ex.sub, List.getElem_cons_zero] at e00 e01 e02 e03 e04 hx0
  have b4 : W0.cell? ⟨w.heap.size, 4, none⟩ = some (.slice (some ⟨g, o, none⟩) 2 cap) := (exCells hbx).2.2.2.2
  have HC0 := Lib.hid (HI.out x0 _ 0 l W0 hx0 HO0.out (by omega) (by omega) hE0 (by rw [← HT0.out]; omega))
  rw [← HT0.out] at HC0
  clear hW0 hbx hE0 hK0 hx0
  go_wp2_with fail
  refine HC0.out.mono ?_
  rintro e W1 ⟨rfl, hio1, hok1⟩
  have hE1 := HE0.out.step hio1 hok1
  have HBX1 := Lib.hid (boxed_kept HBX.out hok1 (by omega))
  have HK1 := Lib.hid (HK0.out.trans hok1)
  have HE1 := Lib.hid hE1
  have HC1 := Lib.hid (put1 B b m (l ++ t0) (ByteArray.mk #[32, 43, 32]) W1 hio1 (by show (l ++ t0).length + 3 ≤ _; rw [List.length_append]; omega) hE1.size)
  have b4' : W1.cell? ⟨w.heap.size, 4, none⟩ = some (.slice (some ⟨g, o, none⟩) 2 cap) := (exCells HBX1.out).2.2.2.2
  clear hio1 hok1 hE1 e00 e01 e02 e03 e04 b4
  go_wp2_with fail
  refine HC1.out.mono ?_
  rintro e W2 ⟨rfl, hio2, hok2⟩
  have hE2 := HE1.out.step hio2 hok2
  have HBX2 := Lib.hid (boxed_kept HBX1.out hok2 (by omega))
  have HK2 := Lib.hid (HK1.out.trans hok2)
  obtain ⟨p1, l1, c1, ⟨f0, f1, f2, f3, f4⟩, hx1⟩ := ExAt.part (k := 1) (x := Ex.mk 4 r nm d [x0, x1]) HG.out hE2.old (show 1 < 2 by decide) HE.out
  simp only [Nat.one_mul, Ex.sub, List.getElem_cons_succ, List.getElem_cons_zero] at f0 f1 f2 f3 f4 hx1
  have b4'' : W2.cell? ⟨w.heap.size, 4, none⟩ = some (.slice (some ⟨g, o, none⟩) 2 cap) := (exCells HBX2.out).2.2.2.2
  have HC2 := Lib.hid (HI.out x1 _ 1 _ W2 hx1 HO1.out (by omega) (by omega) hE2 (by rw [← HT1.out]; simp only [List.length_append]; show l.length + t0.length + 3 + _ ≤ _; omega))
  rw [← HT1.out] at HC2
  clear hio2 hok2 hE2 hx1 b4'
  go_wp2_with fail
  refine HC2.out.mono ?_
  rintro e W3 ⟨rfl, hio3, hok3⟩
  have HF : Hid (WrP B b m (l ++ (t0 ++ ([32, 43, 32] ++ t1))) w (.returned (.tuple #[])) W3) := ⟨rfl, by simpa [List.append_assoc] using hio3, HK2.out.trans hok3⟩
  clear hio3 hok3 f0 f1 f2 f3 f4 b4''
  go_wp2_with fail
  go_end0
  exact HF.out

set_option maxHeartbeats 4000000 in
set_option maxRecDepth 100000 in
theorem expr_op5_0 {Wb : World} {B b : Nat} {m : Value} {n : Nat} (ih : ExprC Wb B b m n) (r nm : ByteArray) (d : Int) (x0 x1 : Ex) (cs : List Value) (least : Int) (l : List UInt8) (w : World)
    (h : ExAt (n + 1) Wb cs (Ex.mk 5 r nm d [x0, x1])) (ho0 : OkX n x0) (ho1 : OkX n x1) (hl : least = 0) (he : OutEnv Wb B b m l w) (hlen : l.length + (pexT (n + 1) (Ex.mk 5 r nm d [x0, x1]) least).length ≤ 1000000000) :
    Calls Tryz.prog 14 #[.pointer (some ⟨b, 0, none⟩), .agg cs.toArray, .int .i64 least] w (WrP B b m (l ++ pexT (n + 1) (Ex.mk 5 r nm d [x0, x1]) least) w) := by
  subst hl
  have hpt : pexT (n + 1) (Ex.mk 5 r nm d [x0, x1]) 0 = pexT n x0 0 ++ ([32, 45, 32] ++ pexT n x1 1) := by
    rw [pexT]; simp [parT, opO, opS, opN, Ex.kind, prt, Ex.sub]
  rw [hpt] at hlen ⊢
  obtain ⟨t0, ht0⟩ : ∃ t, t = pexT n x0 0 := ⟨_, rfl⟩
  obtain ⟨t1, ht1⟩ : ∃ t, t = pexT n x1 1 := ⟨_, rfl⟩
  rw [← ht0, ← ht1] at hlen ⊢
  simp only [List.length_append, List.length_cons, List.length_nil] at hlen
  obtain ⟨a, len, cap, rfl, hlen2, hsub⟩ := h
  obtain rfl : len = 2 := hlen2.symm
  rcases hsub with h0 | ⟨g, o, rfl, hg, hel⟩
  · omega
  have HOP : Hid (∀ W, Calls Tryz.prog 25 #[.int .u8 5] W (fun e w' => e = .returned (.tuple #[.string (ByteArray.mk #[32, 45, 32]), .int .i64 0, .int .i64 1]) ∧ W = w')) := fun W => oper_any 5 W
  have HI := Lib.hid ih
  have HE := Lib.hid hel
  have HG := Lib.hid hg
  have HO0 := Lib.hid ho0
  have HO1 := Lib.hid ho1
  have HT0 := Lib.hid ht0
  have HT1 := Lib.hid ht1
  have HEN := Lib.hid he
  have hbw := he.lt
  clear ih hel hg ho0 ho1 ht0 ht1 hlen2 hpt
  show Calls Tryz.prog 14 #[.pointer (some ⟨b, 0, none⟩), .agg #[.int .u8 5, .string r, .string nm, .int .i64 d, .slice (some ⟨g, o, none⟩) 2 cap], .int .i64 0] w _
  go_enter Tryz.func14, Tryz.ntmps14
  go_wp2_with fail
  refine (HOP.out _).mono ?_
  rintro e w' ⟨rfl, rfl⟩
  obtain ⟨W0, hW0⟩ : ∃ W0, W0 = w.alloc (.cells #[.int .u8 5, .string r, .string nm, .int .i64 d, .slice (some ⟨g, o, none⟩) 2 cap] 25) := ⟨_, rfl⟩
  have hbx : W0.heap[w.heap.size]? = some (.cells #[.int .u8 5, .string r, .string nm, .int .i64 d, .slice (some ⟨g, o, none⟩) 2 cap] 25) := by rw [hW0]; exact alloc_at _ _
  have hE0 : OutEnv Wb B b m l W0 := by rw [hW0]; exact HEN.out.below (own_below w _)
  have hK0 : OutK B b w W0 := by rw [hW0]; exact OutK.below (own_below w _) HEN.out.size
  rw [← hW0]
  have HE0 := Lib.hid hE0
  have HBX := Lib.hid hbx
  have HK0 := Lib.hid hK0
  obtain ⟨p0, l0, c0, ⟨e00, e01, e02, e03, e04⟩, hx0⟩ := ExAt.part (k := 0) (x := Ex.mk 5 r nm d [x0, x1]) HG.out hE0.old (show 0 < 2 by decide) HE.out
  simp only [Nat.zero_mul, Nat.add_zero, Ex.sub, List.getElem_cons_zero] at e00 e01 e02 e03 e04 hx0
  have b4 : W0.cell? ⟨w.heap.size, 4, none⟩ = some (.slice (some ⟨g, o, none⟩) 2 cap) := (exCells hbx).2.2.2.2
  have HC0 := Lib.hid (HI.out x0 _ 0 l W0 hx0 HO0.out (by omega) (by omega) hE0 (by rw [← HT0.out]; omega))
  rw [← HT0.out] at HC0
  clear hW0 hbx hE0 hK0 hx0
  go_wp2_with fail
  refine HC0.out.mono ?_
  rintro e W1 ⟨rfl, hio1, hok1⟩
  have hE1 := HE0.out.step hio1 hok1
  have HBX1 := Lib.hid (boxed_kept HBX.out hok1 (by omega))
  have HK1 := Lib.hid (HK0.out.trans hok1)
  have HE1 := Lib.hid hE1
  have HC1 := Lib.hid (put1 B b m (l ++ t0) (ByteArray.mk #[32, 45, 32]) W1 hio1 (by show (l ++ t0).length + 3 ≤ _; rw [List.length_append]; omega) hE1.size)
  have b4' : W1.cell? ⟨w.heap.size, 4, none⟩ = some (.slice (some ⟨g, o, none⟩) 2 cap) := (exCells HBX1.out).2.2.2.2
  clear hio1 hok1 hE1 e00 e01 e02 e03 e04 b4
  go_wp2_with fail
  refine HC1.out.mono ?_
  rintro e W2 ⟨rfl, hio2, hok2⟩
  have hE2 := HE1.out.step hio2 hok2
  have HBX2 := Lib.hid (boxed_kept HBX1.out hok2 (by omega))
  have HK2 := Lib.hid (HK1.out.trans hok2)
  obtain ⟨p1, l1, c1, ⟨f0, f1, f2, f3, f4⟩, hx1⟩ := ExAt.part (k := 1) (x := Ex.mk 5 r nm d [x0, x1]) HG.out hE2.old (show 1 < 2 by decide) HE.out
  simp only [Nat.one_mul, Ex.sub, List.getElem_cons_succ, List.getElem_cons_zero] at f0 f1 f2 f3 f4 hx1
  have b4'' : W2.cell? ⟨w.heap.size, 4, none⟩ = some (.slice (some ⟨g, o, none⟩) 2 cap) := (exCells HBX2.out).2.2.2.2
  have HC2 := Lib.hid (HI.out x1 _ 1 _ W2 hx1 HO1.out (by omega) (by omega) hE2 (by rw [← HT1.out]; simp only [List.length_append]; show l.length + t0.length + 3 + _ ≤ _; omega))
  rw [← HT1.out] at HC2
  clear hio2 hok2 hE2 hx1 b4'
  go_wp2_with fail
  refine HC2.out.mono ?_
  rintro e W3 ⟨rfl, hio3, hok3⟩
  have HF : Hid (WrP B b m (l ++ (t0 ++ ([32, 45, 32] ++ t1))) w (.returned (.tuple #[])) W3) := ⟨rfl, by simpa [List.append_assoc] using hio3, HK2.out.trans hok3⟩
  clear hio3 hok3 f0 f1 f2 f3 f4 b4''
  go_wp2_with fail
  go_end0
  exact HF.out

set_option maxHeartbeats 4000000 in
set_option maxRecDepth 100000 in
theorem expr_op6_0 {Wb : World} {B b : Nat} {m : Value} {n : Nat} (ih : ExprC Wb B b m n) (r nm : ByteArray) (d : Int) (x0 x1 : Ex) (cs : List Value) (least : Int) (l : List UInt8) (w : World)
    (h : ExAt (n + 1) Wb cs (Ex.mk 6 r nm d [x0, x1])) (ho0 : OkX n x0) (ho1 : OkX n x1) (hl : least = 0) (he : OutEnv Wb B b m l w) (hlen : l.length + (pexT (n + 1) (Ex.mk 6 r nm d [x0, x1]) least).length ≤ 1000000000) :
    Calls Tryz.prog 14 #[.pointer (some ⟨b, 0, none⟩), .agg cs.toArray, .int .i64 least] w (WrP B b m (l ++ pexT (n + 1) (Ex.mk 6 r nm d [x0, x1]) least) w) := by
  subst hl
  have hpt : pexT (n + 1) (Ex.mk 6 r nm d [x0, x1]) 0 = pexT n x0 1 ++ ([32, 42, 32] ++ pexT n x1 2) := by
    rw [pexT]; simp [parT, opO, opS, opN, Ex.kind, prt, Ex.sub]
  rw [hpt] at hlen ⊢
  obtain ⟨t0, ht0⟩ : ∃ t, t = pexT n x0 1 := ⟨_, rfl⟩
  obtain ⟨t1, ht1⟩ : ∃ t, t = pexT n x1 2 := ⟨_, rfl⟩
  rw [← ht0, ← ht1] at hlen ⊢
  simp only [List.length_append, List.length_cons, List.length_nil] at hlen
  obtain ⟨a, len, cap, rfl, hlen2, hsub⟩ := h
  obtain rfl : len = 2 := hlen2.symm
  rcases hsub with h0 | ⟨g, o, rfl, hg, hel⟩
  · omega
  have HOP : Hid (∀ W, Calls Tryz.prog 25 #[.int .u8 6] W (fun e w' => e = .returned (.tuple #[.string (ByteArray.mk #[32, 42, 32]), .int .i64 1, .int .i64 2]) ∧ W = w')) := fun W => oper_any 6 W
  have HI := Lib.hid ih
  have HE := Lib.hid hel
  have HG := Lib.hid hg
  have HO0 := Lib.hid ho0
  have HO1 := Lib.hid ho1
  have HT0 := Lib.hid ht0
  have HT1 := Lib.hid ht1
  have HEN := Lib.hid he
  have hbw := he.lt
  clear ih hel hg ho0 ho1 ht0 ht1 hlen2 hpt
  show Calls Tryz.prog 14 #[.pointer (some ⟨b, 0, none⟩), .agg #[.int .u8 6, .string r, .string nm, .int .i64 d, .slice (some ⟨g, o, none⟩) 2 cap], .int .i64 0] w _
  go_enter Tryz.func14, Tryz.ntmps14
  go_wp2_with fail
  refine (HOP.out _).mono ?_
  rintro e w' ⟨rfl, rfl⟩
  obtain ⟨W0, hW0⟩ : ∃ W0, W0 = w.alloc (.cells #[.int .u8 6, .string r, .string nm, .int .i64 d, .slice (some ⟨g, o, none⟩) 2 cap] 25) := ⟨_, rfl⟩
  have hbx : W0.heap[w.heap.size]? = some (.cells #[.int .u8 6, .string r, .string nm, .int .i64 d, .slice (some ⟨g, o, none⟩) 2 cap] 25) := by rw [hW0]; exact alloc_at _ _
  have hE0 : OutEnv Wb B b m l W0 := by rw [hW0]; exact HEN.out.below (own_below w _)
  have hK0 : OutK B b w W0 := by rw [hW0]; exact OutK.below (own_below w _) HEN.out.size
  rw [← hW0]
  have HE0 := Lib.hid hE0
  have HBX := Lib.hid hbx
  have HK0 := Lib.hid hK0
  obtain ⟨p0, l0, c0, ⟨e00, e01, e02, e03, e04⟩, hx0⟩ := ExAt.part (k := 0) (x := Ex.mk 6 r nm d [x0, x1]) HG.out hE0.old (show 0 < 2 by decide) HE.out
  simp only [Nat.zero_mul, Nat.add_zero, Ex.sub, List.getElem_cons_zero] at e00 e01 e02 e03 e04 hx0
  have b4 : W0.cell? ⟨w.heap.size, 4, none⟩ = some (.slice (some ⟨g, o, none⟩) 2 cap) := (exCells hbx).2.2.2.2
  have HC0 := Lib.hid (HI.out x0 _ 1 l W0 hx0 HO0.out (by omega) (by omega) hE0 (by rw [← HT0.out]; omega))
  rw [← HT0.out] at HC0
  clear hW0 hbx hE0 hK0 hx0
  go_wp2_with fail
  refine HC0.out.mono ?_
  rintro e W1 ⟨rfl, hio1, hok1⟩
  have hE1 := HE0.out.step hio1 hok1
  have HBX1 := Lib.hid (boxed_kept HBX.out hok1 (by omega))
  have HK1 := Lib.hid (HK0.out.trans hok1)
  have HE1 := Lib.hid hE1
  have HC1 := Lib.hid (put1 B b m (l ++ t0) (ByteArray.mk #[32, 42, 32]) W1 hio1 (by show (l ++ t0).length + 3 ≤ _; rw [List.length_append]; omega) hE1.size)
  have b4' : W1.cell? ⟨w.heap.size, 4, none⟩ = some (.slice (some ⟨g, o, none⟩) 2 cap) := (exCells HBX1.out).2.2.2.2
  clear hio1 hok1 hE1 e00 e01 e02 e03 e04 b4
  go_wp2_with fail
  refine HC1.out.mono ?_
  rintro e W2 ⟨rfl, hio2, hok2⟩
  have hE2 := HE1.out.step hio2 hok2
  have HBX2 := Lib.hid (boxed_kept HBX1.out hok2 (by omega))
  have HK2 := Lib.hid (HK1.out.trans hok2)
  obtain ⟨p1, l1, c1, ⟨f0, f1, f2, f3, f4⟩, hx1⟩ := ExAt.part (k := 1) (x := Ex.mk 6 r nm d [x0, x1]) HG.out hE2.old (show 1 < 2 by decide) HE.out
  simp only [Nat.one_mul, Ex.sub, List.getElem_cons_succ, List.getElem_cons_zero] at f0 f1 f2 f3 f4 hx1
  have b4'' : W2.cell? ⟨w.heap.size, 4, none⟩ = some (.slice (some ⟨g, o, none⟩) 2 cap) := (exCells HBX2.out).2.2.2.2
  have HC2 := Lib.hid (HI.out x1 _ 2 _ W2 hx1 HO1.out (by omega) (by omega) hE2 (by rw [← HT1.out]; simp only [List.length_append]; show l.length + t0.length + 3 + _ ≤ _; omega))
  rw [← HT1.out] at HC2
  clear hio2 hok2 hE2 hx1 b4'
  go_wp2_with fail
  refine HC2.out.mono ?_
  rintro e W3 ⟨rfl, hio3, hok3⟩
  have HF : Hid (WrP B b m (l ++ (t0 ++ ([32, 42, 32] ++ t1))) w (.returned (.tuple #[])) W3) := ⟨rfl, by simpa [List.append_assoc] using hio3, HK2.out.trans hok3⟩
  clear hio3 hok3 f0 f1 f2 f3 f4 b4''
  go_wp2_with fail
  go_end0
  exact HF.out

set_option maxHeartbeats 4000000 in
set_option maxRecDepth 100000 in
theorem expr_op6_1 {Wb : World} {B b : Nat} {m : Value} {n : Nat} (ih : ExprC Wb B b m n) (r nm : ByteArray) (d : Int) (x0 x1 : Ex) (cs : List Value) (least : Int) (l : List UInt8) (w : World)
    (h : ExAt (n + 1) Wb cs (Ex.mk 6 r nm d [x0, x1])) (ho0 : OkX n x0) (ho1 : OkX n x1) (hl : least = 1) (he : OutEnv Wb B b m l w) (hlen : l.length + (pexT (n + 1) (Ex.mk 6 r nm d [x0, x1]) least).length ≤ 1000000000) :
    Calls Tryz.prog 14 #[.pointer (some ⟨b, 0, none⟩), .agg cs.toArray, .int .i64 least] w (WrP B b m (l ++ pexT (n + 1) (Ex.mk 6 r nm d [x0, x1]) least) w) := by
  subst hl
  have hpt : pexT (n + 1) (Ex.mk 6 r nm d [x0, x1]) 1 = pexT n x0 1 ++ ([32, 42, 32] ++ pexT n x1 2) := by
    rw [pexT]; simp [parT, opO, opS, opN, Ex.kind, prt, Ex.sub]
  rw [hpt] at hlen ⊢
  obtain ⟨t0, ht0⟩ : ∃ t, t = pexT n x0 1 := ⟨_, rfl⟩
  obtain ⟨t1, ht1⟩ : ∃ t, t = pexT n x1 2 := ⟨_, rfl⟩
  rw [← ht0, ← ht1] at hlen ⊢
  simp only [List.length_append, List.length_cons, List.length_nil] at hlen
  obtain ⟨a, len, cap, rfl, hlen2, hsub⟩ := h
  obtain rfl : len = 2 := hlen2.symm
  rcases hsub with h0 | ⟨g, o, rfl, hg, hel⟩
  · omega
  have HOP : Hid (∀ W, Calls Tryz.prog 25 #[.int .u8 6] W (fun e w' => e = .returned (.tuple #[.string (ByteArray.mk #[32, 42, 32]), .int .i64 1, .int .i64 2]) ∧ W = w')) := fun W => oper_any 6 W
  have HI := Lib.hid ih
  have HE := Lib.hid hel
  have HG := Lib.hid hg
  have HO0 := Lib.hid ho0
  have HO1 := Lib.hid ho1
  have HT0 := Lib.hid ht0
  have HT1 := Lib.hid ht1
  have HEN := Lib.hid he
  have hbw := he.lt
  clear ih hel hg ho0 ho1 ht0 ht1 hlen2 hpt
  show Calls Tryz.prog 14 #[.pointer (some ⟨b, 0, none⟩), .agg #[.int .u8 6, .string r, .string nm, .int .i64 d, .slice (some ⟨g, o, none⟩) 2 cap], .int .i64 1] w _
  go_enter Tryz.func14, Tryz.ntmps14
  go_wp2_with fail
  refine (HOP.out _).mono ?_
  rintro e w' ⟨rfl, rfl⟩
  obtain ⟨W0, hW0⟩ : ∃ W0, W0 = w.alloc (.cells #[.int .u8 6, .string r, .string nm, .int .i64 d, .slice (some ⟨g, o, none⟩) 2 cap] 25) := ⟨_, rfl⟩
  have hbx : W0.heap[w.heap.size]? = some (.cells #[.int .u8 6, .string r, .string nm, .int .i64 d, .slice (some ⟨g, o, none⟩) 2 cap] 25) := by rw [hW0]; exact alloc_at _ _
  have hE0 : OutEnv Wb B b m l W0 := by rw [hW0]; exact HEN.out.below (own_below w _)
  have hK0 : OutK B b w W0 := by rw [hW0]; exact OutK.below (own_below w _) HEN.out.size
  rw [← hW0]
  have HE0 := Lib.hid hE0
  have HBX := Lib.hid hbx
  have HK0 := Lib.hid hK0
  obtain ⟨p0, l0, c0, ⟨e00, e01, e02, e03, e04⟩, hx0⟩ := ExAt.part (k := 0) (x := Ex.mk 6 r nm d [x0, x1]) HG.out hE0.old (show 0 < 2 by decide) HE.out
  simp only [Nat.zero_mul, Nat.add_zero, Ex.sub, List.getElem_cons_zero] at e00 e01 e02 e03 e04 hx0
  have b4 : W0.cell? ⟨w.heap.size, 4, none⟩ = some (.slice (some ⟨g, o, none⟩) 2 cap) := (exCells hbx).2.2.2.2
  have HC0 := Lib.hid (HI.out x0 _ 1 l W0 hx0 HO0.out (by omega) (by omega) hE0 (by rw [← HT0.out]; omega))
  rw [← HT0.out] at HC0
  clear hW0 hbx hE0 hK0 hx0
  go_wp2_with fail
  refine HC0.out.mono ?_
  rintro e W1 ⟨rfl, hio1, hok1⟩
  have hE1 := HE0.out.step hio1 hok1
  have HBX1 := Lib.hid (boxed_kept HBX.out hok1 (by omega))
  have HK1 := Lib.hid (HK0.out.trans hok1)
  have HE1 := Lib.hid hE1
  have HC1 := Lib.hid (put1 B b m (l ++ t0) (ByteArray.mk #[32, 42, 32]) W1 hio1 (by show (l ++ t0).length + 3 ≤ _; rw [List.length_append]; omega) hE1.size)
  have b4' : W1.cell? ⟨w.heap.size, 4, none⟩ = some (.slice (some ⟨g, o, none⟩) 2 cap) := (exCells HBX1.out).2.2.2.2
  clear hio1 hok1 hE1 e00 e01 e02 e03 e04 b4
  go_wp2_with fail
  refine HC1.out.mono ?_
  rintro e W2 ⟨rfl, hio2, hok2⟩
  have hE2 := HE1.out.step hio2 hok2
  have HBX2 := Lib.hid (boxed_kept HBX1.out hok2 (by omega))
  have HK2 := Lib.hid (HK1.out.trans hok2)
  obtain ⟨p1, l1, c1, ⟨f0, f1, f2, f3, f4⟩, hx1⟩ := ExAt.part (k := 1) (x := Ex.mk 6 r nm d [x0, x1]) HG.out hE2.old (show 1 < 2 by decide) HE.out
  simp only [Nat.one_mul, Ex.sub, List.getElem_cons_succ, List.getElem_cons_zero] at f0 f1 f2 f3 f4 hx1
  have b4'' : W2.cell? ⟨w.heap.size, 4, none⟩ = some (.slice (some ⟨g, o, none⟩) 2 cap) := (exCells HBX2.out).2.2.2.2
  have HC2 := Lib.hid (HI.out x1 _ 2 _ W2 hx1 HO1.out (by omega) (by omega) hE2 (by rw [← HT1.out]; simp only [List.length_append]; show l.length + t0.length + 3 + _ ≤ _; omega))
  rw [← HT1.out] at HC2
  clear hio2 hok2 hE2 hx1 b4'
  go_wp2_with fail
  refine HC2.out.mono ?_
  rintro e W3 ⟨rfl, hio3, hok3⟩
  have HF : Hid (WrP B b m (l ++ (t0 ++ ([32, 42, 32] ++ t1))) w (.returned (.tuple #[])) W3) := ⟨rfl, by simpa [List.append_assoc] using hio3, HK2.out.trans hok3⟩
  clear hio3 hok3 f0 f1 f2 f3 f4 b4''
  go_wp2_with fail
  go_end0
  exact HF.out

end Go.Proofs.YtdgmpgejemgbbaaGreatDoor
