/-
  The program's one, walked: one token at a place. No condition.
-/
import Derived.Test.YtnmiiimbjojcmaaGreatDoorXd
import Derived.Test.YtnmiiimbjojcmaaGreatDoorVa
import Derived.RegionTactic
import Derived.Outline
namespace Go.Proofs.YtnmiiimbjojcmaaGreatDoor
open Go.RowKit

/-- What one hands back. -/
def OnePost (w : World) (i : Nat) (R : OneR) (e : Ending) (w' : World) : Prop :=
  (match R with
   | .no er => ∃ (K : Int) (T Q : ByteArray) (D en : Int), e = .returned (.tuple #[.agg #[.int .u8 K, .string T, .string Q, .int .i64 D, .int .i64 (i : Int)], .int .i64 en, .int .i64 er])
   | .yes t n => e = .returned (.tuple #[.agg #[.int .u8 t.kind, .string t.text, .string t.rat, .int .i64 t.date, .int .i64 (i : Int)], .int .i64 ((i + n : Nat) : Int), .int .i64 0])) ∧ Below w.heap.size w w'
theorem onePost_no {w w' : World} {i : Nat} {er K D en : Int} {T Q : ByteArray} (b : Below w.heap.size w w') : OnePost w i (.no er) (.returned (.tuple #[.agg #[.int .u8 K, .string T, .string Q, .int .i64 D, .int .i64 (i : Int)], .int .i64 en, .int .i64 er])) w' := ⟨⟨_, _, _, _, _, rfl⟩, b⟩
theorem onePost_yes {w w' : World} {i n : Nat} {en : Int} {t : Tk} (h : ((i + n : Nat) : Int) = en) (b : Below w.heap.size w w') : OnePost w i (.yes t n) (.returned (.tuple #[.agg #[.int .u8 t.kind, .string t.text, .string t.rat, .int .i64 t.date, .int .i64 (i : Int)], .int .i64 en, .int .i64 0])) w' := by
  subst h; exact ⟨rfl, b⟩
theorem tkObjSet {w : World} {g : Nat} {cs : Array Value} {t : TypeId} (h : w.heap[g]? = some (.cells cs t)) (i : Nat) (v : Value) : (w.setCell ⟨g, i, none⟩ v).heap[g]? = some (.cells (cs.setIfInBounds i v) t) := by
  simp [World.setCell, Array.getElem?_modify, h]
theorem tkCell {w : World} {g : Nat} {cs : Array Value} {t : TypeId} (h : w.heap[g]? = some (.cells cs t)) (i : Nat) : w.cell? ⟨g, i, none⟩ = cs[i]? := by simp [World.cell?, h]
theorem tkFrozen {w : World} {g : Nat} {cs : Array Value} {t : TypeId} (h : w.heap[g]? = some (.cells cs t)) (i : Nat) : w.frozen? ⟨g, i, none⟩ = false := by simp [World.frozen?, h]
theorem put5_heap {w : World} {g : Nat} {a0 a1 a2 a3 a4 : Value} {t : TypeId} (h : w.heap[g]? = some (.cells #[a0, a1, a2, a3, a4] t)) (b0 b1 b2 b3 b4 : Value) :
    (((((w.setCell ⟨g, 0, none⟩ b0).setCell ⟨g, 1, none⟩ b1).setCell ⟨g, 2, none⟩ b2).setCell ⟨g, 3, none⟩ b3).setCell ⟨g, 4, none⟩ b4).heap[g]? = some (.cells #[b0, b1, b2, b3, b4] t) := by
  have h5 := tkObjSet (tkObjSet (tkObjSet (tkObjSet (tkObjSet h 0 b0) 1 b1) 2 b2) 3 b3) 4 b4
  simpa only [List.setIfInBounds_toArray, List.set_cons_zero, List.set_cons_succ] using h5
theorem drew_heap (w : World) : w.drew.heap = w.heap := rfl
theorem put5_drew {w : World} {g : Nat} {a0 a1 a2 a3 a4 : Value} {t : TypeId} (h : w.heap[g]? = some (.cells #[a0, a1, a2, a3, a4] t)) (b0 b1 b2 b3 b4 : Value) :
    (((((w.setCell ⟨g, 0, none⟩ b0).setCell ⟨g, 1, none⟩ b1).setCell ⟨g, 2, none⟩ b2).setCell ⟨g, 3, none⟩ b3).setCell ⟨g, 4, none⟩ b4).drew.heap[g]? = some (.cells #[b0, b1, b2, b3, b4] t) := by
  rw [drew_heap]; exact put5_heap h b0 b1 b2 b3 b4
theorem put01 {w : World} {g : Nat} {a0 a1 a2 a3 a4 : Value} {t : TypeId} (h : w.heap[g]? = some (.cells #[a0, a1, a2, a3, a4] t)) (b0 b1 : Value) :
    ((w.setCell ⟨g, 0, none⟩ b0).setCell ⟨g, 1, none⟩ b1).heap[g]? = some (.cells #[b0, b1, a2, a3, a4] t) := by
  have h5 := tkObjSet (tkObjSet h 0 b0) 1 b1
  simpa only [List.setIfInBounds_toArray, List.set_cons_zero, List.set_cons_succ] using h5
theorem put0 {w : World} {g : Nat} {a0 a1 a2 a3 a4 : Value} {t : TypeId} (h : w.heap[g]? = some (.cells #[a0, a1, a2, a3, a4] t)) (b0 : Value) :
    (w.setCell ⟨g, 0, none⟩ b0).heap[g]? = some (.cells #[b0, a1, a2, a3, a4] t) := by
  have h5 := tkObjSet h 0 b0
  simpa only [List.setIfInBounds_toArray, List.set_cons_zero, List.set_cons_succ] using h5
theorem put2 {w : World} {g : Nat} {a0 a1 a2 a3 a4 : Value} {t : TypeId} (h : w.heap[g]? = some (.cells #[a0, a1, a2, a3, a4] t)) (b2 : Value) :
    (w.setCell ⟨g, 2, none⟩ b2).heap[g]? = some (.cells #[a0, a1, b2, a3, a4] t) := by
  have h5 := tkObjSet h 2 b2
  simpa only [List.setIfInBounds_toArray, List.set_cons_zero, List.set_cons_succ] using h5
theorem put3 {w : World} {g : Nat} {a0 a1 a2 a3 a4 : Value} {t : TypeId} (h : w.heap[g]? = some (.cells #[a0, a1, a2, a3, a4] t)) (b3 : Value) :
    (w.setCell ⟨g, 3, none⟩ b3).heap[g]? = some (.cells #[a0, a1, a2, b3, a4] t) := by
  have h5 := tkObjSet h 3 b3
  simpa only [List.setIfInBounds_toArray, List.set_cons_zero, List.set_cons_succ] using h5
theorem put5_below {B : Nat} {w0 w : World} {g : Nat} (h : Below B w0 w) (hg : B ≤ g) (b0 b1 b2 b3 b4 : Value) :
    Below B w0 (((((w.setCell ⟨g, 0, none⟩ b0).setCell ⟨g, 1, none⟩ b1).setCell ⟨g, 2, none⟩ b2).setCell ⟨g, 3, none⟩ b3).setCell ⟨g, 4, none⟩ b4) :=
  ((((h.setCell hg b0).setCell hg b1).setCell hg b2).setCell hg b3).setCell hg b4
theorem tcells {w : World} {g : Nat} {a0 a1 a2 a3 a4 : Value} {t : TypeId} (h : w.heap[g]? = some (.cells #[a0, a1, a2, a3, a4] t)) : w.cell? ⟨g, 0, none⟩ = some a0 ∧ w.cell? ⟨g, 1, none⟩ = some a1 ∧ w.cell? ⟨g, 2, none⟩ = some a2 ∧ w.cell? ⟨g, 3, none⟩ = some a3 ∧ w.cell? ⟨g, 4, none⟩ = some a4 ∧ ∀ i, w.frozen? ⟨g, i, none⟩ = false :=
  ⟨tkCell h 0, tkCell h 1, tkCell h 2, tkCell h 3, tkCell h 4, tkFrozen h⟩
theorem results_cell_tmp2 {fn : Func} {p u v : Tmp} {ty : TypeId} (h : fn.results = #[.cell p ty, .tmp u, .tmp v]) (tmps : Array Value) (P : Program) (w : World) :
    (results fn tmps).run P w =
      ((asAddr (tmps.getD p undef)).run P w).andThen fun a w₁ => ((loadVar ty a).run P w₁).andThen fun x w₂ => .ok (.tuple #[x, tmps.getD u undef, tmps.getD v undef]) w₂ := by
  simp only [results, h]
  simp [Sem.run_bind, Result.andThen]
theorem results_row_tmp2 {P : Program} {fn : Func} {p u v : Tmp} {ty : TypeId} (h : fn.results = #[.cell p ty, .tmp u, .tmp v]) (tmps : Array Value) (w : World) (g : Nat) (t : TypeId) (cs : Array Value) (d : TypeDesc)
    (hp : tmps.getD p undef = .pointer (some ⟨g, 0, none⟩)) (hg : w.heap[g]? = some (.cells cs t))
    (hu : P.underlying ty = some d) (hd : (match d with | .struct _ | .array _ _ => true | _ => false) = true) (hi : (P.info? ty).map (·.size) = some cs.size) :
    (results fn tmps).run P w = .ok (.tuple #[.agg cs, tmps.getD u undef, tmps.getD v undef]) w := by
  rw [results_cell_tmp2 h, hp]
  simp [asAddr, run_loadVar_row w g t ty cs (0, 0) d hg hu hd hi]
theorem clsB_wd : clsB [3, 2, 4] = wdQ := by
  funext c
  obtain ⟨_, _, h, _⟩ := cls_parts c
  unfold clsB
  rw [Bool.eq_iff_iff, ← h]
  simp
  omega
theorem after_word (s : ByteArray) (i : Nat) (hs : s.size ≤ 1000000) (hi : i ≤ s.size) (W : World) :
    Calls Tryz.prog 17 #[.string s, .int .i64 (i : Int), .slice (some ⟨W.heap.size, 0, none⟩) 3 3] (W.alloc (.cells #[.int .i64 3, .int .i64 2, .int .i64 4] 3)) (RetI (W.alloc (.cells #[.int .i64 3, .int .i64 2, .int .i64 4] 3)) ((i + spn wdQ (s.data.toList.drop i) : Nat) : Int)) := by
  rw [← clsB_wd]
  refine after_any s i 3 3 _ [3, 2, 4] _ hs hi rfl (by omega) (fun j hj => ⟨W.heap.size, 0, rfl, by simp, ?_⟩)
  have := World.alloc_heap_new W (.cells #[.int .i64 3, .int .i64 2, .int .i64 4] 3)
  have hj0 : j = 0 ∨ j = 1 ∨ j = 2 := by simp at hj; omega
  show (match (W.alloc (.cells #[.int .i64 3, .int .i64 2, .int .i64 4] 3)).heap[W.heap.size]? with | some (.cells c _ _) => c[0 + j]? | _ => none) = _
  rw [this]
  rcases hj0 with rfl | rfl | rfl <;> rfl
theorem tok_new (w : World) (a0 a1 a2 a3 a4 : Value) (t : TypeId) (o : Obj) : ((w.alloc (.cells #[a0, a1, a2, a3, a4] t)).alloc o).heap[w.heap.size]? = some (.cells #[a0, a1, a2, a3, a4] t) := by
  rw [Below.heap_alloc _ _ _ (by simp)]
  exact World.alloc_heap_new w _

set_option maxHeartbeats 2000000 in
set_option maxRecDepth 100000 in
theorem one_word0 (s : ByteArray) (i : Nat) (R : OneR) (w : World) (en : Nat) (tx : ByteArray) (hen : i ≤ en) (hes : en ≤ s.size) (htx : s.extract i en = tx) (hb : decide ((40 : Int) < (tx.size : Int)) = false) (hR : R = .yes ⟨1, tx, bsL [], 0, 0⟩ (en - i))
    (HAT : Hid (∀ W, Calls Tryz.prog 18 #[.string s, .int .i64 (i : Int)] W (RetI W 3)))
    (HAF : Hid (∀ W : World, Calls Tryz.prog 17 #[.string s, .int .i64 (i : Int), .slice (some ⟨W.heap.size, 0, none⟩) 3 3] (W.alloc (.cells #[.int .i64 3, .int .i64 2, .int .i64 4] 3)) (RetI (W.alloc (.cells #[.int .i64 3, .int .i64 2, .int .i64 4] 3)) (en : Int)))) :
    Calls Tryz.prog 11 #[.string s, .int .i64 (i : Int)] w (OnePost w i R) := by
  have HR := Lib.hid hR
  have HTX := Lib.hid htx
  have haf := HAF.out (w.alloc (.cells #[.int .u8 0, .string ⟨#[]⟩, .string ⟨#[]⟩, .int .i64 0, .int .i64 (i : Int)] 40))
  rw [World.size_alloc] at haf
  have HAF2 := Lib.hid haf
  clear haf htx hR
  go_enter Tryz.func11, Tryz.ntmps11
  go_wp2_with fail
  refine (HAT.out _).mono ?_
  rintro e w' ⟨rfl, rfl⟩
  go_wp2_with fail
  refine HAF2.out.mono ?_
  rintro e w' ⟨rfl, rfl⟩
  obtain ⟨W2, hW2⟩ : ∃ W2, W2 = (w.alloc (.cells #[.int .u8 0, .string ⟨#[]⟩, .string ⟨#[]⟩, .int .i64 0, .int .i64 (i : Int)] 40)).alloc (.cells #[.int .i64 3, .int .i64 2, .int .i64 4] 3) := ⟨_, rfl⟩
  have hg : W2.heap[w.heap.size]? = some (.cells #[.int .u8 0, .string ⟨#[]⟩, .string ⟨#[]⟩, .int .i64 0, .int .i64 (i : Int)] 40) := by rw [hW2]; exact tok_new ..
  have hbel : Below w.heap.size w W2 := by rw [hW2]; exact ((Below.refl _ w).alloc (Nat.le_refl _) _).alloc (by simp) _
  rw [← hW2]
  obtain ⟨c0, c1, c2, c3, c4, fz⟩ := tcells hg
  have HG := Lib.hid hg
  have HBEL := Lib.hid hbel
  clear hW2 hg hbel
  go_wp2_with fail
  go_region
  rw [HTX.out]
  go_wp2_with fail
  refine bodyPost_ret (results_row_tmp2 rfl _ _ w.heap.size 40 _ _ rfl (put5_drew (put01 HG.out _ _) _ _ _ _ _) Tryz.underlying40 rfl rfl) rfl ?_
  show OnePost _ _ _ _ _
  rw [HR.out]
  exact onePost_yes (by omega) (put5_below ((HBEL.out.setCell (p := ⟨w.heap.size, 0, none⟩) (Nat.le_refl _) _).setCell (p := ⟨w.heap.size, 1, none⟩) (Nat.le_refl _) _) (Nat.le_refl _) _ _ _ _ _).drew

set_option maxHeartbeats 2000000 in
set_option maxRecDepth 100000 in
theorem one_word1 (s : ByteArray) (i : Nat) (R : OneR) (w : World) (en : Nat) (tx : ByteArray) (hen : i ≤ en) (hes : en ≤ s.size) (htx : s.extract i en = tx) (hb : decide ((40 : Int) < (tx.size : Int)) = true) (hR : R = .no 12)
    (HAT : Hid (∀ W, Calls Tryz.prog 18 #[.string s, .int .i64 (i : Int)] W (RetI W 3)))
    (HAF : Hid (∀ W : World, Calls Tryz.prog 17 #[.string s, .int .i64 (i : Int), .slice (some ⟨W.heap.size, 0, none⟩) 3 3] (W.alloc (.cells #[.int .i64 3, .int .i64 2, .int .i64 4] 3)) (RetI (W.alloc (.cells #[.int .i64 3, .int .i64 2, .int .i64 4] 3)) (en : Int)))) :
    Calls Tryz.prog 11 #[.string s, .int .i64 (i : Int)] w (OnePost w i R) := by
  have HR := Lib.hid hR
  have HTX := Lib.hid htx
  have haf := HAF.out (w.alloc (.cells #[.int .u8 0, .string ⟨#[]⟩, .string ⟨#[]⟩, .int .i64 0, .int .i64 (i : Int)] 40))
  rw [World.size_alloc] at haf
  have HAF2 := Lib.hid haf
  clear haf htx hR
  go_enter Tryz.func11, Tryz.ntmps11
  go_wp2_with fail
  refine (HAT.out _).mono ?_
  rintro e w' ⟨rfl, rfl⟩
  go_wp2_with fail
  refine HAF2.out.mono ?_
  rintro e w' ⟨rfl, rfl⟩
  obtain ⟨W2, hW2⟩ : ∃ W2, W2 = (w.alloc (.cells #[.int .u8 0, .string ⟨#[]⟩, .string ⟨#[]⟩, .int .i64 0, .int .i64 (i : Int)] 40)).alloc (.cells #[.int .i64 3, .int .i64 2, .int .i64 4] 3) := ⟨_, rfl⟩
  have hg : W2.heap[w.heap.size]? = some (.cells #[.int .u8 0, .string ⟨#[]⟩, .string ⟨#[]⟩, .int .i64 0, .int .i64 (i : Int)] 40) := by rw [hW2]; exact tok_new ..
  have hbel : Below w.heap.size w W2 := by rw [hW2]; exact ((Below.refl _ w).alloc (Nat.le_refl _) _).alloc (by simp) _
  rw [← hW2]
  obtain ⟨c0, c1, c2, c3, c4, fz⟩ := tcells hg
  have HG := Lib.hid hg
  have HBEL := Lib.hid hbel
  clear hW2 hg hbel
  go_wp2_with fail
  go_region
  rw [HTX.out]
  go_wp2_with fail
  refine bodyPost_ret (results_row_tmp2 rfl _ _ w.heap.size 40 _ _ rfl (put5_drew (put01 HG.out _ _) _ _ _ _ _) Tryz.underlying40 rfl rfl) rfl ?_
  show OnePost _ _ _ _ _
  rw [HR.out]
  exact onePost_no (put5_below ((HBEL.out.setCell (p := ⟨w.heap.size, 0, none⟩) (Nat.le_refl _) _).setCell (p := ⟨w.heap.size, 1, none⟩) (Nat.le_refl _) _) (Nat.le_refl _) _ _ _ _ _).drew

set_option maxHeartbeats 2000000 in
set_option maxRecDepth 100000 in
theorem one_quote_none (s : ByteArray) (i : Nat) (R : OneR) (w : World) (_hs : s.size ≤ 100000) (_hi : i < s.size) (hR : R = .no 12) (HAT : Hid (∀ W, Calls Tryz.prog 18 #[.string s, .int .i64 (i : Int)] W (RetI W 6)))
    (HIX : Hid (∀ W, Calls Tryz.prog 19 #[.string (s.extract (i + 1) s.size), .int .u8 34] W fun e w' => e = .returned (.int .i64 (-1)) ∧ W = w')) : Calls Tryz.prog 11 #[.string s, .int .i64 (i : Int)] w (OnePost w i R) := by
  have HR := Lib.hid hR
  clear hR
  go_enter Tryz.func11, Tryz.ntmps11
  go_wp2_with fail
  refine (HAT.out _).mono ?_
  rintro e w' ⟨rfl, rfl⟩
  obtain ⟨W2, hW2⟩ : ∃ W2, W2 = (w.alloc (.cells #[.int .u8 0, .string ⟨#[]⟩, .string ⟨#[]⟩, .int .i64 0, .int .i64 (i : Int)] 40)) := ⟨_, rfl⟩
  have hg : W2.heap[w.heap.size]? = some (.cells #[.int .u8 0, .string ⟨#[]⟩, .string ⟨#[]⟩, .int .i64 0, .int .i64 (i : Int)] 40) := by rw [hW2]; exact World.alloc_heap_new w _
  have hbel : Below w.heap.size w W2 := by rw [hW2]; exact own_below w _
  rw [← hW2]
  obtain ⟨c0, c1, c2, c3, c4, fz⟩ := tcells hg
  have HG := Lib.hid hg
  have HBEL := Lib.hid hbel
  clear hW2 hg hbel
  go_wp2_with fail
  refine (HIX.out _).mono ?_
  rintro e w' ⟨rfl, rfl⟩
  go_wp2_with fail
  refine bodyPost_ret (results_row_tmp2 rfl _ _ w.heap.size 40 _ _ rfl (put5_heap (HG.out) _ _ _ _ _) Tryz.underlying40 rfl rfl) rfl ?_
  show OnePost _ _ _ _ _
  rw [HR.out]
  exact onePost_no (put5_below (HBEL.out) (Nat.le_refl _) _ _ _ _ _)

set_option maxHeartbeats 2000000 in
set_option maxRecDepth 100000 in
theorem one_quote_bad (s : ByteArray) (i : Nat) (R : OneR) (w : World) (_hs : s.size ≤ 100000) (_hi : i < s.size) (k : Nat) (tx : ByteArray) (hk : i + 1 + k ≤ s.size) (htx : s.extract (i + 1) (i + 1 + k) = tx) (hR : R = .no 12) (HAT : Hid (∀ W, Calls Tryz.prog 18 #[.string s, .int .i64 (i : Int)] W (RetI W 6)))
    (HIX : Hid (∀ W, Calls Tryz.prog 19 #[.string (s.extract (i + 1) s.size), .int .u8 34] W fun e w' => e = .returned (.int .i64 (k : Int)) ∧ W = w')) (HNM : Hid (∀ W, Calls Tryz.prog 20 #[.string tx] W (RetB W false))) : Calls Tryz.prog 11 #[.string s, .int .i64 (i : Int)] w (OnePost w i R) := by
  have HR := Lib.hid hR
  have HTX := Lib.hid htx
  clear hR htx
  go_enter Tryz.func11, Tryz.ntmps11
  go_wp2_with fail
  refine (HAT.out _).mono ?_
  rintro e w' ⟨rfl, rfl⟩
  obtain ⟨W2, hW2⟩ : ∃ W2, W2 = (w.alloc (.cells #[.int .u8 0, .string ⟨#[]⟩, .string ⟨#[]⟩, .int .i64 0, .int .i64 (i : Int)] 40)) := ⟨_, rfl⟩
  have hg : W2.heap[w.heap.size]? = some (.cells #[.int .u8 0, .string ⟨#[]⟩, .string ⟨#[]⟩, .int .i64 0, .int .i64 (i : Int)] 40) := by rw [hW2]; exact World.alloc_heap_new w _
  have hbel : Below w.heap.size w W2 := by rw [hW2]; exact own_below w _
  rw [← hW2]
  obtain ⟨c0, c1, c2, c3, c4, fz⟩ := tcells hg
  have HG := Lib.hid hg
  have HBEL := Lib.hid hbel
  clear hW2 hg hbel
  go_wp2_with fail
  refine (HIX.out _).mono ?_
  rintro e w' ⟨rfl, rfl⟩
  go_wp2_with fail
  rw [HTX.out]
  refine (HNM.out _).mono ?_
  rintro e w' ⟨rfl, rfl⟩
  go_wp2_with fail
  refine bodyPost_ret (results_row_tmp2 rfl _ _ w.heap.size 40 _ _ rfl (put5_heap (HG.out) _ _ _ _ _) Tryz.underlying40 rfl rfl) rfl ?_
  show OnePost _ _ _ _ _
  rw [HR.out]
  exact onePost_no (put5_below (HBEL.out) (Nat.le_refl _) _ _ _ _ _)

set_option maxHeartbeats 2000000 in
set_option maxRecDepth 100000 in
theorem one_quote (s : ByteArray) (i : Nat) (R : OneR) (w : World) (_hs : s.size ≤ 100000) (_hi : i < s.size) (k : Nat) (tx : ByteArray) (hk : i + 1 + k < s.size) (htx : s.extract (i + 1) (i + 1 + k) = tx) (hR : R = .yes ⟨2, tx, bsL [], 0, 0⟩ (k + 2)) (HAT : Hid (∀ W, Calls Tryz.prog 18 #[.string s, .int .i64 (i : Int)] W (RetI W 6)))
    (HIX : Hid (∀ W, Calls Tryz.prog 19 #[.string (s.extract (i + 1) s.size), .int .u8 34] W fun e w' => e = .returned (.int .i64 (k : Int)) ∧ W = w')) (HNM : Hid (∀ W, Calls Tryz.prog 20 #[.string tx] W (RetB W true))) : Calls Tryz.prog 11 #[.string s, .int .i64 (i : Int)] w (OnePost w i R) := by
  have HR := Lib.hid hR
  have HTX := Lib.hid htx
  have HTX2 : Hid (s.extract (i + 1) (i + k + 1) = tx) := by rw [show i + k + 1 = i + 1 + k by omega]; exact htx
  clear hR htx
  go_enter Tryz.func11, Tryz.ntmps11
  go_wp2_with fail
  refine (HAT.out _).mono ?_
  rintro e w' ⟨rfl, rfl⟩
  obtain ⟨W2, hW2⟩ : ∃ W2, W2 = (w.alloc (.cells #[.int .u8 0, .string ⟨#[]⟩, .string ⟨#[]⟩, .int .i64 0, .int .i64 (i : Int)] 40)) := ⟨_, rfl⟩
  have hg : W2.heap[w.heap.size]? = some (.cells #[.int .u8 0, .string ⟨#[]⟩, .string ⟨#[]⟩, .int .i64 0, .int .i64 (i : Int)] 40) := by rw [hW2]; exact World.alloc_heap_new w _
  have hbel : Below w.heap.size w W2 := by rw [hW2]; exact own_below w _
  rw [← hW2]
  obtain ⟨c0, c1, c2, c3, c4, fz⟩ := tcells hg
  have HG := Lib.hid hg
  have HBEL := Lib.hid hbel
  clear hW2 hg hbel
  go_wp2_with fail
  refine (HIX.out _).mono ?_
  rintro e w' ⟨rfl, rfl⟩
  go_wp2_with fail
  rw [HTX.out]
  refine (HNM.out _).mono ?_
  rintro e w' ⟨rfl, rfl⟩
  go_wp2_with fail
  go_region
  rw [HTX2.out]
  go_wp2_with fail
  refine bodyPost_ret (results_row_tmp2 rfl _ _ w.heap.size 40 _ _ rfl (put5_drew (put01 HG.out _ _) _ _ _ _ _) Tryz.underlying40 rfl rfl) rfl ?_
  show OnePost _ _ _ _ _
  rw [HR.out]
  exact onePost_yes (by omega) (put5_below ((HBEL.out.setCell (p := ⟨w.heap.size, 0, none⟩) (Nat.le_refl _) _).setCell (p := ⟨w.heap.size, 1, none⟩) (Nat.le_refl _) _) (Nat.le_refl _) _ _ _ _ _).drew

set_option maxHeartbeats 2000000 in
set_option maxRecDepth 100000 in
theorem one_day_end (s : ByteArray) (i : Nat) (R : OneR) (w : World) (_hs : s.size ≤ 100000) (_hi : i < s.size) (hR : R = .no 12) (hl : i + 10 ≤ s.size) (HAT : Hid (∀ W, Calls Tryz.prog 18 #[.string s, .int .i64 (i : Int)] W (RetI W 2))) (HDY : Hid (∀ W, Calls Tryz.prog 21 #[.string (s.extract i s.size)] W (DayPost W true))) (HCL : Hid (∀ W, Calls Tryz.prog 22 #[.string s, .int .i64 ((i : Int) + 10)] W (RetB W false))) : Calls Tryz.prog 11 #[.string s, .int .i64 (i : Int)] w (OnePost w i R) := by
  have HR := Lib.hid hR
  clear hR
  have hg0 : (w.alloc (.cells #[.int .u8 0, .string ⟨#[]⟩, .string ⟨#[]⟩, .int .i64 0, .int .i64 (i : Int)] 40)).heap[w.heap.size]? = some (.cells #[.int .u8 0, .string ⟨#[]⟩, .string ⟨#[]⟩, .int .i64 0, .int .i64 (i : Int)] 40) := World.alloc_heap_new w _
  have hb0 : Below w.heap.size w (w.alloc (.cells #[.int .u8 0, .string ⟨#[]⟩, .string ⟨#[]⟩, .int .i64 0, .int .i64 (i : Int)] 40)) := own_below w _
  have HG0 := Lib.hid hg0
  have HB0 := Lib.hid hb0
  clear hg0 hb0
  go_enter Tryz.func11, Tryz.ntmps11
  go_wp2_with fail
  refine (HAT.out _).mono ?_
  rintro e w' ⟨rfl, rfl⟩
  go_wp2_with fail
  refine (HDY.out _).mono ?_
  rintro e w1 ⟨rfl, b1⟩
  have hg : w1.heap[w.heap.size]? = some (.cells #[.int .u8 0, .string ⟨#[]⟩, .string ⟨#[]⟩, .int .i64 0, .int .i64 (i : Int)] 40) := by rw [b1.block _ (by simp)]; exact HG0.out
  have hbel : Below w.heap.size w w1 := HB0.out.trans (b1.mono HB0.out.size)
  obtain ⟨c0, c1, c2, c3, c4, fz⟩ := tcells hg
  have hz1 : w.heap.size < w1.heap.size := by have := b1.size; simp at this; omega
  have HG := Lib.hid hg
  have HBEL := Lib.hid hbel
  clear hg hbel b1
  go_wp2_with fail
  refine (HCL.out _).mono ?_
  rintro e w' ⟨rfl, rfl⟩
  go_wp2_with fail
  refine bodyPost_ret (results_row_tmp2 rfl _ _ w.heap.size 40 _ _ rfl (put5_heap (HG.out) _ _ _ _ _) Tryz.underlying40 rfl rfl) rfl ?_
  show OnePost _ _ _ _ _
  rw [HR.out]
  exact onePost_no (put5_below (HBEL.out) (Nat.le_refl _) _ _ _ _ _)

set_option maxHeartbeats 2000000 in
set_option maxRecDepth 100000 in
theorem one_day_ok (s : ByteArray) (i : Nat) (R : OneR) (w : World) (_hs : s.size ≤ 100000) (_hi : i < s.size) (D : Int) (tx : ByteArray) (htx : s.extract i (i + 10) = tx) (hR : R = .yes ⟨4, bsL [], bsL [], D, 0⟩ 10) (hl : i + 10 ≤ s.size) (HAT : Hid (∀ W, Calls Tryz.prog 18 #[.string s, .int .i64 (i : Int)] W (RetI W 2))) (HDY : Hid (∀ W, Calls Tryz.prog 21 #[.string (s.extract i s.size)] W (DayPost W true))) (HCL : Hid (∀ W, Calls Tryz.prog 22 #[.string s, .int .i64 ((i : Int) + 10)] W (RetB W true))) (HP : Hid (∀ W, Calls Tryz.prog 23 #[.string tx] W fun e w' => e = .returned (.tuple #[.int .i64 D, .int .i64 0]) ∧ Below W.heap.size W w')) : Calls Tryz.prog 11 #[.string s, .int .i64 (i : Int)] w (OnePost w i R) := by
  have HR := Lib.hid hR
  have HTX := Lib.hid htx
  clear hR htx
  have hg0 : (w.alloc (.cells #[.int .u8 0, .string ⟨#[]⟩, .string ⟨#[]⟩, .int .i64 0, .int .i64 (i : Int)] 40)).heap[w.heap.size]? = some (.cells #[.int .u8 0, .string ⟨#[]⟩, .string ⟨#[]⟩, .int .i64 0, .int .i64 (i : Int)] 40) := World.alloc_heap_new w _
  have hb0 : Below w.heap.size w (w.alloc (.cells #[.int .u8 0, .string ⟨#[]⟩, .string ⟨#[]⟩, .int .i64 0, .int .i64 (i : Int)] 40)) := own_below w _
  have HG0 := Lib.hid hg0
  have HB0 := Lib.hid hb0
  clear hg0 hb0
  go_enter Tryz.func11, Tryz.ntmps11
  go_wp2_with fail
  refine (HAT.out _).mono ?_
  rintro e w' ⟨rfl, rfl⟩
  go_wp2_with fail
  refine (HDY.out _).mono ?_
  rintro e w1 ⟨rfl, b1⟩
  have hg : w1.heap[w.heap.size]? = some (.cells #[.int .u8 0, .string ⟨#[]⟩, .string ⟨#[]⟩, .int .i64 0, .int .i64 (i : Int)] 40) := by rw [b1.block _ (by simp)]; exact HG0.out
  have hbel : Below w.heap.size w w1 := HB0.out.trans (b1.mono HB0.out.size)
  obtain ⟨c0, c1, c2, c3, c4, fz⟩ := tcells hg
  have hz1 : w.heap.size < w1.heap.size := by have := b1.size; simp at this; omega
  have HG := Lib.hid hg
  have HBEL := Lib.hid hbel
  clear hg hbel b1
  go_wp2_with fail
  refine (HCL.out _).mono ?_
  rintro e w' ⟨rfl, rfl⟩
  go_wp2_with fail
  rw [HTX.out]
  refine (HP.out _).mono ?_
  rintro e w3 ⟨rfl, b3⟩
  have hg3 : w3.heap[w.heap.size]? = some (.cells #[.int .u8 4, .string ⟨#[]⟩, .string ⟨#[]⟩, .int .i64 0, .int .i64 (i : Int)] 40) := by
    rw [b3.block _ (by show _ < (w1.setCell _ _).heap.size; simp; exact hz1)]; exact put0 HG.out _
  have hb3 : Below w.heap.size w w3 := (HBEL.out.setCell (p := ⟨w.heap.size, 0, none⟩) (Nat.le_refl _) _).trans (b3.mono (by simp; omega))
  obtain ⟨d0, d1, d2, d3, d4, fz3⟩ := tcells hg3
  have HG3 := Lib.hid hg3
  have HB3 := Lib.hid hb3
  clear hg3 hb3 b3 c0 c1 c2 c3 c4 fz
  go_wp2_with fail
  refine bodyPost_ret (results_row_tmp2 rfl _ _ w.heap.size 40 _ _ rfl (put5_heap (put3 HG3.out _) _ _ _ _ _) Tryz.underlying40 rfl rfl) rfl ?_
  show OnePost _ _ _ _ _
  rw [HR.out]
  exact onePost_yes (by omega) (put5_below (HB3.out.setCell (p := ⟨w.heap.size, 3, none⟩) (Nat.le_refl _) _) (Nat.le_refl _) _ _ _ _ _)

set_option maxHeartbeats 2000000 in
set_option maxRecDepth 100000 in
theorem one_day_bad (s : ByteArray) (i : Nat) (R : OneR) (w : World) (_hs : s.size ≤ 100000) (_hi : i < s.size)  (tx : ByteArray) (htx : s.extract i (i + 10) = tx) (hR : R = .no 40) (hl : i + 10 ≤ s.size) (HAT : Hid (∀ W, Calls Tryz.prog 18 #[.string s, .int .i64 (i : Int)] W (RetI W 2))) (HDY : Hid (∀ W, Calls Tryz.prog 21 #[.string (s.extract i s.size)] W (DayPost W true))) (HCL : Hid (∀ W, Calls Tryz.prog 22 #[.string s, .int .i64 ((i : Int) + 10)] W (RetB W true))) (HP : Hid (∀ W, Calls Tryz.prog 23 #[.string tx] W (Refused W))) : Calls Tryz.prog 11 #[.string s, .int .i64 (i : Int)] w (OnePost w i R) := by
  have HR := Lib.hid hR
  have HTX := Lib.hid htx
  clear hR htx
  have hg0 : (w.alloc (.cells #[.int .u8 0, .string ⟨#[]⟩, .string ⟨#[]⟩, .int .i64 0, .int .i64 (i : Int)] 40)).heap[w.heap.size]? = some (.cells #[.int .u8 0, .string ⟨#[]⟩, .string ⟨#[]⟩, .int .i64 0, .int .i64 (i : Int)] 40) := World.alloc_heap_new w _
  have hb0 : Below w.heap.size w (w.alloc (.cells #[.int .u8 0, .string ⟨#[]⟩, .string ⟨#[]⟩, .int .i64 0, .int .i64 (i : Int)] 40)) := own_below w _
  have HG0 := Lib.hid hg0
  have HB0 := Lib.hid hb0
  clear hg0 hb0
  go_enter Tryz.func11, Tryz.ntmps11
  go_wp2_with fail
  refine (HAT.out _).mono ?_
  rintro e w' ⟨rfl, rfl⟩
  go_wp2_with fail
  refine (HDY.out _).mono ?_
  rintro e w1 ⟨rfl, b1⟩
  have hg : w1.heap[w.heap.size]? = some (.cells #[.int .u8 0, .string ⟨#[]⟩, .string ⟨#[]⟩, .int .i64 0, .int .i64 (i : Int)] 40) := by rw [b1.block _ (by simp)]; exact HG0.out
  have hbel : Below w.heap.size w w1 := HB0.out.trans (b1.mono HB0.out.size)
  obtain ⟨c0, c1, c2, c3, c4, fz⟩ := tcells hg
  have hz1 : w.heap.size < w1.heap.size := by have := b1.size; simp at this; omega
  have HG := Lib.hid hg
  have HBEL := Lib.hid hbel
  clear hg hbel b1
  go_wp2_with fail
  refine (HCL.out _).mono ?_
  rintro e w' ⟨rfl, rfl⟩
  go_wp2_with fail
  rw [HTX.out]
  refine (HP.out _).mono ?_
  rintro e w3 ⟨q, hq, rfl, b3⟩
  have hg3 : w3.heap[w.heap.size]? = some (.cells #[.int .u8 4, .string ⟨#[]⟩, .string ⟨#[]⟩, .int .i64 0, .int .i64 (i : Int)] 40) := by
    rw [b3.block _ (by show _ < (w1.setCell _ _).heap.size; simp; exact hz1)]; exact put0 HG.out _
  have hb3 : Below w.heap.size w w3 := (HBEL.out.setCell (p := ⟨w.heap.size, 0, none⟩) (Nat.le_refl _) _).trans (b3.mono (by simp; omega))
  obtain ⟨d0, d1, d2, d3, d4, fz3⟩ := tcells hg3
  have HG3 := Lib.hid hg3
  have HB3 := Lib.hid hb3
  clear hg3 hb3 b3 c0 c1 c2 c3 c4 fz
  have tq : (q != 0) = true := by simp; omega
  have HQ := Lib.hid hq
  clear hq
  go_wp2_with fail
  refine bodyPost_ret (results_row_tmp2 rfl _ _ w.heap.size 40 _ _ rfl (put5_heap (put3 HG3.out _) _ _ _ _ _) Tryz.underlying40 rfl rfl) rfl ?_
  show OnePost _ _ _ _ _
  rw [HR.out]
  exact onePost_no (put5_below (HB3.out.setCell (p := ⟨w.heap.size, 3, none⟩) (Nat.le_refl _) _) (Nat.le_refl _) _ _ _ _ _)

set_option maxHeartbeats 2000000 in
set_option maxRecDepth 100000 in
theorem one_num_dig1 (s : ByteArray) (i : Nat) (R : OneR) (w : World) (_hs : s.size ≤ 100000) (_hi : i < s.size) (rt : ByteArray) (n : Nat) (hR : R = .yes ⟨3, bsL [], rt, 0, 0⟩ n) (HAT : Hid (∀ W, Calls Tryz.prog 18 #[.string s, .int .i64 (i : Int)] W (RetI W 2))) (HDY : Hid (∀ W, Calls Tryz.prog 21 #[.string (s.extract i s.size)] W (DayPost W false))) (HN : Hid (∀ W, Calls Tryz.prog 24 #[.string s, .int .i64 (i : Int)] W (NumPost W i (.yes ⟨3, bsL [], rt, 0, 0⟩ n)))) : Calls Tryz.prog 11 #[.string s, .int .i64 (i : Int)] w (OnePost w i R) := by
  have HR := Lib.hid hR
  clear hR
  have hg0 : (w.alloc (.cells #[.int .u8 0, .string ⟨#[]⟩, .string ⟨#[]⟩, .int .i64 0, .int .i64 (i : Int)] 40)).heap[w.heap.size]? = some (.cells #[.int .u8 0, .string ⟨#[]⟩, .string ⟨#[]⟩, .int .i64 0, .int .i64 (i : Int)] 40) := World.alloc_heap_new w _
  have hb0 : Below w.heap.size w (w.alloc (.cells #[.int .u8 0, .string ⟨#[]⟩, .string ⟨#[]⟩, .int .i64 0, .int .i64 (i : Int)] 40)) := own_below w _
  have HG0 := Lib.hid hg0
  have HB0 := Lib.hid hb0
  clear hg0 hb0
  go_enter Tryz.func11, Tryz.ntmps11
  go_wp2_with fail
  refine (HAT.out _).mono ?_
  rintro e w' ⟨rfl, rfl⟩
  go_wp2_with fail
  refine (HDY.out _).mono ?_
  rintro e w1 ⟨rfl, b1⟩
  have hg : w1.heap[w.heap.size]? = some (.cells #[.int .u8 0, .string ⟨#[]⟩, .string ⟨#[]⟩, .int .i64 0, .int .i64 (i : Int)] 40) := by rw [b1.block _ (by simp)]; exact HG0.out
  have hbel : Below w.heap.size w w1 := HB0.out.trans (b1.mono HB0.out.size)
  obtain ⟨c0, c1, c2, c3, c4, fz⟩ := tcells hg
  have hz1 : w.heap.size < w1.heap.size := by have := b1.size; simp at this; omega
  have HG := Lib.hid hg
  have HBEL := Lib.hid hbel
  clear hg hbel b1
  go_wp2_with fail
  refine (HN.out _).mono ?_
  rintro e w3 ⟨rfl, b3⟩
  have hg3 : w3.heap[w.heap.size]? = some (.cells #[.int .u8 3, .string ⟨#[]⟩, .string ⟨#[]⟩, .int .i64 0, .int .i64 (i : Int)] 40) := by
    rw [b3.block _ (by show _ < (w1.setCell _ _).heap.size; simp; exact hz1)]; exact put0 HG.out _
  have hb3 : Below w.heap.size w w3 := (HBEL.out.setCell (p := ⟨w.heap.size, 0, none⟩) (Nat.le_refl _) _).trans (b3.mono (by simp; omega))
  obtain ⟨d0, d1, d2, d3, d4, fz3⟩ := tcells hg3
  have HG3 := Lib.hid hg3
  have HB3 := Lib.hid hb3
  clear hg3 hb3 b3 c0 c1 c2 c3 c4 fz
  go_wp2_with fail
  refine bodyPost_ret (results_row_tmp2 rfl _ _ w.heap.size 40 _ _ rfl (put5_heap (put2 HG3.out _) _ _ _ _ _) Tryz.underlying40 rfl rfl) rfl ?_
  show OnePost _ _ _ _ _
  rw [HR.out]
  exact onePost_yes rfl (put5_below (HB3.out.setCell (p := ⟨w.heap.size, 2, none⟩) (Nat.le_refl _) _) (Nat.le_refl _) _ _ _ _ _)

set_option maxHeartbeats 2000000 in
set_option maxRecDepth 100000 in
theorem one_num_dig0 (s : ByteArray) (i : Nat) (R : OneR) (w : World) (_hs : s.size ≤ 100000) (_hi : i < s.size) (er : Int) (hR : R = .no er) (HAT : Hid (∀ W, Calls Tryz.prog 18 #[.string s, .int .i64 (i : Int)] W (RetI W 2))) (HDY : Hid (∀ W, Calls Tryz.prog 21 #[.string (s.extract i s.size)] W (DayPost W false))) (HN : Hid (∀ W, Calls Tryz.prog 24 #[.string s, .int .i64 (i : Int)] W (NumPost W i (.no er)))) : Calls Tryz.prog 11 #[.string s, .int .i64 (i : Int)] w (OnePost w i R) := by
  have HR := Lib.hid hR
  clear hR
  have hg0 : (w.alloc (.cells #[.int .u8 0, .string ⟨#[]⟩, .string ⟨#[]⟩, .int .i64 0, .int .i64 (i : Int)] 40)).heap[w.heap.size]? = some (.cells #[.int .u8 0, .string ⟨#[]⟩, .string ⟨#[]⟩, .int .i64 0, .int .i64 (i : Int)] 40) := World.alloc_heap_new w _
  have hb0 : Below w.heap.size w (w.alloc (.cells #[.int .u8 0, .string ⟨#[]⟩, .string ⟨#[]⟩, .int .i64 0, .int .i64 (i : Int)] 40)) := own_below w _
  have HG0 := Lib.hid hg0
  have HB0 := Lib.hid hb0
  clear hg0 hb0
  go_enter Tryz.func11, Tryz.ntmps11
  go_wp2_with fail
  refine (HAT.out _).mono ?_
  rintro e w' ⟨rfl, rfl⟩
  go_wp2_with fail
  refine (HDY.out _).mono ?_
  rintro e w1 ⟨rfl, b1⟩
  have hg : w1.heap[w.heap.size]? = some (.cells #[.int .u8 0, .string ⟨#[]⟩, .string ⟨#[]⟩, .int .i64 0, .int .i64 (i : Int)] 40) := by rw [b1.block _ (by simp)]; exact HG0.out
  have hbel : Below w.heap.size w w1 := HB0.out.trans (b1.mono HB0.out.size)
  obtain ⟨c0, c1, c2, c3, c4, fz⟩ := tcells hg
  have hz1 : w.heap.size < w1.heap.size := by have := b1.size; simp at this; omega
  have HG := Lib.hid hg
  have HBEL := Lib.hid hbel
  clear hg hbel b1
  go_wp2_with fail
  refine (HN.out _).mono ?_
  rintro e w3 ⟨⟨rt, en, rfl⟩, b3⟩
  have hg3 : w3.heap[w.heap.size]? = some (.cells #[.int .u8 3, .string ⟨#[]⟩, .string ⟨#[]⟩, .int .i64 0, .int .i64 (i : Int)] 40) := by
    rw [b3.block _ (by show _ < (w1.setCell _ _).heap.size; simp; exact hz1)]; exact put0 HG.out _
  have hb3 : Below w.heap.size w w3 := (HBEL.out.setCell (p := ⟨w.heap.size, 0, none⟩) (Nat.le_refl _) _).trans (b3.mono (by simp; omega))
  obtain ⟨d0, d1, d2, d3, d4, fz3⟩ := tcells hg3
  have HG3 := Lib.hid hg3
  have HB3 := Lib.hid hb3
  clear hg3 hb3 b3 c0 c1 c2 c3 c4 fz
  go_wp2_with fail
  refine bodyPost_ret (results_row_tmp2 rfl _ _ w.heap.size 40 _ _ rfl (put5_heap (put2 HG3.out _) _ _ _ _ _) Tryz.underlying40 rfl rfl) rfl ?_
  show OnePost _ _ _ _ _
  rw [HR.out]
  exact onePost_no (put5_below (HB3.out.setCell (p := ⟨w.heap.size, 2, none⟩) (Nat.le_refl _) _) (Nat.le_refl _) _ _ _ _ _)

set_option maxHeartbeats 2000000 in
set_option maxRecDepth 100000 in
theorem one_num_neg1 (s : ByteArray) (i : Nat) (R : OneR) (w : World) (_hs : s.size ≤ 100000) (_hi : i < s.size) (rt : ByteArray) (n : Nat) (hR : R = .yes ⟨3, bsL [], rt, 0, 0⟩ n) (t45 : ((s[i].toNat : Int) == 45) = true) (HAT : Hid (∀ W, Calls Tryz.prog 18 #[.string s, .int .i64 (i : Int)] W (RetI W 4))) (HAT2 : Hid (∀ W, Calls Tryz.prog 18 #[.string s, .int .i64 ((i : Int) + 1)] W (RetI W 2))) (HN : Hid (∀ W, Calls Tryz.prog 24 #[.string s, .int .i64 (i : Int)] W (NumPost W i (.yes ⟨3, bsL [], rt, 0, 0⟩ n)))) : Calls Tryz.prog 11 #[.string s, .int .i64 (i : Int)] w (OnePost w i R) := by
  have HR := Lib.hid hR
  clear hR
  have hg0 : (w.alloc (.cells #[.int .u8 0, .string ⟨#[]⟩, .string ⟨#[]⟩, .int .i64 0, .int .i64 (i : Int)] 40)).heap[w.heap.size]? = some (.cells #[.int .u8 0, .string ⟨#[]⟩, .string ⟨#[]⟩, .int .i64 0, .int .i64 (i : Int)] 40) := World.alloc_heap_new w _
  have hb0 : Below w.heap.size w (w.alloc (.cells #[.int .u8 0, .string ⟨#[]⟩, .string ⟨#[]⟩, .int .i64 0, .int .i64 (i : Int)] 40)) := own_below w _
  have HG0 := Lib.hid hg0
  have HB0 := Lib.hid hb0
  clear hg0 hb0
  go_enter Tryz.func11, Tryz.ntmps11
  go_wp2_with fail
  refine (HAT.out _).mono ?_
  rintro e w' ⟨rfl, rfl⟩
  obtain ⟨W2, hW2⟩ : ∃ W2, W2 = (w.alloc (.cells #[.int .u8 0, .string ⟨#[]⟩, .string ⟨#[]⟩, .int .i64 0, .int .i64 (i : Int)] 40)) := ⟨_, rfl⟩
  have hg : W2.heap[w.heap.size]? = some (.cells #[.int .u8 0, .string ⟨#[]⟩, .string ⟨#[]⟩, .int .i64 0, .int .i64 (i : Int)] 40) := by rw [hW2]; exact World.alloc_heap_new w _
  have hbel : Below w.heap.size w W2 := by rw [hW2]; exact own_below w _
  rw [← hW2]
  obtain ⟨c0, c1, c2, c3, c4, fz⟩ := tcells hg
  have HG := Lib.hid hg
  have HBEL := Lib.hid hbel
  have hz1 : w.heap.size < W2.heap.size := (Array.getElem?_eq_some_iff.1 hg).1
  clear hW2 hg hbel
  go_wp2_with fail
  refine (HAT2.out _).mono ?_
  rintro e w' ⟨rfl, rfl⟩
  go_wp2_with fail
  refine (HN.out _).mono ?_
  rintro e w3 ⟨rfl, b3⟩
  have hg3 : w3.heap[w.heap.size]? = some (.cells #[.int .u8 3, .string ⟨#[]⟩, .string ⟨#[]⟩, .int .i64 0, .int .i64 (i : Int)] 40) := by
    rw [b3.block _ (by show _ < (W2.setCell _ _).heap.size; simp; exact hz1)]; exact put0 HG.out _
  have hb3 : Below w.heap.size w w3 := (HBEL.out.setCell (p := ⟨w.heap.size, 0, none⟩) (Nat.le_refl _) _).trans (b3.mono (by simp; omega))
  obtain ⟨d0, d1, d2, d3, d4, fz3⟩ := tcells hg3
  have HG3 := Lib.hid hg3
  have HB3 := Lib.hid hb3
  clear hg3 hb3 b3 c0 c1 c2 c3 c4 fz
  go_wp2_with fail
  refine bodyPost_ret (results_row_tmp2 rfl _ _ w.heap.size 40 _ _ rfl (put5_heap (put2 HG3.out _) _ _ _ _ _) Tryz.underlying40 rfl rfl) rfl ?_
  show OnePost _ _ _ _ _
  rw [HR.out]
  exact onePost_yes rfl (put5_below (HB3.out.setCell (p := ⟨w.heap.size, 2, none⟩) (Nat.le_refl _) _) (Nat.le_refl _) _ _ _ _ _)

set_option maxHeartbeats 2000000 in
set_option maxRecDepth 100000 in
theorem one_num_neg0 (s : ByteArray) (i : Nat) (R : OneR) (w : World) (_hs : s.size ≤ 100000) (_hi : i < s.size) (er : Int) (hR : R = .no er) (t45 : ((s[i].toNat : Int) == 45) = true) (HAT : Hid (∀ W, Calls Tryz.prog 18 #[.string s, .int .i64 (i : Int)] W (RetI W 4))) (HAT2 : Hid (∀ W, Calls Tryz.prog 18 #[.string s, .int .i64 ((i : Int) + 1)] W (RetI W 2))) (HN : Hid (∀ W, Calls Tryz.prog 24 #[.string s, .int .i64 (i : Int)] W (NumPost W i (.no er)))) : Calls Tryz.prog 11 #[.string s, .int .i64 (i : Int)] w (OnePost w i R) := by
  have HR := Lib.hid hR
  clear hR
  have hg0 : (w.alloc (.cells #[.int .u8 0, .string ⟨#[]⟩, .string ⟨#[]⟩, .int .i64 0, .int .i64 (i : Int)] 40)).heap[w.heap.size]? = some (.cells #[.int .u8 0, .string ⟨#[]⟩, .string ⟨#[]⟩, .int .i64 0, .int .i64 (i : Int)] 40) := World.alloc_heap_new w _
  have hb0 : Below w.heap.size w (w.alloc (.cells #[.int .u8 0, .string ⟨#[]⟩, .string ⟨#[]⟩, .int .i64 0, .int .i64 (i : Int)] 40)) := own_below w _
  have HG0 := Lib.hid hg0
  have HB0 := Lib.hid hb0
  clear hg0 hb0
  go_enter Tryz.func11, Tryz.ntmps11
  go_wp2_with fail
  refine (HAT.out _).mono ?_
  rintro e w' ⟨rfl, rfl⟩
  obtain ⟨W2, hW2⟩ : ∃ W2, W2 = (w.alloc (.cells #[.int .u8 0, .string ⟨#[]⟩, .string ⟨#[]⟩, .int .i64 0, .int .i64 (i : Int)] 40)) := ⟨_, rfl⟩
  have hg : W2.heap[w.heap.size]? = some (.cells #[.int .u8 0, .string ⟨#[]⟩, .string ⟨#[]⟩, .int .i64 0, .int .i64 (i : Int)] 40) := by rw [hW2]; exact World.alloc_heap_new w _
  have hbel : Below w.heap.size w W2 := by rw [hW2]; exact own_below w _
  rw [← hW2]
  obtain ⟨c0, c1, c2, c3, c4, fz⟩ := tcells hg
  have HG := Lib.hid hg
  have HBEL := Lib.hid hbel
  have hz1 : w.heap.size < W2.heap.size := (Array.getElem?_eq_some_iff.1 hg).1
  clear hW2 hg hbel
  go_wp2_with fail
  refine (HAT2.out _).mono ?_
  rintro e w' ⟨rfl, rfl⟩
  go_wp2_with fail
  refine (HN.out _).mono ?_
  rintro e w3 ⟨⟨rt, en, rfl⟩, b3⟩
  have hg3 : w3.heap[w.heap.size]? = some (.cells #[.int .u8 3, .string ⟨#[]⟩, .string ⟨#[]⟩, .int .i64 0, .int .i64 (i : Int)] 40) := by
    rw [b3.block _ (by show _ < (W2.setCell _ _).heap.size; simp; exact hz1)]; exact put0 HG.out _
  have hb3 : Below w.heap.size w w3 := (HBEL.out.setCell (p := ⟨w.heap.size, 0, none⟩) (Nat.le_refl _) _).trans (b3.mono (by simp; omega))
  obtain ⟨d0, d1, d2, d3, d4, fz3⟩ := tcells hg3
  have HG3 := Lib.hid hg3
  have HB3 := Lib.hid hb3
  clear hg3 hb3 b3 c0 c1 c2 c3 c4 fz
  go_wp2_with fail
  refine bodyPost_ret (results_row_tmp2 rfl _ _ w.heap.size 40 _ _ rfl (put5_heap (put2 HG3.out _) _ _ _ _ _) Tryz.underlying40 rfl rfl) rfl ?_
  show OnePost _ _ _ _ _
  rw [HR.out]
  exact onePost_no (put5_below (HB3.out.setCell (p := ⟨w.heap.size, 2, none⟩) (Nat.le_refl _) _) (Nat.le_refl _) _ _ _ _ _)

set_option maxHeartbeats 2000000 in
set_option maxRecDepth 100000 in
theorem one_mark (s : ByteArray) (i : Nat) (R : OneR) (w : World) (_hs : s.size ≤ 100000) (_hi : i < s.size) (tx : ByteArray) (htx : s.extract i (i + 1) = tx) (hR : R = .yes ⟨5, tx, bsL [], 0, 0⟩ 1) (t45 : ((s[i].toNat : Int) == 45) = false) (HAT : Hid (∀ W, Calls Tryz.prog 18 #[.string s, .int .i64 (i : Int)] W (RetI W 5))) : Calls Tryz.prog 11 #[.string s, .int .i64 (i : Int)] w (OnePost w i R) := by
  have HR := Lib.hid hR
  have HTX := Lib.hid htx
  clear hR htx
  go_enter Tryz.func11, Tryz.ntmps11
  go_wp2_with fail
  refine (HAT.out _).mono ?_
  rintro e w' ⟨rfl, rfl⟩
  obtain ⟨W2, hW2⟩ : ∃ W2, W2 = (w.alloc (.cells #[.int .u8 0, .string ⟨#[]⟩, .string ⟨#[]⟩, .int .i64 0, .int .i64 (i : Int)] 40)) := ⟨_, rfl⟩
  have hg : W2.heap[w.heap.size]? = some (.cells #[.int .u8 0, .string ⟨#[]⟩, .string ⟨#[]⟩, .int .i64 0, .int .i64 (i : Int)] 40) := by rw [hW2]; exact World.alloc_heap_new w _
  have hbel : Below w.heap.size w W2 := by rw [hW2]; exact own_below w _
  rw [← hW2]
  obtain ⟨c0, c1, c2, c3, c4, fz⟩ := tcells hg
  have HG := Lib.hid hg
  have HBEL := Lib.hid hbel
  clear hW2 hg hbel
  go_wp2_with fail
  go_region
  rw [HTX.out]
  go_wp2_with fail
  refine bodyPost_ret (results_row_tmp2 rfl _ _ w.heap.size 40 _ _ rfl (put5_drew (put01 HG.out _ _) _ _ _ _ _) Tryz.underlying40 rfl rfl) rfl ?_
  show OnePost _ _ _ _ _
  rw [HR.out]
  exact onePost_yes (by omega) (put5_below ((HBEL.out.setCell (p := ⟨w.heap.size, 0, none⟩) (Nat.le_refl _) _).setCell (p := ⟨w.heap.size, 1, none⟩) (Nat.le_refl _) _) (Nat.le_refl _) _ _ _ _ _).drew

set_option maxHeartbeats 2000000 in
set_option maxRecDepth 100000 in
theorem one_minus (s : ByteArray) (i : Nat) (R : OneR) (w : World) (_hs : s.size ≤ 100000) (_hi : i < s.size) (tx : ByteArray) (htx : s.extract i (i + 1) = tx) (hR : R = .yes ⟨5, tx, bsL [], 0, 0⟩ 1) (a2 : Int) (ta : (a2 == 2) = false) (t45 : ((s[i].toNat : Int) == 45) = true) (HAT : Hid (∀ W, Calls Tryz.prog 18 #[.string s, .int .i64 (i : Int)] W (RetI W 4))) (HAT2 : Hid (∀ W, Calls Tryz.prog 18 #[.string s, .int .i64 ((i : Int) + 1)] W (RetI W a2))) : Calls Tryz.prog 11 #[.string s, .int .i64 (i : Int)] w (OnePost w i R) := by
  have HR := Lib.hid hR
  have HTX := Lib.hid htx
  clear hR htx
  go_enter Tryz.func11, Tryz.ntmps11
  go_wp2_with fail
  refine (HAT.out _).mono ?_
  rintro e w' ⟨rfl, rfl⟩
  obtain ⟨W2, hW2⟩ : ∃ W2, W2 = (w.alloc (.cells #[.int .u8 0, .string ⟨#[]⟩, .string ⟨#[]⟩, .int .i64 0, .int .i64 (i : Int)] 40)) := ⟨_, rfl⟩
  have hg : W2.heap[w.heap.size]? = some (.cells #[.int .u8 0, .string ⟨#[]⟩, .string ⟨#[]⟩, .int .i64 0, .int .i64 (i : Int)] 40) := by rw [hW2]; exact World.alloc_heap_new w _
  have hbel : Below w.heap.size w W2 := by rw [hW2]; exact own_below w _
  rw [← hW2]
  obtain ⟨c0, c1, c2, c3, c4, fz⟩ := tcells hg
  have HG := Lib.hid hg
  have HBEL := Lib.hid hbel
  clear hW2 hg hbel
  go_wp2_with fail
  refine (HAT2.out _).mono ?_
  rintro e w' ⟨rfl, rfl⟩
  go_wp2_with fail
  go_region
  rw [HTX.out]
  go_wp2_with fail
  refine bodyPost_ret (results_row_tmp2 rfl _ _ w.heap.size 40 _ _ rfl (put5_drew (put01 HG.out _ _) _ _ _ _ _) Tryz.underlying40 rfl rfl) rfl ?_
  show OnePost _ _ _ _ _
  rw [HR.out]
  exact onePost_yes (by omega) (put5_below ((HBEL.out.setCell (p := ⟨w.heap.size, 0, none⟩) (Nat.le_refl _) _).setCell (p := ⟨w.heap.size, 1, none⟩) (Nat.le_refl _) _) (Nat.le_refl _) _ _ _ _ _).drew

set_option maxHeartbeats 2000000 in
set_option maxRecDepth 100000 in
theorem one_none (s : ByteArray) (i : Nat) (R : OneR) (w : World) (_hs : s.size ≤ 100000) (_hi : i < s.size) (C : Int) (hR : R = .no 12) (t45 : ((s[i].toNat : Int) == 45) = false) (k2 : (C == 2) = false) (k3 : (C == 3) = false) (k5 : (C == 5) = false) (k6 : (C == 6) = false) (HAT : Hid (∀ W, Calls Tryz.prog 18 #[.string s, .int .i64 (i : Int)] W (RetI W C))) : Calls Tryz.prog 11 #[.string s, .int .i64 (i : Int)] w (OnePost w i R) := by
  have HR := Lib.hid hR
  clear hR
  go_enter Tryz.func11, Tryz.ntmps11
  go_wp2_with fail
  refine (HAT.out _).mono ?_
  rintro e w' ⟨rfl, rfl⟩
  obtain ⟨W2, hW2⟩ : ∃ W2, W2 = (w.alloc (.cells #[.int .u8 0, .string ⟨#[]⟩, .string ⟨#[]⟩, .int .i64 0, .int .i64 (i : Int)] 40)) := ⟨_, rfl⟩
  have hg : W2.heap[w.heap.size]? = some (.cells #[.int .u8 0, .string ⟨#[]⟩, .string ⟨#[]⟩, .int .i64 0, .int .i64 (i : Int)] 40) := by rw [hW2]; exact World.alloc_heap_new w _
  have hbel : Below w.heap.size w W2 := by rw [hW2]; exact own_below w _
  rw [← hW2]
  obtain ⟨c0, c1, c2, c3, c4, fz⟩ := tcells hg
  have HG := Lib.hid hg
  have HBEL := Lib.hid hbel
  clear hW2 hg hbel
  go_wp2_with fail
  refine bodyPost_ret (results_row_tmp2 rfl _ _ w.heap.size 40 _ _ rfl (put5_heap (HG.out) _ _ _ _ _) Tryz.underlying40 rfl rfl) rfl ?_
  show OnePost _ _ _ _ _
  rw [HR.out]
  exact onePost_no (put5_below (HBEL.out) (Nat.le_refl _) _ _ _ _ _)

theorem idx_spn (l : List UInt8) : Lib.indexByte l 34 = if spn (fun x => decide (x.toNat ≠ 34)) l < l.length then (spn (fun x => decide (x.toNat ≠ 34)) l : Int) else -1 := by
  obtain ⟨p, hp⟩ : ∃ p : UInt8 → Bool, p = fun x => decide (x.toNat ≠ 34) := ⟨_, rfl⟩
  rw [← hp]
  have hpc : ∀ c : UInt8, p c = true ↔ c.toNat ≠ 34 := fun c => by rw [hp]; simp
  clear hp
  induction l with
  | nil => rfl
  | cons c l ih =>
    unfold Lib.indexByte
    by_cases h : c.toNat = 34
    · have e : c = 34 := by rw [← UInt8.toNat_inj]; exact h
      have e2 : spn p (c :: l) = 0 := by unfold spn; rw [if_neg (fun a => (hpc c).1 a h)]
      rw [e2, if_pos (by rw [e]; rfl), if_pos (by simp)]
      rfl
    · have e2 : spn p (c :: l) = spn p l + 1 := by
        show (if p c = true then spn p l + 1 else 0) = _
        rw [if_pos ((hpc c).2 h)]
      have e3 : ¬ (c == 34) = true := fun a => h (by rw [beq_iff_eq.1 a]; rfl)
      rw [e2, if_neg e3, ih, List.length_cons]
      by_cases h2 : spn p l < l.length
      · have e4 : ¬ (((spn p l : Nat) : Int) == -1) = true := fun a => by have := beq_iff_eq.1 a; omega
        rw [if_pos h2, if_neg e4, if_pos (by omega)]
        omega
      · rw [if_neg h2, if_pos (by decide), if_neg (by omega)]
theorem numK_tok {l : List UInt8} {t : Tk} {n : Nat} (h : numK l = .yes t n) : t = ⟨3, bsL [], t.rat, 0, 0⟩ := by
  have key : ∀ {neg : Bool} {front back : List UInt8} {mk : Nat} {ended : Bool} {m : Nat}, numO neg front mk back ended m = .yes t n → t = ⟨3, bsL [], t.rat, 0, 0⟩ := by
    intro neg front back mk ended m h
    unfold numO at h
    split at h
    · cases h
    · split at h
      · cases h
      · injection h with h _; rw [← h]
  unfold numK at h
  dsimp only at h
  split at h
  · exact key h
  · exact key h
theorem numK_err {l : List UInt8} {e : Int} (h : numK l = .no e) : (e != 0) = true := by
  have key : ∀ {neg : Bool} {front back : List UInt8} {mk : Nat} {ended : Bool} {m : Nat}, numO neg front mk back ended m = .no e → (e != 0) = true := by
    intro neg front back mk ended m h
    unfold numO at h
    split at h
    · injection h with h; subst h; rfl
    · split at h
      · injection h with h; subst h; rfl
      · cases h
  unfold numK at h
  dsimp only at h
  split at h
  · exact key h
  · exact key h
theorem one_any (s : ByteArray) (i : Nat) (w : World) (hs : s.size ≤ 100000) (hi : i < s.size) : Calls Tryz.prog 11 #[.string s, .int .i64 (i : Int)] w (OnePost w i (oneL (s.data.toList.drop i))) := by
  have hli := data_drop s i hi
  obtain ⟨r, hr⟩ : ∃ r, r = s.data.toList.drop (i + 1) := ⟨_, rfl⟩
  rw [← hr] at hli
  have hrl : r.length = s.size - (i + 1) := by rw [hr, List.length_drop, data_len]
  have HAT : Hid (∀ W, Calls Tryz.prog 18 #[.string s, .int .i64 (i : Int)] W (RetI W (classN s[i]))) := fun W => by rw [← lat_lt hi]; exact lat_any s i W
  have HAT2 : Hid (∀ W, Calls Tryz.prog 18 #[.string s, .int .i64 ((i : Int) + 1)] W (RetI W (atN r))) := fun W => by
    rw [show ((i : Int) + 1) = ((i + 1 : Nat) : Int) by omega, hr]; exact lat_any s (i + 1) W
  obtain ⟨p2, p3, p4, p6, p1, p7, p5⟩ := cls_parts s[i]
  obtain ⟨C, hC⟩ : ∃ C, C = classN s[i] := ⟨_, rfl⟩
  rw [← hC] at HAT p2 p3 p4 p6 p1 p7 p5
  have extL : ∀ a b : Nat, i ≤ a → (s.extract a b) = bsL (((s[i] :: r).drop (a - i)).take (b - a)) := fun a b h => Go.WideShapes.bytes_inj (by
    rw [ext_list, ← hli, List.drop_drop, show i + (a - i) = a by omega]; rfl)
  have hmin : ∀ b, ((s[i].toNat : Int) == 45) = b ↔ (decide (s[i].toNat = 45)) = b := fun b => by
    have : ((s[i].toNat : Int) == 45) = decide (s[i].toNat = 45) := by rw [Bool.eq_iff_iff]; simp; omega
    rw [this]
  have HDYg : ∀ v, dayQ (s[i] :: r) = v → Hid (∀ W, Calls Tryz.prog 21 #[.string (s.extract i s.size)] W (DayPost W v)) := fun v hv W => by
    have := day_any (s.extract i s.size) W (by simp; omega)
    rw [ext_list, List.take_of_length_le (by rw [List.length_drop, data_len]; exact Nat.le_refl _), hli, hv] at this
    exact this
  rw [hli]
  rcases oneL_ways s[i] r with w1 | w1 | w1 | ⟨w1, v1⟩ | ⟨w1, v1⟩ | ⟨w1, w2, w3, w4⟩
  · -- a word
    have hC3 := p3.2 w1
    rw [hC3] at HAT
    have hsp := spn_le wdQ r
    have hw : wdQ s[i] = true := by unfold wdQ; rw [w1]; rfl
    have hsp2 : spn wdQ (s.data.toList.drop i) = spn wdQ r + 1 := by rw [hli]; show (if wdQ s[i] = true then spn wdQ r + 1 else 0) = _; rw [if_pos hw]
    have HAF : Hid (∀ W : World, Calls Tryz.prog 17 #[.string s, .int .i64 (i : Int), .slice (some ⟨W.heap.size, 0, none⟩) 3 3] (W.alloc (.cells #[.int .i64 3, .int .i64 2, .int .i64 4] 3)) (RetI (W.alloc (.cells #[.int .i64 3, .int .i64 2, .int .i64 4] 3)) ((i + (spn wdQ r + 1) : Nat) : Int))) := fun W => by
      have := after_word s i (by omega) (by omega) W
      rw [hsp2] at this; exact this
    have htx : s.extract i (i + (spn wdQ r + 1)) = bsL ((s[i] :: r).take (spn wdQ r + 1)) := by
      rw [extL _ _ (Nat.le_refl _)]; congr 1; rw [Nat.sub_self, Nat.add_sub_cancel_left]; rfl
    have hsz : (bsL ((s[i] :: r).take (spn wdQ r + 1))).size = spn wdQ r + 1 := by rw [← data_len]; show ((s[i] :: r).take _).length = _; simp; omega
    rw [oneL_word w1]
    by_cases h40 : 40 < spn wdQ r + 1
    · rw [if_pos h40]
      exact one_word1 s i _ w _ _ (by omega) (by omega) htx (by rw [hsz]; simp; omega) rfl HAT HAF
    · rw [if_neg h40]
      exact one_word0 s i _ w _ _ (by omega) (by omega) htx (by rw [hsz]; simp; omega) (by congr 1; omega) HAT HAF
  · -- a quote
    have hC6 := p6.2 w1
    rw [hC6] at HAT
    have hix := idx_spn r
    obtain ⟨k, hk⟩ : ∃ k, k = spn (fun x => decide (x.toNat ≠ 34)) r := ⟨_, rfl⟩
    rw [oneL_quote w1, ← hk]
    rw [← hk] at hix
    have HIX : Hid (∀ W, Calls Tryz.prog 19 #[.string (s.extract (i + 1) s.size), .int .u8 34] W fun e w' => e = .returned (.int .i64 (if k < r.length then (k : Int) else -1)) ∧ W = w') := fun W => by
      have := Tryz.strings_IndexByte (s.extract (i + 1) s.size) 34 W
      rw [ext_list, List.take_of_length_le (by rw [List.length_drop, data_len]; exact Nat.le_refl _), ← hr] at this
      refine this.mono fun e w' ⟨a, b⟩ => ⟨?_, b.symm⟩
      rw [a, ← hix]
      rfl
    by_cases h1 : k < r.length
    · rw [if_pos h1] at HIX
      have htx : s.extract (i + 1) (i + 1 + k) = bsL (r.take k) := by
        rw [extL _ _ (by omega)]; congr 1; rw [show i + 1 - i = 1 by omega, Nat.add_sub_cancel_left]; rfl
      have HNM : ∀ b, nmB (r.take k) = b → Hid (∀ W, Calls Tryz.prog 20 #[.string (bsL (r.take k))] W (RetB W b)) := fun b hb W => by
        have := name_any (bsL (r.take k)) W
        rw [bsL_list, hb] at this
        exact this
      cases hb : nmB (r.take k) with
      | false =>
        rw [if_neg (by rintro ⟨_, h⟩; cases h)]
        exact one_quote_bad s i _ w hs hi k _ (by omega) htx rfl HAT HIX (HNM _ hb)
      | true =>
        rw [if_pos ⟨h1, rfl⟩]
        exact one_quote s i _ w hs hi k _ (by omega) htx rfl HAT HIX (HNM _ hb)
    · rw [if_neg h1] at HIX
      rw [if_neg (fun h => h1 h.1)]
      exact one_quote_none s i _ w hs hi rfl HAT HIX
  · -- a date
    have hd := dayQ_dg w1
    have hC2 := p2.2 hd
    rw [hC2] at HAT
    have h10 := dayQ_len w1
    rw [List.length_cons] at h10
    have HDY := HDYg true w1
    have hdr : (s[i] :: r).drop 10 = s.data.toList.drop (i + 10) := by rw [← hli, List.drop_drop]
    have HCL : ∀ b, endQ ((s[i] :: r).drop 10) = b → Hid (∀ W, Calls Tryz.prog 22 #[.string s, .int .i64 ((i : Int) + 10)] W (RetB W b)) := fun b hb W => by
      rw [show ((i : Int) + 10) = ((i + 10 : Nat) : Int) by omega, ← hb, hdr]; exact clean_any s (i + 10) W
    rw [oneL_day w1]
    cases he : endQ ((s[i] :: r).drop 10) with
    | false =>
      rw [if_neg (by decide)]
      exact one_day_end s i _ w hs hi rfl (by omega) HAT HDY (HCL _ he)
    | true =>
      rw [if_pos rfl]
      have htx : s.extract i (i + 10) = bsL ((s[i] :: r).take 10) := by
        rw [extL _ _ (Nat.le_refl _)]; congr 1; rw [Nat.sub_self, Nat.add_sub_cancel_left]; rfl
      have hdt := fun day => datV_text (day := day) w1
      rcases dparse_any (bsL ((s[i] :: r).take 10)) with ⟨day, hday, hp⟩ | ⟨hno, hp⟩
      · rw [bsL_list] at hday
        rw [(hdt day).2 hday]
        exact one_day_ok s i _ w hs hi (day : Int) _ htx rfl (by omega) HAT HDY (HCL _ he) (Lib.hid hp)
      · have hn : datV (s[i] :: r) = none := by
          cases hv : datV (s[i] :: r) with
          | none => rfl
          | some day => exact absurd ((hdt day).1 hv) (by rw [← bsL_list (List.take 10 _)]; exact hno day)
        rw [hn]
        exact one_day_bad s i _ w hs hi _ htx rfl (by omega) HAT HDY (HCL _ he) (Lib.hid hp)
  · -- a number
    rw [oneL_num w1 v1]
    have HN : ∀ R, numK (s[i] :: r) = R → Hid (∀ W, Calls Tryz.prog 24 #[.string s, .int .i64 (i : Int)] W (NumPost W i R)) := fun R hR W => by
      have := number_any s i W hs hi (by rw [← hr]; exact v1)
      rw [hli, hR] at this
      exact this
    have hdy := HDYg false (by simpa using w1)
    rcases v1 with hd | ⟨h45, hd⟩
    · have hC2 := p2.2 hd
      rw [hC2] at HAT
      cases hk : numK (s[i] :: r) with
      | no er => exact one_num_dig0 s i _ w hs hi er rfl HAT hdy (HN _ hk)
      | yes t n =>
        have ht := numK_tok hk
        have HN2 := HN _ hk
        rw [ht] at HN2 ⊢
        exact one_num_dig1 s i _ w hs hi t.rat n rfl HAT hdy HN2
    · have hC4 : C = 4 := by
        rw [hC]; unfold classN letB; rw [h45]; rfl
      rw [hC4] at HAT
      have ha2 : atN r = 2 := by
        have := at_dig (l := r)
        rw [hd] at this
        simpa using this
      rw [ha2] at HAT2
      have t45 : ((s[i].toNat : Int) == 45) = true := (hmin true).2 (decide_eq_true h45)
      cases hk : numK (s[i] :: r) with
      | no er => exact one_num_neg0 s i _ w hs hi er rfl t45 HAT HAT2 (HN _ hk)
      | yes t n =>
        have ht := numK_tok hk
        have HN2 := HN _ hk
        rw [ht] at HN2 ⊢
        exact one_num_neg1 s i _ w hs hi t.rat n rfl t45 HAT HAT2 HN2
  · -- a mark
    rw [oneL_mark w1 v1]
    have htx : s.extract i (i + 1) = bsL [s[i]] := by
      rw [extL _ _ (Nat.le_refl _)]; congr 1; rw [Nat.sub_self, Nat.add_sub_cancel_left]; rfl
    by_cases h45 : s[i].toNat = 45
    · have hC4 : C = 4 := by
        rw [hC]; unfold classN letB; rw [h45]; rfl
      rw [hC4] at HAT
      have t45 : ((s[i].toNat : Int) == 45) = true := (hmin true).2 (decide_eq_true h45)
      have ha2 : (atN r == 2) = false := by
        rw [at_dig]
        cases hd : dgH r with
        | false => rfl
        | true => exact absurd ⟨h45, hd⟩ v1
      exact one_minus s i _ w hs hi _ htx rfl (atN r) ha2 t45 HAT HAT2
    · have hC5 : C = 5 := by
        rcases p5.2 w1 with h | h
        · exact h
        · exact absurd h h45
      rw [hC5] at HAT
      exact one_mark s i _ w hs hi _ htx rfl ((hmin false).2 (decide_eq_false h45)) HAT
  · -- none
    rw [oneL_none w1 w2 w3 w4]
    have n2 : ¬ C = 2 := fun h => w3 (p2.1 h)
    have n3 : ¬ C = 3 := fun h => w1 (p3.1 h)
    have n5 : ¬ C = 5 := fun h => w4 (p5.1 (.inl h))
    have n6 : ¬ C = 6 := fun h => w2 (p6.1 h)
    have n45 : ¬ s[i].toNat = 45 := fun h => w4 (p5.1 (.inr h))
    exact one_none s i _ w hs hi C rfl ((hmin false).2 (decide_eq_false n45)) (by simpa using n2) (by simpa using n3) (by simpa using n5) (by simpa using n6) HAT

end Go.Proofs.YtnmiiimbjojcmaaGreatDoor
