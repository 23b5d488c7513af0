/-
  The look-ups in the program's forms, in general. No condition. The program's event.Parse walked: words that are no event's.
-/
import Derived.Test.YtcfgpojogomkhaaGreatDoorVv
import Derived.Deep.RegionWith
import Derived.Laws.ResultCell
import Derived.WalkSpells
namespace Go.Proofs.YtcfgpojogomkhaaGreatDoor
open Go.RowKit Go.Maps Go.WideElems Go.WideShapes Go.ChangeShapes Go.WideMaps

/-- The kind of a word; 0 for none. -/
def kdF (l : List UInt8) : Int := if l = fmK1 then 1 else if l = fmK2 then 2 else if l = fmK3 then 3 else if l = fmK4 then 4 else if l = fmK5 then 5 else 0
/-- What the words of a kind are. -/
def wdF (k : Int) : List UInt8 := if k = 1 then [110, 100, 118] else if k = 2 then [112, 110, 100, 115] else if k = 3 then [116, 118] else if k = 4 then [116, 115] else if k = 5 then [116] else []
theorem formsD_look (l : List UInt8) : formsD.atKey (.string l) (.held (fmV 0 [])) = .held (fmV (kdF l) (wdF (kdF l))) ∧ Maps.has formsD (.string l) = decide (kdF l ≠ 0) := by
  by_cases h1 : l = fmK1
  · subst h1; exact ⟨by kernel_rfl, by kernel_rfl⟩
  by_cases h2 : l = fmK2
  · subst h2; exact ⟨by kernel_rfl, by kernel_rfl⟩
  by_cases h3 : l = fmK3
  · subst h3; exact ⟨by kernel_rfl, by kernel_rfl⟩
  by_cases h4 : l = fmK4
  · subst h4; exact ⟨by kernel_rfl, by kernel_rfl⟩
  by_cases h5 : l = fmK5
  · subst h5; exact ⟨by kernel_rfl, by kernel_rfl⟩
  have hk : kdF l = 0 := by unfold kdF; simp [h1, h2, h3, h4, h5]
  have n1 : Lit.string l ≠ Lit.string fmK1 := by simpa using h1
  have n2 : Lit.string l ≠ Lit.string fmK2 := by simpa using h2
  have n3 : Lit.string l ≠ Lit.string fmK3 := by simpa using h3
  have n4 : Lit.string l ≠ Lit.string fmK4 := by simpa using h4
  have n5 : Lit.string l ≠ Lit.string fmK5 := by simpa using h5
  unfold formsD
  rw [atKey_put_other n5, atKey_put_other n4, atKey_put_other n3, atKey_put_other n2, atKey_put_other n1, has_put_other n5, has_put_other n4, has_put_other n3, has_put_other n2, has_put_other n1, hk]
  exact ⟨rfl, rfl⟩

theorem forms_look {w : World} {b : Nat} (h : w.ownsMap Tryz.prog 9 selfR b 5 formsD) (s : ByteArray) (hs : s.size ≤ maxLen) :
    (Instr.lookup 60 (.map (some b)) (.string s) true).run Tryz.prog w = .ok (.tuple #[fmV (kdF s.data.toList) (wdF (kdF s.data.toList)), .bool (decide (kdF s.data.toList ≠ 0))]) w := by
  obtain ⟨x, ps, hrun, hx⟩ := h.look_ok keyedS Tryz.underlying60 (z := fmV 0 []) (by kernel_rfl) rfl (keyS s hs)
  rw [(formsD_look _).1] at hx
  rw [(formsD_look _).2] at hrun
  have : x = fmV (kdF s.data.toList) (wdF (kdF s.data.toList)) := by
    have := congrArg (fun o => o.map (·.1)) hx
    simp [selfR] at this
    exact this
  rw [← this, hrun]

end Go.Proofs.YtcfgpojogomkhaaGreatDoor

namespace Go.Proofs.YtcfgpojogomkhaaGreatDoor
open Go.RowKit

def zEv : Value := .agg #[.int .u8 0, .int .i64 0, .int .i64 0, .int .i64 0, .int .i64 0, .string ⟨#[]⟩, .string ⟨#[]⟩, .string ⟨#[]⟩, .bool false]
/-- What strings.Split hands back. -/
def SpC (w : World) (s : ByteArray) (ws : List ByteArray) (n : Nat) : Prop := ∀ W : World, Below w.heap.size w W → Calls Tryz.prog 30 #[.string s, .string ⟨#[32]⟩] W fun e w' => e = .returned (.slice (some ⟨W.heap.size, 0, none⟩) n n) ∧ w' = W.alloc (.cells (ws.map Value.string).toArray 9)

/-- A block's cells behind a store. -/
theorem objSet {w : World} {g : Nat} {cs : Array Value} {t : TypeId} (h : w.heap[g]? = some (.cells cs t)) (i : Nat) (v : Value) : (w.setCell ⟨g, i, none⟩ v).heap[g]? = some (.cells (cs.setIfInBounds i v) t) := by
  simp [World.setCell, Array.getElem?_modify, h]
theorem objCell {w : World} {g : Nat} {cs : Array Value} {t : TypeId} (h : w.heap[g]? = some (.cells cs t)) (i : Nat) : w.cell? ⟨g, i, none⟩ = cs[i]? := by simp [World.cell?, h]
theorem objFrozen {w : World} {g : Nat} {cs : Array Value} {t : TypeId} (h : w.heap[g]? = some (.cells cs t)) (i : Nat) : w.frozen? ⟨g, i, none⟩ = false := by simp [World.frozen?, h]

theorem put9_heap {w : World} {g : Nat} {a0 a1 a2 a3 a4 a5 a6 a7 a8 : Value} {t : TypeId} (h : w.heap[g]? = some (.cells #[a0, a1, a2, a3, a4, a5, a6, a7, a8] t)) (b0 b1 b2 b3 b4 b5 b6 b7 b8 : Value) :
    (((((((((w.setCell ⟨g, 0, none⟩ b0).setCell ⟨g, 1, none⟩ b1).setCell ⟨g, 2, none⟩ b2).setCell ⟨g, 3, none⟩ b3).setCell ⟨g, 4, none⟩ b4).setCell ⟨g, 5, none⟩ b5).setCell ⟨g, 6, none⟩ b6).setCell ⟨g, 7, none⟩ b7).setCell ⟨g, 8, none⟩ b8).heap[g]? = some (.cells #[b0, b1, b2, b3, b4, b5, b6, b7, b8] t) := by
  have h8 := objSet (objSet (objSet (objSet (objSet (objSet (objSet (objSet (objSet h 0 b0) 1 b1) 2 b2) 3 b3) 4 b4) 5 b5) 6 b6) 7 b7) 8 b8
  simpa only [List.setIfInBounds_toArray, List.set_cons_zero, List.set_cons_succ] using h8
theorem put9_below {B : Nat} {w0 w : World} {g : Nat} (h : Below B w0 w) (hg : B ≤ g) (b0 b1 b2 b3 b4 b5 b6 b7 b8 : Value) :
    Below B w0 (((((((((w.setCell ⟨g, 0, none⟩ b0).setCell ⟨g, 1, none⟩ b1).setCell ⟨g, 2, none⟩ b2).setCell ⟨g, 3, none⟩ b3).setCell ⟨g, 4, none⟩ b4).setCell ⟨g, 5, none⟩ b5).setCell ⟨g, 6, none⟩ b6).setCell ⟨g, 7, none⟩ b7).setCell ⟨g, 8, none⟩ b8) :=
  ((((((((h.setCell hg b0).setCell hg b1).setCell hg b2).setCell hg b3).setCell hg b4).setCell hg b5).setCell hg b6).setCell hg b7).setCell hg b8
theorem zcells {w : World} {g : Nat} {a0 a1 a2 a3 a4 a5 a6 a7 a8 : Value} {t : TypeId} (h : w.heap[g]? = some (.cells #[a0, a1, a2, a3, a4, a5, a6, a7, a8] t)) : w.cell? ⟨g, 0, none⟩ = some a0 ∧ w.cell? ⟨g, 1, none⟩ = some a1 ∧ w.cell? ⟨g, 2, none⟩ = some a2 ∧ w.cell? ⟨g, 3, none⟩ = some a3 ∧ w.cell? ⟨g, 4, none⟩ = some a4 ∧ w.cell? ⟨g, 5, none⟩ = some a5 ∧ w.cell? ⟨g, 6, none⟩ = some a6 ∧ w.cell? ⟨g, 7, none⟩ = some a7 ∧ w.cell? ⟨g, 8, none⟩ = some a8 :=
  ⟨objCell h 0, objCell h 1, objCell h 2, objCell h 3, objCell h 4, objCell h 5, objCell h 6, objCell h 7, objCell h 8⟩
theorem zfrozen {w : World} {g : Nat} {cs : Array Value} {t : TypeId} (h : w.heap[g]? = some (.cells cs t)) : ∀ i, w.frozen? ⟨g, i, none⟩ = false := objFrozen h
theorem results_row_tmp {P : Program} {fn : Func} {p u : Tmp} {ty : TypeId} (h : fn.results = #[.cell p ty, .tmp u]) (tmps : Array Value) (w : World) (g : Nat) (t : TypeId) (cs : Array Value) (d : TypeDesc)
    (hp : tmps.getD p undef = .pointer (some ⟨g, 0, none⟩)) (hg : w.heap[g]? = some (.cells cs t))
    (hu : P.underlying ty = some d) (hd : (match d with | .struct _ | .array _ _ => true | _ => false) = true) (hi : (P.info? ty).map (·.size) = some cs.size) :
    (results fn tmps).run P w = .ok (.tuple #[.agg cs, tmps.getD u undef]) w := by
  rw [results_cell_tmp h, hp]
  simp [asAddr, run_loadVar_row w g t ty cs (0, 0) d hg hu hd hi]

theorem forms_row {w1 wf : World} (bf : Below ((w1.alloc (.cells #[.int .u8 0, .string ⟨#[]⟩] 58)).drew).heap.size ((w1.alloc (.cells #[.int .u8 0, .string ⟨#[]⟩] 58)).drew) wf) : RowAt wf w1.heap.size 58 [.int .u8 0, .string ⟨#[]⟩] :=
  (RowAt.drew (rowAt_alloc (w := w1) (c := #[.int .u8 0, .string ⟨#[]⟩]) (t := 58) rfl rfl)).below bf (by simp)
set_option maxHeartbeats 8000000 in
set_option maxRecDepth 100000 in
theorem parse_no (s : ByteArray) (ws : List ByteArray) (n : Nat) (x0 : ByteArray) (w : World) (hn : ws.length = n) (hn0 : 1 ≤ n) (h0 : ws[0]? = some x0) (hx0 : x0.size ≤ maxLen)
    (HS : Hid (SpC w s ws n)) (k : Int) (wk : List UInt8) (kn : Bool) (hk : kdF x0.data.toList = k) (hw : wdF k = wk) (hkn : decide (k ≠ 0) = kn) (hwl : wk.length ≤ 10) (hbad : kn = false ∨ n ≠ 3 + wk.length) :
    Calls Tryz.prog 12 #[.string s] w fun e w' => e = .returned (.tuple #[zEv, .int .i64 12]) ∧ Below w.heap.size w w' := by
  have HL : Hid (∀ W b, W.ownsMap Tryz.prog 9 selfR b 5 formsD → (Instr.lookup 60 (.map (some b)) (.string x0) true).run Tryz.prog W = .ok (.tuple #[.agg #[.int .u8 k, .string ⟨wk.toArray⟩], .bool (kn)]) W) := fun W b h => by
    rw [forms_look h x0 hx0, hk, hw, hkn]; rfl
  have HBAD := Lib.hid hbad
  clear hk hw hbad hkn
  go_enter Tryz.func12, Tryz.ntmps12
  go_wp2_with fail
  refine (HS.out _ (own_below _ _)).mono ?_
  rintro e w1 ⟨rfl, hw1⟩
  have B1 : Hid (Below w.heap.size w w1) := by rw [hw1]; exact (own_below _ _).alloc (by simp) _
  obtain ⟨r, hr⟩ : ∃ r, r = w.heap.size + 1 := ⟨_, rfl⟩
  have hrow : RowAt w1 r 9 (ws.map Value.string) := by rw [hw1, hr]; exact rowAt_alloc (by simp) (by simp)
  have hz : w1.heap[w.heap.size]? = some (.cells #[.int .u8 0, .int .i64 0, .int .i64 0, .int .i64 0, .int .i64 0, .string ⟨#[]⟩, .string ⟨#[]⟩, .string ⟨#[]⟩, .bool false] 24) := by rw [hw1]; exact heap_two _ _ _
  have hs1 : w1.heap.size = w.heap.size + 2 := by rw [hw1]; simp
  rw [show (w.alloc (.cells #[.int .u8 0, .int .i64 0, .int .i64 0, .int .i64 0, .int .i64 0, .string ⟨#[]⟩, .string ⟨#[]⟩, .string ⟨#[]⟩, .bool false] 24)).heap.size = r by rw [hr]; simp]
  have k0 : w1.cell? ⟨r, 0, none⟩ = some (.string x0) := by rw [hrow.cell (by simp; omega)]; simp [h0]
  have hrl : r < w1.heap.size := hrow.lt
  have HROW := Lib.hid hrow
  have HZ := Lib.hid hz
  have hrn : r ≠ w1.heap.size := by omega
  have kA : ∀ o, (w1.alloc o).cell? ⟨r, 0, none⟩ = some (.string x0) := fun o => by rw [World.cell?_alloc_past _ _ _ hrl]; exact k0
  have HS1 := Lib.hid hs1
  clear hw1 hrow hz hs1 hr
  go_upto_region 2 with (fail)
  go_cut [5, 6] (fun s5 s6 wx => ∃ g, s5 = .pointer (some ⟨g, 0, none⟩) ∧ s6 = .bool (kn) ∧ w1.heap.size ≤ g ∧ RowAt wx g 58 [.int .u8 k, .string ⟨wk.toArray⟩] ∧ Below w1.heap.size w1 wx)
  case first =>
    go_region_with ((go_at_call 31; go_must (refine (forms_any _).mono ?_; rintro e wf ⟨rfl, how, bf⟩; (first | (have how : wf.ownsMap Tryz.prog 9 selfR w1.heap.size 5 formsD := how; have hl1 := HL.out _ _ how; have hl2 := fun c t => HL.out _ _ (how.alloc (.cells c t))) | (have how : wf.ownsMap Tryz.prog 9 selfR (w1.heap.size + 1) 5 formsD := (by simpa using how); have hl1 := HL.out _ _ how; have hl2 := fun c t => HL.out _ _ (how.alloc (.cells c t)))); (first | have k1 := ((bcell bf).1 _ _ hrl).trans k0 | have k1 := ((bcell bf).1 _ _ (Nat.lt_of_lt_of_le hrl (by simp))).trans (kA _)); have hrf : r < wf.heap.size := Nat.lt_of_lt_of_le (Nat.lt_of_lt_of_le hrl (by simp)) bf.size; have k1A : ∀ o, (wf.alloc o).cell? ⟨r, 0, none⟩ = some (.string x0) := fun o => (by rw [World.cell?_alloc_past _ _ _ hrf]; exact k1); (first | (have B5 : Below w1.heap.size w1 wf := ((Below.refl _ w1).drew).trans bf) | (have B5 : Below w1.heap.size w1 wf := (((Below.refl _ w1).alloc (Nat.le_refl _) _).drew).trans (bf.mono (by simp)); have R5 := forms_row bf; have c5a : wf.cell? ⟨w1.heap.size, 0, none⟩ = some (.int .u8 0) := R5.cell (i := 0) (by simp); have c5b : wf.cell? ⟨w1.heap.size, 1, none⟩ = some (.string ⟨#[]⟩) := R5.cell (i := 1) (by simp); have c5c := R5.frozen 0; have c5d := R5.frozen 1)))))
    all_goals
      go_wp2_with fail
      go_meet
      first
        | exact ⟨_, rfl, rfl, Nat.le_refl _, (R5.set 0 _).set 1 _, (B5.setCell (Nat.le_refl _) _).setCell (Nat.le_refl _) _⟩
        | exact ⟨_, rfl, rfl, B5.size, rowAt_alloc rfl rfl, B5.alloc B5.size _⟩
  case rest =>
  obtain ⟨g, rfl, rfl, hg, hr5, b5⟩ := hcut
  have d0 : wc.cell? ⟨g, 0, none⟩ = some (.int .u8 k) := hr5.cell (i := 0) (by simp)
  have d1 : wc.cell? ⟨g, 1, none⟩ = some (.string ⟨wk.toArray⟩) := hr5.cell (i := 1) (by simp)
  have B5 : Hid (Below w.heap.size w wc) := B1.out.trans (b5.mono B1.out.size)
  have hz : wc.heap[w.heap.size]? = some (.cells #[.int .u8 0, .int .i64 0, .int .i64 0, .int .i64 0, .int .i64 0, .string ⟨#[]⟩, .string ⟨#[]⟩, .string ⟨#[]⟩, .bool false] 24) := by rw [b5.block _ (by rw [HS1.out]; omega)]; exact HZ.out
  obtain ⟨q0, q1, q2, q3, q4, q5, q6, q7, q8⟩ := zcells hz
  have qf := zfrozen hz
  have HZ2 := Lib.hid hz
  clear hr5 b5 hz HZ HROW kA k0 HL hg hrn hrl B1
  rcases HBAD.out with rfl | hlen
  · clear HBAD
    go_wp2_with fail
    refine bodyPost_ret (results_row_tmp rfl _ _ w.heap.size 24 _ _ rfl (put9_heap HZ2.out _ _ _ _ _ _ _ _ _) Tryz.underlying24 rfl rfl) rfl ?_
    exact ⟨rfl, put9_below B5.out (Nat.le_refl _) _ _ _ _ _ _ _ _ _⟩
  · have t1 : ((n : Int) != 3 + (wk.length : Int)) = true := by simp; omega
    clear HBAD hlen
    cases kn
    all_goals
    go_wp2_with fail
    refine bodyPost_ret (results_row_tmp rfl _ _ w.heap.size 24 _ _ rfl (put9_heap HZ2.out _ _ _ _ _ _ _ _ _) Tryz.underlying24 rfl rfl) rfl ?_
    exact ⟨rfl, put9_below B5.out (Nat.le_refl _) _ _ _ _ _ _ _ _ _⟩

end Go.Proofs.YtcfgpojogomkhaaGreatDoor
