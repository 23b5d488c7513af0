/-
  The reference's Moved. No condition. Append, Moved, Same over lists that are known as owned rows; the law LexerConcat walked. No condition. Append of an owned row to an owned row, at a guarded operation. No condition.
-/
import Derived.Test.YtnmiiimbjojcmaaDoorXh
import Derived.Deep.OwnRows
import Derived.Deep.LoopGhost
import Derived.Test.YtnmiiimbjojcmaaDoorXk
import Derived.Laws.AppendOwnNone
namespace Go.Proofs.YtnmiiimbjojcmaaDoor
open Go.RowKit Go.Shelf

set_option maxHeartbeats 4000000 in
set_option maxRecDepth 100000 in
theorem moved_any (g o n c d : Nat) (l : List Tk) (w : World) (hl : l.length = n) (hn : n ≤ 100000) (hd : d ≤ 100000) (hg : g < w.heap.size) (h : Tks w g o l) (hp : ∀ x ∈ l, 0 ≤ x.place ∧ x.place ≤ 100000) :
    Calls Tryd.prog 14 #[.slice (some ⟨g, o, none⟩) n c, .int .i64 (d : Int)] w fun e w' => ∃ v, e = .returned v ∧ w'.ownsRow w.heap.size 33 5 v n (tks (l.map (mvT (d : Int)))) ∧ Below w.heap.size w w' := by
  obtain ⟨i0, hi, hz0, hz1, hz2⟩ := info_partsN infoTk
  have HL := Lib.hid hl
  have HH := Lib.hid h
  have HP := Lib.hid hp
  clear hl h hp
  go_enter Tryd.func14, Tryd.ntmps14
  go_wp2_with fail
  go_loopw [5, 6] (fun v i wr => ∃ k : Nat, k ≤ n ∧ i = .int .i64 (k : Int) ∧ wr.ownsRow w.heap.size 33 5 v k (tks ((l.map (mvT (d : Int))).take k)) ∧ Below w.heap.size w wr) (fun _ i _ => n - (intOf i).toNat)
  case atStart => exact ⟨0, Nat.zero_le _, rfl, World.ownsRow_nil _ _ _ _, Below.refl _ _⟩
  case round =>
    obtain ⟨w1, rfl⟩ : ∃ w1 : World, w1 = wr := ⟨_, rfl⟩
    obtain ⟨k, hk, rfl, how, hb⟩ := hrel
    by_cases hlt : k < n
    · obtain ⟨x, hx⟩ : ∃ x, x = l[k]?.getD default := ⟨_, rfl⟩
      have a := tks_below HH.out hb hg k (by have := HL.out; omega)
      have hxm : x ∈ l := by rw [hx, List.getElem?_eq_getElem (by have := HL.out; omega)]; exact List.getElem_mem _
      obtain ⟨hp1, hp2⟩ := HP.out x hxm
      rw [← hx] at a
      obtain ⟨a0, a1, a2, a3, a4⟩ := a
      have hgs1 : g < w1.heap.size := Nat.lt_of_lt_of_le hg hb.size
      have HX := Lib.hid hx
      have HOW := Lib.hid how
      have HB := Lib.hid hb
      clear hx hxm how hb
      have HO : Hid ((.cells #[.int .u8 x.kind, .string x.text, .string x.rat, .int .i64 x.date, .int .i64 (x.place + (d : Int))] 33 : Obj) = .cells (encTk (mvT (d : Int) x)).toArray 33) := rfl
      have HOA := Lib.hid ((HOW.out.alloc (.cells #[.int .u8 x.kind, .string x.text, .string x.rat, .int .i64 x.date, .int .i64 (x.place + (d : Int))] 33)).alloc (.cells #[.int .u8 x.kind, .string x.text, .string x.rat, .int .i64 x.date, .int .i64 (x.place + (d : Int))] 33))
      go_wp2_with (at_builtin; refine wpList_append_own _ rfl (.tmp 23) (.tmp 25) 24 rfl w.heap.size 33 i0 zeroTk 5 56 Tryd.underlying24 hi hz0 hz1 hz2 rfl (by decide) _ _ _ rfl HOA.out ⟨w1.heap.size + 1, 0, none⟩ 1 1 (encTk (mvT (d : Int) x)) rfl ?c0 ?c1 ?c2 ?c3 ?c4 ?c5 ?_)
      case c0 => rfl
      case c1 => rw [HO.out]; exact tk_cells _ _ (by simp) (mvT (d : Int) x) _
      case c2 => exact enc_one _
      case c3 => unfold maxLen; omega
      case c4 => omega
      case c5 => have := HB.out.size; simp; omega
      intro v' w2 hown' hgrow _
      have hOA := HOA.out
      have hb1 := HB.out.alloc HB.out.size (.cells #[.int .u8 x.kind, .string x.text, .string x.rat, .int .i64 x.date, .int .i64 (x.place + (d : Int))] 33)
      have hb2 := hb1.alloc hb1.size (.cells #[.int .u8 x.kind, .string x.text, .string x.rat, .int .i64 x.date, .int .i64 (x.place + (d : Int))] 33)
      have B2 : Hid (Below w.heap.size w w2) := hb2.grown hgrow hb2.size (fun j hj => (hOA.lt j hj).1)
      have e : (l.map (mvT (d : Int))).take k ++ [mvT (d : Int) x] = (l.map (mvT (d : Int))).take (k + 1) := by
        rw [List.take_succ_eq_append_getElem (by rw [List.length_map]; have := HL.out; omega), List.getElem_map, HX.out, List.getElem?_eq_getElem (by have := HL.out; omega)]
        rfl
      have h1 := hown'
      rw [tks_snoc, e] at h1
      have HO1 := Lib.hid h1
      clear hown' hgrow hOA hb1 hb2 e h1
      go_wp2_with fail
      go_roundw
      case rel => exact ⟨k + 1, by omega, by go_num, HO1.out, B2.out⟩
      case measure => simp [intOf] <;> omega
    · obtain rfl : k = n := by omega
      have HOW := Lib.hid how
      have HB := Lib.hid hb
      clear how hb
      go_wp2_with fail
      go_ret
      have e := HOW.out
      rw [List.take_of_length_le (by rw [List.length_map]; have := HL.out; omega)] at e
      exact ⟨_, rfl, e, HB.out⟩

end Go.Proofs.YtnmiiimbjojcmaaDoor

namespace Go.Proofs.YtnmiiimbjojcmaaDoor
open Go.RowKit Go.Shelf

theorem row_of_owns {w : World} {base size : Nat} {e : TypeId} {v : Value} {n : Nat} {xs : List Value} (h : w.ownsRow base e size v n xs) :
    (v = .slice none 0 0 ∧ n = 0 ∧ xs = []) ∨ ∃ g cap, v = .slice (some ⟨g, 0, none⟩) n cap ∧ base ≤ g ∧ g < w.heap.size ∧ xs.length = n * size ∧ RowAt w g e xs := by
  obtain ⟨h1, h2⟩ := h
  rcases h2 with ⟨rfl, rfl⟩ | ⟨g, cap, cur, rfl, hb, hg, hn, hm, hs, ht⟩
  · exact .inl ⟨rfl, rfl, List.eq_nil_of_length_eq_zero (by simpa using h1)⟩
  · have hle : n * size ≤ cap * size := Nat.mul_le_mul_right _ hn
    have hr : RowAt w g e xs := ⟨cur, hg, by omega, fun i hi => by
      rw [← ht, List.getElem?_take_of_lt (by omega)]
      simp⟩
    exact .inr ⟨g, cap, rfl, hb, hr.lt, h1, hr⟩
theorem append_owns {P : Program} {w : World} {ops : Array Oper} {rest : List Oper} {o : Oper} {a : Act} {Q : Exit → Act → World → Prop} (hgd : o.guard = none) (s x : Operand) (t : TypeId)
    (ho : o.op = .call { callee := .builtin .append, args := #[s, x], argTypes := #[t, t] })
    (base : Nat) (e : TypeId) (i : TypeInfo) (z : Value) (size bytes : Nat) (ht : P.underlying t = some (.slice e)) (hi : P.info? e = some i) (hz : i.zero = some z)
    (hsize : i.size = size) (hby : i.bytes = bytes) (hzs : z.cells.size = size) (hsz : 0 < size)
    (v : Value) (n : Nat) (xs : List Value) (hs : a.eval s = v) (hown : w.ownsRow base e size v n xs)
    (base2 m : Nat) (y : Value) (news : List Value) (hx : a.eval x = y) (hown2 : w.ownsRow base2 e size y m news) (h1 : ∀ u ∈ news, u.oneCell' = true)
    (h63 : n + m ≤ maxLen) (hbytes : (n + m) * bytes ≤ 140737488355328) (hbase : base ≤ w.heap.size)
    (h : ∀ v' w', w'.ownsRow base e size v' (n + m) (xs ++ news) → w.grownBy w' v.ownBlock → wpList P ops Q rest (a.put o.dst v') w') : wpList P ops Q (o :: rest) a w := by
  rcases row_of_owns hown2 with ⟨rfl, rfl, rfl⟩ | ⟨g, cap, rfl, _, _, hl, hr⟩
  · exact wpList_append_own_none hgd s x t ho base e i size ht hi v n xs hs hown hx (h v w (by simpa using hown) (only_refl _ _))
  · exact wpList_append_own _ hgd s x t ho base e i z size bytes ht hi hz hsize hby hzs hsz v n xs hs hown ⟨g, 0, none⟩ m cap news hx hl (fun j u hj => by
      rw [show (⟨g, 0, none⟩ : Addr).add j = ⟨g, j, none⟩ by simp [Addr.add] <;> omega, hr.cell (List.getElem?_eq_some_iff.1 hj).1]; exact hj) h1 h63 hbytes hbase (fun v' w' a b _ => h v' w' a b)
/-- Same, of two equal lists. -/
theorem same_owns {b1 b2 n : Nat} {v1 v2 : Value} {l : List Tk} {w : World} (hn : n ≤ 1000000) (h1 : w.ownsRow b1 33 5 v1 n (tks l)) (h2 : w.ownsRow b2 33 5 v2 n (tks l)) :
    Calls Tryd.prog 13 #[v1, v2, .bool true] w (BelB w true) := by
  have hl : l.length = n := by have := h1.1; rw [tks_length] at this; omega
  rcases row_of_owns h1 with ⟨rfl, rfl, _⟩ | ⟨g1, c1, rfl, _, hg1, _, r1⟩
  · rcases row_of_owns h2 with ⟨rfl, _, _⟩ | ⟨g2, c2, rfl, _, hg2, _, r2⟩
    · exact same_zero _ _ _ _ w
    · exact same_zero _ _ _ _ w
  · rcases row_of_owns h2 with ⟨rfl, rfl, _⟩ | ⟨g2, c2, rfl, _, hg2, _, r2⟩
    · exact same_zero _ _ _ _ w
    · exact same_tk g1 0 g2 0 c1 c2 n l w hl hn hg1 hg2 (tks_of_row r1) (tks_of_row r2)
/-- Moved, of nothing. -/
theorem moved_zero (d : Int) (w : World) : Calls Tryd.prog 14 #[.slice none 0 0, .int .i64 d] w fun e w' => e = .returned (.slice none 0 0) ∧ w' = w := by
  go_enter Tryd.func14, Tryd.ntmps14
  go_wp2_with fail
  refine wp_loop_rounds 1 ?_
  rw [rounds_succ]
  go_wp2_with fail
  go_ret
  exact ⟨rfl, rfl⟩
theorem moved_owns {b n : Nat} {v : Value} {l : List Tk} {w : World} (d : Nat) (hn : n ≤ 100000) (hd : d ≤ 100000) (h : w.ownsRow b 33 5 v n (tks l)) (hp : ∀ x ∈ l, 0 ≤ x.place ∧ x.place ≤ 100000) :
    Calls Tryd.prog 14 #[v, .int .i64 (d : Int)] w fun e w' => ∃ v', e = .returned v' ∧ w'.ownsRow w.heap.size 33 5 v' n (tks (l.map (mvT (d : Int)))) ∧ Below w.heap.size w w' := by
  have hl : l.length = n := by have := h.1; rw [tks_length] at this; omega
  rcases row_of_owns h with ⟨rfl, rfl, _⟩ | ⟨g, c, rfl, _, hg, _, r⟩
  · obtain rfl : l = [] := List.eq_nil_of_length_eq_zero hl
    exact (moved_zero _ w).mono fun e w' ⟨h1, h2⟩ => ⟨_, h1, World.ownsRow_nil _ _ _ _, by rw [h2]; exact Below.refl _ _⟩
  · exact moved_any g 0 n c d l w hl hn hd hg (tks_of_row r) hp
/-- Lex, its tokens as an owned row. -/
theorem lex_owns (s : ByteArray) (ts : List Tk) (w : World) (hs : s.size ≤ 20000) (h : lexL 0 s.data.toList = .yes ts) : Calls Tryd.prog 12 #[.string s] w fun e w' =>
    ∃ v, e = .returned (.tuple #[v, .int .i64 (s.size : Int), .int .i64 0]) ∧ w'.ownsRow w.heap.size 33 5 v ts.length (tks ts) ∧ Below w.heap.size w w' := by
  refine (lex_any s w hs).mono ?_
  rintro e w' (⟨i, er, hR, _⟩ | ⟨ts2, v, hR, rfl, ho, hb⟩)
  · rw [h] at hR; cases hR
  · rw [h] at hR; injection hR with hR; subst hR
    exact ⟨v, rfl, ho, hb⟩
theorem lex_places {l : List UInt8} {ts : List Tk} (h : lexL 0 l = .yes ts) : (∀ x ∈ ts, 0 ≤ x.place ∧ x.place < (l.length : Int)) := by
  intro x hx
  obtain ⟨j, hj, hjx⟩ := List.getElem_of_mem hx
  obtain ⟨p, t, m, h1, _, _, h4, _⟩ := lexL_at h hj
  rw [List.getElem?_eq_getElem hj, hjx] at h4
  have := Option.some.inj h4
  rw [this]
  constructor
  · show (0 : Int) ≤ (p : Int); omega
  · show (p : Int) < _; omega

end Go.Proofs.YtnmiiimbjojcmaaDoor

namespace Go.Proofs.YtnmiiimbjojcmaaDoor
open Go.RowKit Go.Shelf

theorem append_ownsG {P : Program} {w : World} {ops : Array Oper} {rest : List Oper} {o : Oper} {a : Act} {Q : Exit → Act → World → Prop} (hw : Region.wanted o (yielded ops a.tmps) = true) (s x : Operand) (t : TypeId)
    (ho : o.op = .call { callee := .builtin .append, args := #[s, x], argTypes := #[t, t] })
    (base : Nat) (e : TypeId) (i : TypeInfo) (z : Value) (size bytes : Nat) (ht : P.underlying t = some (.slice e)) (hi : P.info? e = some i) (hz : i.zero = some z)
    (hsize : i.size = size) (hby : i.bytes = bytes) (hzs : z.cells.size = size) (hsz : 0 < size)
    (v : Value) (n : Nat) (xs : List Value) (hs : a.eval s = v) (hown : w.ownsRow base e size v n xs)
    (base2 m : Nat) (y : Value) (news : List Value) (hx : a.eval x = y) (hown2 : w.ownsRow base2 e size y m news) (h1 : ∀ u ∈ news, u.oneCell' = true)
    (h63 : n + m ≤ maxLen) (hbytes : (n + m) * bytes ≤ 140737488355328) (hbase : base ≤ w.heap.size)
    (h : ∀ v' w', w'.ownsRow base e size v' (n + m) (xs ++ news) → w.grownBy w' v.ownBlock → wpList P ops Q rest (a.put o.dst v') w') : wpList P ops Q (o :: rest) a w := by
  refine wpList_step fun K hK => ?_
  rw [if_pos hw]
  rcases row_of_owns hown2 with ⟨rfl, rfl, rfl⟩ | ⟨g, cap, rfl, _, _, hl, hr⟩
  · have hrun := run_append_owned_none (P := P) (w := w) base t o.type e i size ht hi v n xs hown
    unfold Oper.wp
    simp [execOp, ho, resolve, invoke, builtin, hs, hx, hrun, Result.andThen]
    exact hK _ _ (h v w (by simpa using hown) (only_refl _ _))
  · exact wp_append_own w s x t ho base e i z size bytes ht hi hz hsize hby hzs hsz v n xs hs hown ⟨g, 0, none⟩ m cap news hx hl (fun j u hj => by
      rw [show (⟨g, 0, none⟩ : Addr).add j = ⟨g, j, none⟩ by simp [Addr.add] <;> omega, hr.cell (List.getElem?_eq_some_iff.1 hj).1]; exact hj) h1 h63 hbytes hbase (fun v' w' a b _ => hK _ _ (h v' w' a b))

end Go.Proofs.YtnmiiimbjojcmaaDoor
