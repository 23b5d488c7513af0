/-
  The law LexerBlanks walked. No condition.
-/
import Derived.Test.YtnmiiimbjojcmaaDoorXl
import Derived.Test.YtnmiiimbjojcmaaDoorLzi
import Derived.Deep.RegionHeld3
namespace Go.Proofs.YtnmiiimbjojcmaaDoor
open Go.RowKit Go.Shelf

/-- Append of a part of a row to an owned row, in a region that draws its order. -/
theorem step_append_view {P : Program} {w : World} {ops : Array Oper} {o : Oper} {a : Act} {K : Act → World → Prop} {Q : Exit → Act → World → Prop} {E : Prop} (hw : Region.wanted o (yielded ops a.tmps) = true) (s x : Operand) (t : TypeId)
    (ho : o.op = .call { callee := .builtin .append, args := #[s, x], argTypes := #[t, t] })
    (base : Nat) (e : TypeId) (i : TypeInfo) (z : Value) (size bytes : Nat) (ht : P.underlying t = some (.slice e)) (hi : P.info? e = some i) (hz : i.zero = some z)
    (hsize : i.size = size) (hby : i.bytes = bytes) (hzs : z.cells.size = size) (hsz : 0 < size)
    (v : Value) (n : Nat) (xs : List Value) (hs : a.eval s = v) (hown : w.ownsRow base e size v n xs)
    (ad : Addr) (m c : Nat) (news : List Value) (hx : a.eval x = .slice (some ad) m c) (hl : news.length = m * size) (hnews : ∀ j u, news[j]? = some u → w.cell? (ad.add j) = some u) (h1 : ∀ u ∈ news, u.oneCell' = true)
    (h63 : n + m ≤ maxLen) (hbytes : (n + m) * bytes ≤ 140737488355328) (hbase : base ≤ w.heap.size)
    (h : ∀ v' w', w'.ownsRow base e size v' (n + m) (xs ++ news) → w.grownBy w' v.ownBlock → K (a.put o.dst v') w') :
    if Region.wanted o (yielded ops a.tmps) = true then Oper.wp P o a w K Q else E := by
  rw [if_pos hw]
  exact wp_append_own w s x t ho base e i z size bytes ht hi hz hsize hby hzs hsz v n xs hs hown ad m c news hx hl hnews h1 h63 hbytes hbase (fun v' w' a b _ => h v' w' a b)
theorem step_append_owns {P : Program} {w : World} {ops : Array Oper} {o : Oper} {a : Act} {K : Act → World → Prop} {Q : Exit → Act → World → Prop} {E : Prop} (hw : Region.wanted o (yielded ops a.tmps) = true) (s x : Operand) (t : TypeId)
    (ho : o.op = .call { callee := .builtin .append, args := #[s, x], argTypes := #[t, t] })
    (base : Nat) (e : TypeId) (i : TypeInfo) (z : Value) (size bytes : Nat) (ht : P.underlying t = some (.slice e)) (hi : P.info? e = some i) (hz : i.zero = some z)
    (hsize : i.size = size) (hby : i.bytes = bytes) (hzs : z.cells.size = size) (hsz : 0 < size)
    (v : Value) (n : Nat) (xs : List Value) (hs : a.eval s = v) (hown : w.ownsRow base e size v n xs)
    (base2 m : Nat) (y : Value) (news : List Value) (hx : a.eval x = y) (hown2 : w.ownsRow base2 e size y m news) (h1 : ∀ u ∈ news, u.oneCell' = true)
    (h63 : n + m ≤ maxLen) (hbytes : (n + m) * bytes ≤ 140737488355328) (hbase : base ≤ w.heap.size)
    (h : ∀ v' w', w'.ownsRow base e size v' (n + m) (xs ++ news) → w.grownBy w' v.ownBlock → K (a.put o.dst v') w') :
    if Region.wanted o (yielded ops a.tmps) = true then Oper.wp P o a w K Q else E := by
  rw [if_pos hw]
  rcases row_of_owns hown2 with ⟨rfl, rfl, rfl⟩ | ⟨g, cap, rfl, _, _, hl, hr⟩
  · have hrun := run_append_owned_none (P := P) (w := w) base t o.type e i size ht hi v n xs hown
    unfold Oper.wp
    simp [execOp, ho, resolve, invoke, builtin, hs, hx, hrun, Result.andThen]
    exact h v w (by simpa using hown) (only_refl _ _)
  · exact wp_append_own w s x t ho base e i z size bytes ht hi hz hsize hby hzs hsz v n xs hs hown ⟨g, 0, none⟩ m cap news hx hl (fun j u hj => by
      rw [show (⟨g, 0, none⟩ : Addr).add j = ⟨g, j, none⟩ by simp [Addr.add] <;> omega, hr.cell (List.getElem?_eq_some_iff.1 hj).1]; exact hj) h1 h63 hbytes hbase (fun v' w' a b _ => h v' w' a b)
/-- Lex where there is a token, its cells. -/
def LexC (w : World) (len : Nat) (ts : List Tk) (n : Nat) (e : Ending) (w' : World) : Prop :=
  ∃ g c, n ≤ c ∧ e = .returned (.tuple #[.slice (some ⟨g, 0, none⟩) n c, .int .i64 (len : Int), .int .i64 0]) ∧ RowAt w' g 33 (tks ts) ∧ w.heap.size ≤ g ∧ g < w'.heap.size ∧ Below w.heap.size w w'
theorem lex_cells (s : ByteArray) (ts : List Tk) (n : Nat) (w : World) (hs : s.size ≤ 20000) (h : lexL 0 s.data.toList = .yes ts) (hn : ts.length = n) (h0 : n ≠ 0) : Calls Tryd.prog 12 #[.string s] w (LexC w s.size ts n) := by
  refine (lex_any s w hs).mono ?_
  rintro e w' (⟨i, er, hR, _⟩ | ⟨ts2, v, hR, rfl, ho, hb⟩)
  · rw [h] at hR; cases hR
  · rw [h] at hR; injection hR with hR; subst hR
    rcases ho.2 with ⟨rfl, hz⟩ | ⟨g, cap, cur, rfl, hg, hc, hle, hm, hcs, ht⟩
    · omega
    · rw [hn] at *
      have hr : RowAt w' g 33 (tks ts) := by
        have h1 := ho.1
        have hle2 : n * 5 ≤ cap * 5 := Nat.mul_le_mul_right _ hle
        refine ⟨cur, hc, by omega, fun i hi => ?_⟩
        rw [← ht, List.getElem?_take_of_lt (by omega)]
        simp
      exact ⟨g, cap, hle, rfl, hr, hg, hr.lt, hb⟩
/-- Lex where all is read: how many tokens there are. -/
def LexM (w : World) (len n : Nat) (e : Ending) (w' : World) : Prop := ∃ a c, e = .returned (.tuple #[.slice a n c, .int .i64 (len : Int), .int .i64 0]) ∧ Below w.heap.size w w'
theorem lex_many (s : ByteArray) (ts : List Tk) (w : World) (hs : s.size ≤ 20000) (h : lexL 0 s.data.toList = .yes ts) : Calls Tryd.prog 12 #[.string s] w (LexM w s.size ts.length) := by
  refine (lex_any s w hs).mono ?_
  rintro e w' (⟨i, er, hR, _⟩ | ⟨ts2, v, hR, rfl, ho, hb⟩)
  · rw [h] at hR; cases hR
  · rw [h] at hR; injection hR with hR; subst hR
    rcases ho.2 with ⟨rfl, hz⟩ | ⟨g, cap, cur, rfl, _⟩
    · exact ⟨_, _, by rw [hz], hb⟩
    · exact ⟨_, _, rfl, hb⟩
def NlR (r : ByteArray) (v : Value) : Prop := ∃ k : Nat, k ≤ r.size ∧ v = .int .i64 (k : Int)

set_option maxHeartbeats 2000000 in
set_option maxRecDepth 100000 in
theorem blanks_wild (s r : ByteArray) (z : Int) (w : World) (hs : ¬ (s.size ≤ 3000 ∧ r.size ≤ 3000)) : Calls Tryd.prog 4 #[.string s, .int .i64 z, .string r] w (BelB w true) := by
  have HA : Hid (∀ W, Calls Tryd.prog 10 #[] W (BelB W true)) := fun W => alive_any W
  by_cases h1 : s.size ≤ 3000
  · have h2 : ¬ r.size ≤ 3000 := fun h => hs ⟨h1, h⟩
    have HT : Hid (∀ W, Calls Tryd.prog 11 #[.string s] W (RetB W true)) := fun W => by have := tame_any s W; rwa [decide_eq_true h1] at this
    have HU : Hid (∀ W, Calls Tryd.prog 11 #[.string r] W (RetB W false)) := fun W => by have := tame_any r W; rwa [decide_eq_false h2] at this
    go_enter Tryd.func4, Tryd.ntmps4
    go_wp2_with fail
    refine (HA.out _).mono ?_
    rintro e w1 ⟨rfl, hb⟩
    have HB := Lib.hid hb
    clear hb
    go_wp2_with fail
    refine (HT.out _).mono ?_
    rintro e w' ⟨rfl, rfl⟩
    go_wp2_with fail
    refine (HU.out _).mono ?_
    rintro e w' ⟨rfl, rfl⟩
    go_wp2_with fail
    go_ret
    exact ⟨rfl, HB.out⟩
  · have HT : Hid (∀ W, Calls Tryd.prog 11 #[.string s] W (RetB W false)) := fun W => by have := tame_any s W; rwa [decide_eq_false h1] at this
    go_enter Tryd.func4, Tryd.ntmps4
    go_wp2_with fail
    refine (HA.out _).mono ?_
    rintro e w1 ⟨rfl, hb⟩
    have HB := Lib.hid hb
    clear hb
    go_wp2_with fail
    refine (HT.out _).mono ?_
    rintro e w' ⟨rfl, rfl⟩
    go_wp2_with fail
    go_ret
    exact ⟨rfl, HB.out⟩

set_option maxHeartbeats 2000000 in
set_option maxRecDepth 100000 in
theorem blanks_nl (s r : ByteArray) (z : Int) (w : World) (h1 : s.size ≤ 3000) (h2 : r.size ≤ 3000) (hr : ¬ ∀ k, (h : k < r.size) → ¬ r[k].toNat = 10) : Calls Tryd.prog 4 #[.string s, .int .i64 z, .string r] w (BelB w true) := by
  have HA : Hid (∀ W, Calls Tryd.prog 10 #[] W (BelB W true)) := fun W => alive_any W
  have HT : Hid (∀ W, Calls Tryd.prog 11 #[.string s] W (RetB W true)) := fun W => by have := tame_any s W; rwa [decide_eq_true h1] at this
  have HU : Hid (∀ W, Calls Tryd.prog 11 #[.string r] W (RetB W true)) := fun W => by have := tame_any r W; rwa [decide_eq_true h2] at this
  have HN := Lib.hid hr
  clear hr
  go_enter Tryd.func4, Tryd.ntmps4
  go_wp2_with fail
  refine (HA.out _).mono ?_
  rintro e w1 ⟨rfl, hb⟩
  have HB := Lib.hid hb
  clear hb
  go_wp2_with fail
  refine (HT.out _).mono ?_
  rintro e w' ⟨rfl, rfl⟩
  go_wp2_with fail
  refine (HU.out _).mono ?_
  rintro e w' ⟨rfl, rfl⟩
  go_wp2_with fail
  go_loop [8] (fun v => ∃ k : Nat, k ≤ r.size ∧ v = .int .i64 (k : Int) ∧ Hid (∀ j, (h : j < r.size) → j < k → ¬ r[j].toNat = 10)) (fun v => r.size - (intOf v).toNat)
  case atStart => exact ⟨0, Nat.zero_le _, rfl, Lib.hid (fun j _ h => absurd h (Nat.not_lt_zero _))⟩
  case round =>
    obtain ⟨k, hk, rfl, HK⟩ := hrel
    by_cases hlt : k < r.size
    · by_cases h10 : r[k].toNat = 10
      · obtain ⟨t1, t2⟩ := eq10_is h10
        clear h10
        go_wp2_with fail
        go_ret
        exact ⟨rfl, HB.out⟩
      · obtain ⟨t1, t2⟩ := eq10_no h10
        have H10 := Lib.hid h10
        clear h10
        go_wp2_with fail
        go_round
        case rel => exact ⟨k + 1, by omega, by go_num, Lib.hid (fun j hj hjk => by
          rcases Nat.lt_or_ge j k with h | h
          · exact HK.out j hj h
          · obtain rfl : j = k := by omega
            exact H10.out)⟩
        case measure => simp [intOf] <;> omega
    · exact absurd (fun j hj => HK.out j hj (by omega)) HN.out

set_option maxHeartbeats 2000000 in
set_option maxRecDepth 100000 in
theorem blanks_no (s r : ByteArray) (z : Int) (i : Nat) (er : Int) (w : World) (h1 : s.size ≤ 3000) (h2 : r.size ≤ 3000) (hr : ∀ k, (h : k < r.size) → ¬ r[k].toNat = 10) (h : lexL 0 s.data.toList = .no i er) : Calls Tryd.prog 4 #[.string s, .int .i64 z, .string r] w (BelB w true) := by
  have HA : Hid (∀ W, Calls Tryd.prog 10 #[] W (BelB W true)) := fun W => alive_any W
  have HT : Hid (∀ W, Calls Tryd.prog 11 #[.string s] W (RetB W true)) := fun W => by have := tame_any s W; rwa [decide_eq_true h1] at this
  have HU : Hid (∀ W, Calls Tryd.prog 11 #[.string r] W (RetB W true)) := fun W => by have := tame_any r W; rwa [decide_eq_true h2] at this
  have HX : Hid (∀ W, Calls Tryd.prog 12 #[.string s] W (LexN W i er)) := fun W => lex_none s i er W (by omega) h
  have he1 : (er != 0) = true := by simpa using lexL_err h
  have HN := Lib.hid hr
  clear hr h
  go_enter Tryd.func4, Tryd.ntmps4
  go_wp2_with fail
  refine (HA.out _).mono ?_
  rintro e w1 ⟨rfl, hb⟩
  have HB := Lib.hid hb
  clear hb
  go_wp2_with fail
  refine (HT.out _).mono ?_
  rintro e w' ⟨rfl, rfl⟩
  go_wp2_with fail
  refine (HU.out _).mono ?_
  rintro e w' ⟨rfl, rfl⟩
  go_wp2_with fail
  go_loop [8] (fun v => NlR r v) (fun v => r.size - (intOf v).toNat)
  case atStart => exact ⟨0, Nat.zero_le _, rfl⟩
  case round =>
    obtain ⟨k, hk, rfl⟩ := hrel
    by_cases hlt : k < r.size
    · obtain ⟨t1, t2⟩ := eq10_no (HN.out k hlt)
      go_wp2_with fail
      go_round
      case rel => exact ⟨k + 1, by omega, by go_num⟩
      case measure => simp [intOf] <;> omega
    · obtain rfl : k = r.size := by omega
      go_wp2_with fail
      refine (HX.out _).mono ?_
      rintro e w2 ⟨a1, c1, rfl, hb⟩
      have HB2 := Lib.hid (HB.out.trans (hb.mono HB.out.size))
      clear hb
      go_wp2_with fail
      go_ret
      exact ⟨rfl, HB2.out⟩

set_option maxHeartbeats 2000000 in
set_option maxRecDepth 100000 in
theorem blanks_out (s r : ByteArray) (z : Int) (ts : List Tk) (w : World) (h1 : s.size ≤ 3000) (h2 : r.size ≤ 3000) (hr : ∀ k, (h : k < r.size) → ¬ r[k].toNat = 10) (h : lexL 0 s.data.toList = .yes ts) (n : Nat) (hn : ts.length = n) (hz : z < 0 ∨ (n : Int) ≤ z) : Calls Tryd.prog 4 #[.string s, .int .i64 z, .string r] w (BelB w true) := by
  have HA : Hid (∀ W, Calls Tryd.prog 10 #[] W (BelB W true)) := fun W => alive_any W
  have HT : Hid (∀ W, Calls Tryd.prog 11 #[.string s] W (RetB W true)) := fun W => by have := tame_any s W; rwa [decide_eq_true h1] at this
  have HU : Hid (∀ W, Calls Tryd.prog 11 #[.string r] W (RetB W true)) := fun W => by have := tame_any r W; rwa [decide_eq_true h2] at this
  have HX : Hid (∀ W, Calls Tryd.prog 12 #[.string s] W (LexM W s.size n)) := fun W => hn ▸ lex_many s ts W (by omega) h
  have HN := Lib.hid hr
  clear hr h hn
  by_cases hz0 : z < 0
  · clear hz
    go_enter Tryd.func4, Tryd.ntmps4
    go_wp2_with fail
    refine (HA.out _).mono ?_
    rintro e w1 ⟨rfl, hb⟩
    have HB := Lib.hid hb
    clear hb
    go_wp2_with fail
    refine (HT.out _).mono ?_
    rintro e w' ⟨rfl, rfl⟩
    go_wp2_with fail
    refine (HU.out _).mono ?_
    rintro e w' ⟨rfl, rfl⟩
    go_wp2_with fail
    go_loop [8] (fun v => NlR r v) (fun v => r.size - (intOf v).toNat)
    case atStart => exact ⟨0, Nat.zero_le _, rfl⟩
    case round =>
      obtain ⟨k, hk, rfl⟩ := hrel
      by_cases hlt : k < r.size
      · obtain ⟨t1, t2⟩ := eq10_no (HN.out k hlt)
        go_wp2_with fail
        go_round
        case rel => exact ⟨k + 1, by omega, by go_num⟩
        case measure => simp [intOf] <;> omega
      · obtain rfl : k = r.size := by omega
        go_wp2_with fail
        refine (HX.out _).mono ?_
        rintro e w2 ⟨a1, c1, rfl, hb⟩
        have HB2 := Lib.hid (HB.out.trans (hb.mono HB.out.size))
        clear hb
        go_wp2_with fail
        go_ret
        exact ⟨rfl, HB2.out⟩
  · have hz1 : (n : Int) ≤ z := by omega
    clear hz
    go_enter Tryd.func4, Tryd.ntmps4
    go_wp2_with fail
    refine (HA.out _).mono ?_
    rintro e w1 ⟨rfl, hb⟩
    have HB := Lib.hid hb
    clear hb
    go_wp2_with fail
    refine (HT.out _).mono ?_
    rintro e w' ⟨rfl, rfl⟩
    go_wp2_with fail
    refine (HU.out _).mono ?_
    rintro e w' ⟨rfl, rfl⟩
    go_wp2_with fail
    go_loop [8] (fun v => NlR r v) (fun v => r.size - (intOf v).toNat)
    case atStart => exact ⟨0, Nat.zero_le _, rfl⟩
    case round =>
      obtain ⟨k, hk, rfl⟩ := hrel
      by_cases hlt : k < r.size
      · obtain ⟨t1, t2⟩ := eq10_no (HN.out k hlt)
        go_wp2_with fail
        go_round
        case rel => exact ⟨k + 1, by omega, by go_num⟩
        case measure => simp [intOf] <;> omega
      · obtain rfl : k = r.size := by omega
        go_wp2_with fail
        refine (HX.out _).mono ?_
        rintro e w2 ⟨a1, c1, rfl, hb⟩
        have HB2 := Lib.hid (HB.out.trans (hb.mono HB.out.size))
        clear hb
        go_wp2_with fail
        go_ret
        exact ⟨rfl, HB2.out⟩

end Go.Proofs.YtnmiiimbjojcmaaDoor
