/-
  Lists of tokens in memory; the reference's Great and Same walked. No condition.
-/
import Derived.Test.YtnmiiimbjojcmaaLc
import Derived.Test.YtnmiiimbjojcmaaBel
namespace Go.Proofs.Ytnmiiimbjojcmaa
open Go.RowKit

def encTk (x : Tk) : List Value := [.int .u8 x.kind, .string x.text, .string x.rat, .int .i64 x.date, .int .i64 x.place]
/-- A token as it lies in memory. -/
def TkAt (w : World) (g o : Nat) (x : Tk) : Prop := w.cell? ⟨g, o, none⟩ = some (.int .u8 x.kind) ∧ w.cell? ⟨g, o + 1, none⟩ = some (.string x.text) ∧ w.cell? ⟨g, o + 2, none⟩ = some (.string x.rat) ∧ w.cell? ⟨g, o + 3, none⟩ = some (.int .i64 x.date) ∧ w.cell? ⟨g, o + 4, none⟩ = some (.int .i64 x.place)
def Tks (w : World) (g off : Nat) (l : List Tk) : Prop := ∀ i, i < l.length → TkAt w g (off + i * 5) (l[i]?.getD default)
theorem tks_below {w w' : World} {g o : Nat} {l : List Tk} (h : Tks w g o l) (hb : Below w.heap.size w w') (hg : g < w.heap.size) : Tks w' g o l := by
  obtain ⟨hc, _⟩ := bcell hb
  intro i hi
  obtain ⟨a0, a1, a2, a3, a4⟩ := h i hi
  exact ⟨(hc _ _ hg).trans a0, (hc _ _ hg).trans a1, (hc _ _ hg).trans a2, (hc _ _ hg).trans a3, (hc _ _ hg).trans a4⟩
theorem TkAt.bel {w : World} {g o : Nat} {x : Tk} (h : TkAt w g o x) (p : BelOf w) : TkAt p.u g o x := ⟨cell_bel h.1 p, cell_bel h.2.1 p, cell_bel h.2.2.1 p, cell_bel h.2.2.2.1 p, cell_bel h.2.2.2.2 p⟩
/-- The cells of a list of tokens. -/
def tks (l : List Tk) : List Value := l.flatMap encTk
theorem encTk_length (x : Tk) : (encTk x).length = 5 := rfl
theorem tks_length (l : List Tk) : (tks l).length = l.length * 5 := by
  induction l with
  | nil => rfl
  | cons x l ih => show (encTk x ++ tks l).length = _; rw [List.length_append, ih, encTk_length, List.length_cons]; omega
theorem tks_get (l : List Tk) (i j : Nat) (hi : i < l.length) (hj : j < 5) : (tks l)[i * 5 + j]? = (encTk (l[i]?.getD default))[j]? := by
  induction l generalizing i with
  | nil => simp at hi
  | cons x l ih =>
    show (encTk x ++ tks l)[i * 5 + j]? = _
    cases i with
    | zero => rw [List.getElem?_append_left (by rw [encTk_length]; omega)]; simp
    | succ i =>
      rw [List.getElem?_append_right (by rw [encTk_length]; omega), encTk_length, show (i + 1) * 5 + j - 5 = i * 5 + j by omega, ih i (by simpa using hi)]
      simp
theorem tks_of_row {w : World} {g : Nat} {t : TypeId} {l : List Tk} (h : RowAt w g t (tks l)) : Tks w g 0 l := by
  intro i hi
  have hc : ∀ j, j < 5 → w.cell? ⟨g, 0 + i * 5 + j, none⟩ = (encTk (l[i]?.getD default))[j]? := fun j hj => by
    rw [Nat.zero_add, h.cell (by rw [tks_length]; omega), tks_get l i j hi hj]
  exact ⟨hc 0 (by omega), hc 1 (by omega), hc 2 (by omega), hc 3 (by omega), hc 4 (by omega)⟩
theorem tks_one (l : List Tk) : ∀ u ∈ tks l, u.oneCell' = true := by
  intro u hu
  simp only [tks, List.mem_flatMap, encTk] at hu
  obtain ⟨x, _, hx⟩ := hu
  simp only [List.mem_cons, List.not_mem_nil, or_false] at hx
  rcases hx with rfl | rfl | rfl | rfl | rfl <;> rfl
/-- Cell by cell, from a list of tokens that lies anywhere. -/
theorem tks_cell {w : World} {g o : Nat} {l : List Tk} (h : Tks w g o l) (j : Nat) (u : Value) (hj : (tks l)[j]? = some u) : w.cell? ⟨g, o + j, none⟩ = some u := by
  have hl := (List.getElem?_eq_some_iff.1 hj).1
  rw [tks_length] at hl
  have e : j = j / 5 * 5 + j % 5 := by omega
  have hi : j / 5 < l.length := by omega
  rw [e, tks_get l (j / 5) (j % 5) hi (by omega)] at hj
  obtain ⟨a0, a1, a2, a3, a4⟩ := h (j / 5) hi
  have hm : j % 5 < 5 := by omega
  rw [e, ← Nat.add_assoc]
  generalize j % 5 = m at *
  generalize l[j / 5]?.getD default = x at *
  match m, hm with
  | 0, _ => simp [encTk] at hj; rw [← hj]; exact a0
  | 1, _ => simp [encTk] at hj; rw [← hj]; exact a1
  | 2, _ => simp [encTk] at hj; rw [← hj]; exact a2
  | 3, _ => simp [encTk] at hj; rw [← hj]; exact a3
  | 4, _ => simp [encTk] at hj; rw [← hj]; exact a4

/-- Whether a token is long. -/
def bigTk (x : Tk) : Prop := 200 < x.text.size ∨ 2500 < x.rat.size
def GtPost (l : List Tk) (n : Nat) (w : World) (e : Ending) (w' : World) : Prop := w = w' ∧ (e = .returned (.bool true) ∨ (e = .returned (.bool false) ∧ ∀ i, i < n → ¬ bigTk (l[i]?.getD default)))
/-- The loop of Great. -/
def GtR (l : List Tk) (n : Nat) (v : Value) : Prop := ∃ k : Nat, k ≤ n ∧ v = .int .i64 (k : Int) ∧ ∀ i, i < k → ¬ bigTk (l[i]?.getD default)

set_option maxHeartbeats 2000000 in
set_option maxRecDepth 100000 in
theorem great_yes (a : Option Addr) (n c : Nat) (w : World) (hn : 300 < n) :
    Calls Try.prog 4 #[.slice a n c] w (RetB w true) := by
  have t1 : decide ((300 : Int) < (n : Int)) = true := by simp; omega
  go_enter Try.func4, Try.ntmps4
  go_wp2
  go_ret
  exact ⟨rfl, rfl⟩

set_option maxHeartbeats 2000000 in
set_option maxRecDepth 100000 in
theorem great_any (g o n c : Nat) (l : List Tk) (w : World) (hl : l.length = n) (hn : n ≤ 300) (h : Tks w g o l) :
    Calls Try.prog 4 #[.slice (some ⟨g, o, none⟩) n c] w (GtPost l n w) := by
  have HL := Lib.hid hl
  have HH := Lib.hid h
  have t1 : decide ((300 : Int) < (n : Int)) = false := by simp; omega
  clear hl h
  go_enter Try.func4, Try.ntmps4
  go_wp2_with fail
  go_loop [3] (GtR l n) (fun v => n - (intOf v).toNat)
  case atStart => exact ⟨0, Nat.zero_le _, rfl, fun i hi => absurd hi (Nat.not_lt_zero _)⟩
  case round =>
    obtain ⟨k, hk, rfl, hb⟩ := hrel
    have HB := Lib.hid hb
    clear hb
    by_cases hlt : k < n
    · obtain ⟨x, hx⟩ : ∃ x, x = l[k]?.getD default := ⟨_, rfl⟩
      have a := HH.out k (by have := HL.out; omega)
      rw [← hx] at a
      obtain ⟨a0, a1, a2, a3, a4⟩ := a
      have HX := Lib.hid hx
      clear hx
      by_cases h1 : 200 < x.text.size
      · have g1 : decide ((200 : Int) < (x.text.size : Int)) = true := by simp; omega
        go_wp2_with fail
        go_ret
        exact ⟨rfl, .inl rfl⟩
      · have g1 : decide ((200 : Int) < (x.text.size : Int)) = false := by simp; omega
        by_cases h2 : 2500 < x.rat.size
        · have g2 : decide ((2500 : Int) < (x.rat.size : Int)) = true := by simp; omega
          go_wp2_with fail
          go_ret
          exact ⟨rfl, .inl rfl⟩
        · have g2 : decide ((2500 : Int) < (x.rat.size : Int)) = false := by simp; omega
          have HN : Hid (∀ i, i < k + 1 → ¬ bigTk (l[i]?.getD default)) := fun i hi => by
            by_cases e : i = k
            · subst e; rw [← HX.out]; rintro (h | h)
              · exact h1 h
              · exact h2 h
            · exact HB.out i (by omega)
          clear h1 h2 HX
          go_wp2_with fail
          go_round
          case rel => exact ⟨k + 1, by omega, by go_num, HN.out⟩
          case measure => simp [intOf]; omega
    · have hkn : k = n := by omega
      subst hkn
      go_wp2_with fail
      go_ret
      exact ⟨rfl, .inr ⟨rfl, HB.out⟩⟩

set_option maxHeartbeats 1000000 in
set_option maxRecDepth 100000 in
theorem great_zero (a : Option Addr) (c : Nat) (w : World) :
    Calls Try.prog 4 #[.slice a 0 c] w (RetB w false) := by
  go_enter Try.func4, Try.ntmps4
  go_wp2_with fail
  refine wp_loop_rounds 1 ?_
  rw [rounds_succ]
  go_wp2_with fail
  go_ret
  exact ⟨rfl, rfl⟩

set_option maxHeartbeats 2000000 in
set_option maxRecDepth 100000 in
theorem same_tk (g1 o1 g2 o2 c1 c2 n : Nat) (l : List Tk) (w : World) (hl : l.length = n) (hbig : n ≤ 1000000) (hg1 : g1 < w.heap.size) (hg2 : g2 < w.heap.size) (h1 : Tks w g1 o1 l) (h2 : Tks w g2 o2 l) :
    Calls Try.prog 11 #[.slice (some ⟨g1, o1, none⟩) n c1, .slice (some ⟨g2, o2, none⟩) n c2, .bool true] w (BelB w true) := by
  have HL := Lib.hid hl
  have H1 := Lib.hid h1
  have H2 := Lib.hid h2
  clear hl h1 h2
  go_enter Try.func11, Try.ntmps11
  go_wp2_with fail
  go_loopw [7] (fun i wr => ∃ k : Nat, k ≤ n ∧ i = .int .i64 (k : Int) ∧ Below w.heap.size w wr) (fun i _ => n - (intOf i).toNat)
  case atStart => exact ⟨0, Nat.zero_le _, rfl, Below.refl _ _⟩
  case round =>
    obtain ⟨w1, rfl⟩ : ∃ w1 : World, w1 = wr := ⟨_, rfl⟩
    obtain ⟨k, hk, rfl, hb⟩ := hrel
    have HB := Lib.hid hb
    have hgs1 : g1 < w1.heap.size := Nat.lt_of_lt_of_le hg1 hb.size
    have hgs2 : g2 < w1.heap.size := Nat.lt_of_lt_of_le hg2 hb.size
    by_cases hlt : k < n
    · obtain ⟨x, hx⟩ : ∃ x, x = l[k]?.getD default := ⟨_, rfl⟩
      have a := tks_below H1.out hb hg1 k (by have := HL.out; omega)
      have b := tks_below H2.out hb hg2 k (by have := HL.out; omega)
      rw [← hx] at a b
      obtain ⟨a0, a1, a2, a3, a4⟩ := a
      obtain ⟨b0, b1, b2, b3, b4⟩ := b
      clear hx hb
      have HB2 := Lib.hid (HB.out.alloc HB.out.size (.cells #[.int .u8 x.kind, .string x.text, .string x.rat, .int .i64 x.date, .int .i64 x.place] 29))
      go_wp2_with fail
      go_quiet (fail)
      go_wp2_with fail
      go_roundw
      case rel => exact ⟨k + 1, by omega, by go_num, below_drewN HB2.out _⟩
      case measure => simp [intOf]; omega
    · clear hb
      go_wp2_with fail
      go_ret
      exact ⟨rfl, HB.out⟩

set_option maxHeartbeats 1000000 in
set_option maxRecDepth 100000 in
theorem same_zero (a1 a2 : Option Addr) (c1 c2 : Nat) (w : World) :
    Calls Try.prog 11 #[.slice a1 0 c1, .slice a2 0 c2, .bool true] w (BelB w true) := by
  go_enter Try.func11, Try.ntmps11
  go_wp2_with fail
  refine wp_loop_rounds 1 ?_
  rw [rounds_succ]
  go_wp2_with fail
  go_ret
  exact ⟨rfl, Below.refl _ _⟩

end Go.Proofs.Ytnmiiimbjojcmaa
