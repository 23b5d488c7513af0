/-
  The law LexerBack walked. No condition.
-/
import Derived.Test.YtnmiiimbjojcmaaDoorLm
import Derived.Test.YtnmiiimbjojcmaaDoorLzj
import Derived.Test.YtnmiiimbjojcmaaDoorLzk
namespace Go.Proofs.YtnmiiimbjojcmaaDoor
open Go.RowKit Go.Shelf

theorem jR_none (l : List Tk) : jR l 0 = (⟨#[]⟩, 0) := jR_ok (fun i hi => absurd hi (Nat.not_lt_zero _)) (by show ¬ 20000 < 0; omega)
set_option maxHeartbeats 1000000 in
set_option maxRecDepth 100000 in
theorem join_none (a : Option Addr) (c : Nat) (w : World) :
    Calls Tryd.prog 19 #[.slice a 0 c] w (TPost w ⟨#[]⟩ 0) := by
  have I1 : Hid (Lib.IsBuilderF 59 5 w.heap.size w.heap.size (Lib.byteCells []) (w.alloc (.cells #[.pointer none, .slice none 0 0] 59))) := Lib.IsBuilderF.of (Lib.fresh_isBuilder _ _ w)
  go_enter Tryd.func19, Tryd.ntmps19
  go_wp2_with fail
  refine wp_loop_rounds 1 ?_
  rw [rounds_succ]
  go_wp2_with fail
  refine (Tryd.builder_len w.heap.size w.heap.size _ _ I1.out).mono ?_
  rintro e w' ⟨rfl, rfl⟩
  go_wp2_with fail
  refine (Tryd.builder_text w.heap.size w.heap.size [] _ I1.out (by simp)).mono ?_
  rintro e w3 ⟨rfl, _, b3, _⟩
  have B3 : Hid (Below w.heap.size w w3) := (own_below _ _).trans b3
  clear b3
  go_wp2_with fail
  go_ret2
  exact ⟨rfl, B3.out⟩
/-- Two tokens that differ at most in their places. -/
def TkLike (x y : Tk) : Prop := x = { y with place := x.place }
set_option maxHeartbeats 2000000 in
set_option maxRecDepth 100000 in
theorem same_like (g1 o1 g2 o2 c1 c2 n : Nat) (l m : List Tk) (w : World) (hl : l.length = n) (hm : m.length = n) (hbig : n ≤ 1000000) (hg1 : g1 < w.heap.size) (hg2 : g2 < w.heap.size) (h1 : Tks w g1 o1 l) (h2 : Tks w g2 o2 m) (hlike : ∀ i, i < n → TkLike (l[i]?.getD default) (m[i]?.getD default)) :
    Calls Tryd.prog 13 #[.slice (some ⟨g1, o1, none⟩) n c1, .slice (some ⟨g2, o2, none⟩) n c2, .bool false] w (BelB w true) := by
  have HL := Lib.hid hl
  have HM := Lib.hid hm
  have H1 := Lib.hid h1
  have H2 := Lib.hid h2
  have HK := Lib.hid hlike
  clear hl hm h1 h2 hlike
  go_enter Tryd.func13, Tryd.ntmps13
  go_wp2_with fail
  go_loopw [7] (fun i wr => ∃ k : Nat, k ≤ n ∧ i = .int .i64 (k : Int) ∧ Below w.heap.size w wr) (fun i _ => n - (intOf i).toNat)
  case atStart => exact ⟨0, Nat.zero_le _, rfl, Below.refl _ _⟩
  case round =>
    obtain ⟨w1, rfl⟩ : ∃ w1 : World, w1 = wr := ⟨_, rfl⟩
    obtain ⟨k, hk, rfl, hb⟩ := hrel
    have HB := Lib.hid hb
    have hgs1 : g1 < w1.heap.size := Nat.lt_of_lt_of_le hg1 hb.size
    have hgs2 : g2 < w1.heap.size := Nat.lt_of_lt_of_le hg2 hb.size
    by_cases hlt : k < n
    · obtain ⟨x, hx⟩ : ∃ x, x = m[k]?.getD default := ⟨_, rfl⟩
      obtain ⟨p, hp⟩ : ∃ p, p = (l[k]?.getD default).place := ⟨_, rfl⟩
      have a := tks_below H1.out hb hg1 k (by have := HL.out; omega)
      have b := tks_below H2.out hb hg2 k (by have := HM.out; omega)
      have hlk := HK.out k hlt
      unfold TkLike at hlk
      rw [hlk, ← hp, ← hx] at a
      rw [← hx] at b
      obtain ⟨K, T, R, D, Z⟩ := x
      obtain ⟨a0, a1, a2, a3, a4⟩ := a
      obtain ⟨b0, b1, b2, b3, b4⟩ := b
      dsimp only at a0 a1 a2 a3 a4 b0 b1 b2 b3 b4
      clear hx hb hp hlk
      have HB2 := Lib.hid (HB.out.alloc HB.out.size (.cells #[.int .u8 K, .string T, .string R, .int .i64 D, .int .i64 Z] 33))
      go_wp2_with fail
      go_quiet (fail)
      go_wp2_with fail
      go_roundw
      case rel => exact ⟨k + 1, by omega, by go_num, below_drewN HB2.out _⟩
      case measure => simp [intOf] <;> omega
    · clear hb
      go_wp2_with fail
      go_ret
      exact ⟨rfl, HB.out⟩
set_option maxHeartbeats 1000000 in
set_option maxRecDepth 100000 in
theorem same_nonel (a1 a2 : Option Addr) (c1 c2 : Nat) (w : World) :
    Calls Tryd.prog 13 #[.slice a1 0 c1, .slice a2 0 c2, .bool false] w (BelB w true) := by
  go_enter Tryd.func13, Tryd.ntmps13
  go_wp2_with fail
  refine wp_loop_rounds 1 ?_
  rw [rounds_succ]
  go_wp2_with fail
  go_ret
  exact ⟨rfl, Below.refl _ _⟩
theorem jT_like {l m : List Tk} : ∀ n, (∀ i, i < n → txT (l[i]?.getD default) = txT (m[i]?.getD default)) → jT l n = jT m n := by
  intro n
  induction n with
  | zero => intro _; rfl
  | succ n ih =>
    intro h
    show jT l n ++ (_ ++ (txT (l[n]?.getD default)).data.toList) = jT m n ++ (_ ++ (txT (m[n]?.getD default)).data.toList)
    rw [ih (fun i hi => h i (by omega)), h n (by omega)]
/-- The tokens that the joined text is read as. -/
theorem back_toks {l : List Tk} {n : Nat} (hl : l.length = n) (hv : ∀ i, i < n → tkB (l[i]?.getD default) = true) (hbig : ∀ i, i < n → ¬ bigTk (l[i]?.getD default)) (hs : (jT l n).length ≤ 20000) :
    ∃ M : List Tk, M.length = n ∧ lexL 0 (jT l n) = .yes M ∧ jR M n = (⟨(jT l n).toArray⟩, 0) ∧ (∀ i, i < n → ¬ bigTk (M[i]?.getD default)) ∧ ∀ i, i < n → TkLike (M[i]?.getD default) (l[i]?.getD default) := by
  subst hl
  have hM : (plL 0 (pairL l)).length = l.length := by rw [plL_len]; unfold pairL; simp
  have hat : ∀ i, i < l.length → ∃ p : Nat, p ≤ 20000 ∧ (plL 0 (pairL l))[i]?.getD default = { l[i]?.getD default with place := (p : Int) } := by
    intro i hi
    obtain ⟨p, _, h2, h3⟩ := plL_at l 0 i l[i] (List.getElem?_eq_getElem hi)
    refine ⟨p, ?_, ?_⟩
    · have := jT_jnL l l.length (Nat.le_refl _)
      rw [List.take_length] at this
      rw [this] at hs
      omega
    · rw [h3, List.getElem?_eq_getElem hi]; rfl
  refine ⟨plL 0 (pairL l), hM, lex_join hv, ?_, ?_, ?_⟩
  · have e : jT (plL 0 (pairL l)) l.length = jT l l.length := jT_like _ fun i hi => by
      obtain ⟨p, _, h⟩ := hat i hi
      rw [h]; rfl
    rw [jR_ok (fun i hi => by
      obtain ⟨p, h1, h⟩ := hat i hi
      rw [h]; exact tkB_place (hv i hi) (by omega) (by omega)) (by rw [e]; omega), e]
  · intro i hi
    obtain ⟨p, _, h⟩ := hat i hi
    rw [h]; exact hbig i hi
  · intro i hi
    obtain ⟨p, _, h⟩ := hat i hi
    rw [h]; rfl

end Go.Proofs.YtnmiiimbjojcmaaDoor
