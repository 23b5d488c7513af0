/-
  The lexer: Lex. No condition.
-/
import Derived.Test.YtnmiiimbjojcmaaGreatDoorXf
import Derived.Test.YtnmiiimbjojcmaaGreatDoorWb
import Derived.Outline
import Derived.RegionIn
namespace Go.Proofs.YtnmiiimbjojcmaaGreatDoor
open Go.RowKit Go.Shelf
attribute [local go_sem] Oper.semAt_some

def zeroTk : Value := .agg #[.int .u8 0, .string ByteArray.empty, .string ByteArray.empty, .int .i64 0, .int .i64 0]
theorem infoTk : (Tryz.prog.info? 40).map (fun i => (i.zero, i.size, i.bytes)) = some (some zeroTk, 5, 56) := by kernel_rfl
theorem info_partsN {P : Program} {e : TypeId} {z : Value} {s b : Nat} (h : (P.info? e).map (fun i => (i.zero, i.size, i.bytes)) = some (some z, s, b)) : ∃ i, P.info? e = some i ∧ i.zero = some z ∧ i.size = s ∧ i.bytes = b := by
  obtain ⟨i, hi, he⟩ := Option.map_eq_some_iff.1 h
  simp only [Prod.mk.injEq] at he
  exact ⟨i, hi, he.1, he.2.1, he.2.2⟩
theorem oneL_err {l : List UInt8} {e : Int} (h : oneL l = .no e) : e ≠ 0 := by
  rintro rfl
  cases l with
  | nil => cases h
  | cons c r =>
    rcases oneL_ways c r with w | w | w | ⟨w, v⟩ | ⟨w, v⟩ | ⟨w1, w2, w3, w4⟩
    · rw [oneL_word w] at h; split at h <;> cases h
    · rw [oneL_quote w] at h; (repeat' split at h) <;> cases h
    · rw [oneL_day w] at h; (repeat' split at h) <;> cases h
    · rw [oneL_num w v] at h; exact absurd (numK_err h) (by decide)
    · rw [oneL_mark w v] at h; cases h
    · rw [oneL_none w1 w2 w3 w4] at h; cases h
theorem owns_rowN {W : World} {base e n z : Nat} {v : Value} {xs : List Value} (h : W.ownsRow base e z v n xs) {row : Option Nat} {C : Nat} (hr : ∀ r, row = some r → C ≤ r ∧ ∃ o : Obj, W.heap[r]? = some o ∧ o.isCells = false) : v.ownBlock = none ∨ v.ownBlock ≠ row := by
  rcases h.2 with ⟨rfl, _⟩ | ⟨g, cap, cur, rfl, _, hg, _⟩
  · exact .inl rfl
  · right
    intro e
    obtain ⟨_, o, ho, hc⟩ := hr g e.symm
    rw [hg] at ho
    injection ho with ho
    subst ho
    cases hc
/-- The boxes of Lex. -/
structure LexB (b : Nat) (s : ByteArray) (k : Nat) (v : Value) (W : World) : Prop where
  t : Boxed W b 9 (.string s)
  r0 : Boxed W (b + 1) 23 (.slice none 0 0)
  r1 : Boxed W (b + 2) 3 (.int .i64 0)
  r2 : Boxed W (b + 3) 24 (.int .i64 0)
  l : Boxed W (b + 4) 23 v
  e : Boxed W (b + 5) 3 (.int .i64 (k : Int))
  c0 : Boxed W (b + 6) 9 (.string s)
  c1 : Boxed W (b + 7) 37 (.pointer (some ⟨b + 5, 0, none⟩))
theorem LexB.kept {b k : Nat} {s : ByteArray} {v : Value} {W W' : World} {row : Option Nat} (h : LexB b s k v W) (hg : W.grownBy W' row) (hr : ∀ j, j < b + 8 → some j ≠ row) : LexB b s k v W' :=
  ⟨h.t.kept hg (hr _ (by omega)), h.r0.kept hg (hr _ (by omega)), h.r1.kept hg (hr _ (by omega)), h.r2.kept hg (hr _ (by omega)), h.l.kept hg (hr _ (by omega)), h.e.kept hg (hr _ (by omega)), h.c0.kept hg (hr _ (by omega)), h.c1.kept hg (hr _ (by omega))⟩
theorem LexB.lt {b k : Nat} {s : ByteArray} {v : Value} {W : World} (h : LexB b s k v W) : b + 8 ≤ W.heap.size := h.c1.lt
theorem LexB.setL {b k : Nat} {s : ByteArray} {v : Value} {W : World} (h : LexB b s k v W) (v' : Value) : LexB b s k v' (W.setCell ⟨b + 4, 0, none⟩ v') :=
  ⟨h.t.other (by omega) _, h.r0.other (by omega) _, h.r1.other (by omega) _, h.r2.other (by omega) _, h.l.set _, h.e.other (by omega) _, h.c0.other (by omega) _, h.c1.other (by omega) _⟩
theorem LexB.setE {b k : Nat} {s : ByteArray} {v : Value} {W : World} (h : LexB b s k v W) (k' : Nat) : LexB b s k' v (W.setCell ⟨b + 5, 0, none⟩ (.int .i64 (k' : Int))) :=
  ⟨h.t.other (by omega) _, h.r0.other (by omega) _, h.r1.other (by omega) _, h.r2.other (by omega) _, h.l.other (by omega) _, h.e.set _, h.c0.other (by omega) _, h.c1.other (by omega) _⟩
/-- Between two tokens. -/
def LexI (w : World) (s : ByteArray) (R : LexR) (k : Nat) (W : World) : Prop :=
  ∃ ts v, k ≤ s.size ∧ (ts : List Tk).length ≤ k ∧ preL ts (lexL k (s.data.toList.drop k)) = R ∧ LexB w.heap.size s k v W ∧ W.ownsRow (w.heap.size + 8) 40 5 v ts.length (tks ts) ∧ Below w.heap.size w W
/-- A token that is none. -/
def LexX (w : World) (R : LexR) (W : World) : Prop :=
  ∃ i e, R = .no i e ∧ Boxed W (w.heap.size + 1) 23 (.slice none 0 0) ∧ Boxed W (w.heap.size + 2) 3 (.int .i64 (i : Int)) ∧ Boxed W (w.heap.size + 3) 24 (.int .i64 e) ∧ Below w.heap.size w W
theorem lexI_own (w : World) (s : ByteArray) (R : LexR) (B : Nat) (hB : w.heap.size + 8 ≤ B) : OwnFrom B (LexI w s R) := by
  intro k W W' row ⟨ts, v, h1, h2, h3, h4, h5, h6⟩ hg hr
  exact ⟨ts, v, h1, h2, h3, h4.kept hg (fun j hj e => by have := (hr j e.symm).1; omega), h5.kept hg (owns_rowN h5 hr), h6.grown hg h6.size (fun k hk => by have := (hr k hk).1; omega)⟩
theorem lexX_own (w : World) (R : LexR) (B : Nat) (hB : w.heap.size + 8 ≤ B) : OwnFrom B (fun (_ : Unit) W => LexX w R W) := by
  intro k W W' row ⟨i, e, h1, h2, h3, h4, h6⟩ hg hr
  have hne : ∀ j, j < w.heap.size + 8 → some j ≠ row := fun j hj e => by have := (hr j e.symm).1; omega
  exact ⟨i, e, h1, h2.kept hg (hne _ (by omega)), h3.kept hg (hne _ (by omega)), h4.kept hg (hne _ (by omega)), h6.grown hg h6.size (fun k hk => by have := (hr k hk).1; omega)⟩
theorem ownsN_base {w : World} {B B' e n z : Nat} {v : Value} {xs : List Value} (h : w.ownsRow B e z v n xs) (hB : B' ≤ B) : w.ownsRow B' e z v n xs := by
  obtain ⟨h1, h2⟩ := h
  refine ⟨h1, ?_⟩
  rcases h2 with h | ⟨g, cap, cur, e1, e2, e3⟩
  · exact .inl h
  · exact .inr ⟨g, cap, cur, e1, Nat.le_trans hB e2, e3⟩
theorem grown_of_below {W W' : World} (h : Below W.heap.size W W') : W.grownBy W' none := ⟨h.os, h.tape, h.output, h.size, fun k hk _ => h.block k hk⟩

theorem tks_snoc (l : List Tk) (x : Tk) : tks l ++ encTk x = tks (l ++ [x]) := by simp [tks]
theorem tk_cells (W : World) (B : Nat) (hB : W.heap.size = B) (x : Tk) (t : TypeId) : ∀ (j : Nat) u, (encTk x)[j]? = some u → (W.alloc (.cells (encTk x).toArray t)).cell? ((⟨B, 0, none⟩ : Addr).add j) = some u := by
  intro j u hj
  rw [show (⟨B, 0, none⟩ : Addr).add j = ⟨B, j, none⟩ by simp [Addr.add] <;> omega, ← hB]
  have := World.alloc_heap_new W (.cells (encTk x).toArray t)
  show (match (W.alloc (.cells (encTk x).toArray t)).heap[W.heap.size]? with | some (.cells c _ _) => c[j]? | _ => none) = _
  rw [this]
  simpa using hj
theorem enc_one (x : Tk) : ∀ u ∈ encTk x, u.oneCell' = true := by
  intro u hu
  simp only [encTk, List.mem_cons, List.not_mem_nil, or_false] at hu
  rcases hu with rfl | rfl | rfl | rfl | rfl <;> rfl
theorem keeps_row {W W' : World} {base e z n : Nat} {v : Value} {xs : List Value} (h : W.ownsRow base e z v n xs) (hg : W.grownBy W' v.ownBlock) : KeepsOthers W W' :=
  KeepsOthers.of_grownBy hg fun j o ej hj => by
    rcases h.2 with ⟨rfl, _⟩ | ⟨g, cap, cur, rfl, _, hgb, _⟩
    · simp [Value.ownBlock] at ej
    · obtain rfl : g = j := by simpa [Value.ownBlock] using ej
      rw [hgb] at hj; cases hj; rfl
/-- What Lex hands back. -/
def LexPost (w : World) (len : Nat) (R : LexR) (e : Ending) (w' : World) : Prop :=
  (∃ i er, R = .no i er ∧ e = .returned (.tuple #[.slice none 0 0, .int .i64 ((i : Nat) : Int), .int .i64 er]) ∧ Below w.heap.size w w') ∨
  (∃ ts v, R = .yes ts ∧ e = .returned (.tuple #[v, .int .i64 (len : Int), .int .i64 0]) ∧ w'.ownsRow w.heap.size 40 5 v (ts : List Tk).length (tks ts) ∧ Below w.heap.size w w')

set_option maxHeartbeats 4000000 in
set_option maxRecDepth 100000 in
theorem lex_any (s : ByteArray) (w : World) (hs : s.size ≤ 20000) : Calls Tryz.prog 5 #[.string s] w (LexPost w s.size (lexL 0 s.data.toList)) := by
  obtain ⟨R, hR⟩ : ∃ R, R = lexL 0 s.data.toList := ⟨_, rfl⟩
  rw [← hR]
  have HR := Lib.hid hR
  clear hR
  refine (callsIn_wide (n := 6)).1 ?_
  refine callsIn_of_wp_marks Tryz.func5 rfl trivial ?_ rfl
  simp only [Tryz.ntmps5, List.size_toArray, List.length_cons, List.length_nil, Nat.reduceAdd, Nat.reduceSub, Array.replicate_succ, Array.replicate_zero, List.push_toArray, List.append_toArray, List.nil_append, List.cons_append]
  have hT : ∀ f, Fence.wide.fn f := fun _ => trivial
  have hgt : decide ((20000 : Int) < (s.size : Int)) = false := by simp; omega
  gi_wp2_with (gi_at_call 10; refine (callsIn_wide.2 (starts_any s _ _)).mono ?_; rintro e w' ⟨rfl, rfl⟩)
  obtain ⟨W0, hW0⟩ : ∃ W0, W0 = (((((((w.alloc (.cells #[.string s] 9)).alloc (.cells #[.slice none 0 0] 23)).alloc (.cells #[.int .i64 0] 3)).alloc (.cells #[.int .i64 0] 24)).alloc (.cells #[.slice none 0 0] 23)).alloc (.cells #[.int .i64 0] 3)).alloc (.cells #[.string s] 9)).alloc (.cells #[.pointer (some ⟨w.heap.size + 5, 0, none⟩)] 37) := ⟨_, rfl⟩
  have hsz : W0.heap.size = w.heap.size + 8 := by rw [hW0]; simp
  have hB0 : LexB w.heap.size s 0 (.slice none 0 0) W0 := by
    rw [hW0]
    have e : ∀ (u : World) (t : TypeId) (v : Value) (B : Nat), u.heap.size = B → Boxed (u.alloc (.cells #[v] t)) B t v := fun u t v B h => by rw [← h]; exact Boxed.new u t v
    refine ⟨?_, ?_, ?_, ?_, ?_, ?_, ?_, ?_⟩
    · exact ((((((((e w _ _ _ rfl).alloc _).alloc _).alloc _).alloc _).alloc _).alloc _).alloc _)
    · exact (((((((e _ _ _ _ (by simp)).alloc _).alloc _).alloc _).alloc _).alloc _).alloc _)
    · exact ((((((e _ _ _ _ (by simp)).alloc _).alloc _).alloc _).alloc _).alloc _)
    · exact (((((e _ _ _ _ (by simp)).alloc _).alloc _).alloc _).alloc _)
    · exact ((((e _ _ _ _ (by simp)).alloc _).alloc _).alloc _)
    · exact (((e _ _ _ _ (by simp)).alloc _).alloc _)
    · exact ((e _ _ _ _ (by simp)).alloc _)
    · exact (e _ _ _ _ (by simp))
  have hbel : Below w.heap.size w W0 := by rw [hW0]; exact ((((((((Below.refl _ w).alloc (Nat.le_refl _) _).alloc (by simp) _).alloc (by simp; omega) _).alloc (by simp; omega) _).alloc (by simp; omega) _).alloc (by simp; omega) _).alloc (by simp; omega) _).alloc (by simp; omega) _
  rw [← hW0]
  clear hW0
  simp only [Nat.add_assoc, Nat.reduceAdd]
  have HB0 := Lib.hid hB0
  have hS := starts_at s (by omega) 5 (w.heap.size + 6) (w.heap.size + 7) (w.heap.size + 5) (by omega) W0
  have HSZ := Lib.hid hsz
  obtain ⟨i0, hi, hz0, hz1, hz2⟩ := info_partsN infoTk
  refine range_at (by omega) (gf := 16) (lb := #[.pointer (some ⟨w.heap.size + 6, 0, none⟩), .pointer (some ⟨w.heap.size + 7, 0, none⟩)]) rfl (enters_of Tryz.func16 (by kernel_rfl) rfl) hS (Below.refl _ _) rfl
    (LexI w s R) (LexX w R) (lexI_own w s R _ (by omega)) (lexX_own w R _ (by omega)) (fun k W h => by
      obtain ⟨ts, v, h1, _, _, h4, _⟩ := h
      exact ⟨h1, h4.c0, h4.c1, h4.e⟩) 0 ⟨[], .slice none 0 0, Nat.zero_le _, Nat.zero_le _, by rw [List.drop_zero, preL_nil, HR.out], hB0, World.ownsRow_nil _ _ _ _, hbel⟩ ?a1 ?assign ?body ?done ?stop
  case assign =>
    intro l x W K hK
    gi_wp2
    exact hK
  case body =>
    rintro l k W ⟨ts, v, hk, hlen, hpre, hB, hown, hbl⟩ hgo
    obtain ⟨T, hTd⟩ : ∃ T, T = k + skS false (s.data.toList.drop k) := ⟨_, rfl⟩
    have hTs : T < s.size := by rw [hTd]; exact hgo
    have hTI : T < 20000 := by omega
    have hpl : placeV s k = .int .i64 (T : Int) := by unfold placeV; rw [← hTd]
    simp only [hpl]
    have hone := Lib.hid (one_any s T W (by omega) hTs)
    have hct := hB.t.cell
    have hT2 : ∀ f, (Fence.wide.inRound l).fn f := fun _ => trivial
    have hd1 : 1 ≤ 6 - 1 - 1 := by omega
    have hsk : skS false (s.data.toList.drop k) < (s.data.toList.drop k).length := by rw [List.length_drop, data_len]; omega
    have hdd : (s.data.toList.drop k).drop (skS false (s.data.toList.drop k)) = s.data.toList.drop T := by rw [List.drop_drop, hTd]
    have HB := Lib.hid hB
    have HOWN := Lib.hid hown
    have HBL := Lib.hid hbl
    have HTD := Lib.hid hTd
    have HPRE := Lib.hid hpre
    have HSK := Lib.hid hsk
    have HDD := Lib.hid hdd
    clear hB hown hbl hTd hpre hsk hdd hgo hpl hT
    cases hR1 : oneL (s.data.toList.drop T) with
    | no er =>
      have he : (er != 0) = true := by simpa using oneL_err hR1
      have HR1 := Lib.hid hR1
      rw [hR1] at hone
      clear hR1
      gi_wp2_with (gi_at_call 11; refine (CallsIn.inRound l (callsIn_wide.2 hone.out)).mono ?_; rintro e w1 ⟨⟨K, TT, Q, D, en, rfl⟩, hb1⟩; have hB1 := (HB.out.kept (grown_of_below hb1) (by simp)).kept (World.grownBy_alloc w1 (.cells #[.int .u8 K, .string TT, .string Q, .int .i64 D, .int .i64 (T : Int)] 40) none) (by simp); have f1 := hB1.r0.cell; have f2 := hB1.r1.cell; have f3 := hB1.r2.cell; have f4 := hB1.r0.frozen; have f5 := hB1.r1.frozen; have f6 := hB1.r2.frozen; have f7 := hB1.lt; have HB1 := Lib.hid hB1; have HBE := Lib.hid hb1; clear hB1 hb1)
      refine ⟨KeepsOthers.from ?_ _, T, er, ?_, ?_, ?_, ?_, ?_⟩
      · exact ((((KeepsOthers.of_grownBy (grown_of_below HBE.out) (by simp)).trans (KeepsOthers.alloc _ _)).trans (KeepsOthers.setCell _ _ _)).trans (KeepsOthers.setCell _ _ _)).trans (KeepsOthers.setCell _ _ _)
      · have h1 := lexL_no (off := k) HSK.out (by rw [HDD.out]; exact HR1.out)
        rw [← HPRE.out, h1, ← HTD.out]; rfl
      · exact ((HB1.out.r0.set _).other (by omega) _).other (by omega) _
      · exact ((HB1.out.r1.other (by omega) _).set _).other (by omega) _
      · exact ((HB1.out.r2.other (by omega) _).other (by omega) _).set _
      · have hW : Below w.heap.size w w1 := HBL.out.grown (grown_of_below HBE.out) HBL.out.size (by simp)
        exact (((hW.alloc hW.size _).setCell (by simp) _).setCell (by simp) _).setCell (by simp) _
    | yes t m =>
      have hm1 := oneL_pos hR1
      have hm2 : T + m ≤ s.size := by have := oneL_le hR1; rw [List.length_drop, data_len] at this; omega
      have HR1 := Lib.hid hR1
      rw [hR1] at hone
      clear hR1
      obtain ⟨x, hx⟩ : ∃ x : Tk, x = { t with place := (T : Int) } := ⟨_, rfl⟩
      obtain ⟨O, hO⟩ : ∃ O : Obj, O = .cells #[.int .u8 t.kind, .string t.text, .string t.rat, .int .i64 t.date, .int .i64 (T : Int)] 40 := ⟨_, rfl⟩
      have hxO : O = .cells (encTk x).toArray 40 := by rw [hO, hx]; rfl
      have HX := Lib.hid hx
      have HXO := Lib.hid hxO
      have HO := Lib.hid hO
      have hktT : k ≤ T := by have := HTD.out; omega
      have hlb : ts.length < 20000 := by omega
      have HTT := Lib.hid hktT
      clear hx hxO hO hktT
      gi_wp2_with (first
        | (gi_at_call 11
           refine (CallsIn.inRound l (callsIn_wide.2 hone.out)).mono ?_
           rintro e w1 ⟨rfl, hb1⟩
           have hB1 := (HB.out.kept (grown_of_below hb1) (by simp)).kept (World.grownBy_alloc w1 (.cells #[.int .u8 t.kind, .string t.text, .string t.rat, .int .i64 t.date, .int .i64 (T : Int)] 40) none) (by simp)
           have f1 := hB1.l.cell
           have f2 := hB1.e.cell
           have f4 := hB1.l.frozen
           have f5 := hB1.e.frozen
           have f7 := hB1.lt
           have HB1 := Lib.hid hB1
           have HBE := Lib.hid hb1
           clear hB1 hb1)
        | (gi_at_builtin
           have HOA := Lib.hid (((HOWN.out.kept (grown_of_below HBE.out) (Classical.em _)).alloc (.cells #[.int .u8 t.kind, .string t.text, .string t.rat, .int .i64 t.date, .int .i64 (T : Int)] 40)).alloc (.cells #[.int .u8 t.kind, .string t.text, .string t.rat, .int .i64 t.date, .int .i64 (T : Int)] 40))
           refine wpListIn_append_own _ rfl (.tmp 28) (.tmp 30) 23 rfl (w.heap.size + 8) 40 i0 zeroTk 5 56 Tryz.underlying23 hi hz0 hz1 hz2 rfl (by decide) _ _ _ rfl HOA.out ⟨w1.heap.size + 1, 0, none⟩ 1 1 (encTk x) rfl rfl ?c1 ?c2 ?c3 ?c4 ?c5 ?_))
      case c1 => rw [← HO.out, HXO.out]; exact tk_cells _ _ (by simp) x _
      case c2 => exact enc_one x
      case c3 => unfold maxLen; omega
      case c4 => omega
      case c5 => simp; simp at f7; omega
      intro v' w2 hown' hgrow _
      obtain ⟨g', cap', rfl⟩ : ∃ g cap, v' = .slice (some ⟨g, 0, none⟩) (ts.length + 1) cap := by
        rcases hown'.2 with ⟨_, h0⟩ | ⟨g, cap, cur, rfl, _⟩
        · omega
        · exact ⟨g, cap, rfl⟩
      have HOA := Lib.hid (((HOWN.out.kept (grown_of_below HBE.out) (Classical.em _)).alloc (.cells #[.int .u8 t.kind, .string t.text, .string t.rat, .int .i64 t.date, .int .i64 (T : Int)] 40)).alloc (.cells #[.int .u8 t.kind, .string t.text, .string t.rat, .int .i64 t.date, .int .i64 (T : Int)] 40))
      have hnb : ∀ j, j < w.heap.size + 8 → some j ≠ v.ownBlock := fun j hj e => by have := (HOA.out.lt j e.symm).1; omega
      have hb2 := (HB1.out.kept (World.grownBy_alloc _ (.cells #[.int .u8 t.kind, .string t.text, .string t.rat, .int .i64 t.date, .int .i64 (T : Int)] 40) none) (by simp)).kept hgrow hnb
      have g1 := hb2.l.cell
      have g2 := hb2.e.cell
      have g3 := hb2.l.frozen
      have g4 := hb2.e.frozen
      have HB2 := Lib.hid hb2
      have KO : Hid (KeepsOthers W w2) := ((((KeepsOthers.of_grownBy (grown_of_below HBE.out) (by simp)).trans (KeepsOthers.alloc _ _)).trans (KeepsOthers.alloc _ _)).trans (keeps_row HOA.out hgrow))
      have BL2 : Hid (Below w.heap.size w w2) := by
        have hW : Below w.heap.size w w1 := HBL.out.grown (grown_of_below HBE.out) HBL.out.size (by simp)
        have hW2 := (hW.alloc hW.size (.cells #[.int .u8 t.kind, .string t.text, .string t.rat, .int .i64 t.date, .int .i64 (T : Int)] 40))
        have hW3 := hW2.alloc hW2.size (.cells #[.int .u8 t.kind, .string t.text, .string t.rat, .int .i64 t.date, .int .i64 (T : Int)] 40)
        exact hW3.grown hgrow hW3.size (fun k hk => by have := (HOA.out.lt k hk).1; omega)
      have HOWN2 := Lib.hid hown'
      clear hown' hgrow hnb hb2
      gi_wp2
      have hgb : w.heap.size + 8 ≤ g' := (HOWN2.out.lt g' rfl).1
      refine ⟨KeepsOthers.from ((KO.out.trans (KeepsOthers.setCell _ _ _)).trans (KeepsOthers.setCell _ _ _)) _, T + m, by have := HTT.out; omega, ts ++ [x], .slice (some ⟨g', 0, none⟩) (ts.length + 1) cap', hm2, by rw [List.length_append]; show ts.length + 1 ≤ _; have := HTT.out; omega, ?_, ?_, ?_, ?_⟩
      · have h1 := lexL_yes (off := k) HSK.out (by rw [HDD.out]; exact HR1.out)
        rw [← HTD.out, ← HX.out] at h1
        rw [← HPRE.out, h1, preL_pre1, List.drop_drop, ← Nat.add_assoc, ← HTD.out]
      · have := (HB2.out.setL (.slice (some ⟨g', 0, none⟩) (ts.length + 1) cap')).setE (T + m)
        rw [Int.natCast_add] at this
        exact this
      · have h1 := HOWN2.out
        rw [tks_snoc] at h1
        rw [List.length_append]
        exact (h1.kept (grownBy_setCell' _ _ _) (.inr (fun e => by simp [Value.ownBlock] at e; omega))).kept (grownBy_setCell' _ _ _) (.inr (fun e => by simp [Value.ownBlock] at e; omega))
      · exact (BL2.out.setCell (by simp) _).setCell (by simp) _
  case done =>
    rintro D k W hD hF ⟨ts, v, hk, hlen, hpre, hB, hown, hbl⟩ hK
    obtain ⟨va, vn, vc, rfl⟩ : ∃ a n c, v = .slice a n c := by
      rcases hown.2 with ⟨rfl, _⟩ | ⟨g, cap, cur, rfl, _⟩
      · exact ⟨_, _, _, rfl⟩
      · exact ⟨_, _, _, rfl⟩
    have c0 := hB.t.cell
    have c1 := hB.r0.cell
    have c2 := hB.r1.cell
    have c3 := hB.r2.cell
    have c4 := hB.l.cell
    have c5 := hB.r0.frozen
    have c6 := hB.r1.frozen
    have c7 := hB.r2.frozen
    have HB := Lib.hid hB
    have HOWN := Lib.hid hown
    have HBL := Lib.hid hbl
    have HPRE := Lib.hid hpre
    have HF := Lib.hid hF
    have HK := Lib.hid hK
    have HW := HB.out.lt
    clear hB hown hbl hpre hF hK
    gi_wp2
    refine wpIn_wide.2 ?_
    go_region
    obtain ⟨FW, hFW⟩ : ∃ FW, FW = (((W.setCell ⟨w.heap.size + 1, 0, none⟩ (.slice va vn vc)).setCell ⟨w.heap.size + 2, 0, none⟩ (.int .i64 (s.size : Int))).setCell ⟨w.heap.size + 3, 0, none⟩ (.int .i64 0)).drew := ⟨_, rfl⟩
    rw [← hFW]
    have b1 : Boxed FW (w.heap.size + 1) 23 (.slice va vn vc) := by rw [hFW]; exact ((HB.out.r0.set _).other (by omega) _).other (by omega) _
    have b2 : Boxed FW (w.heap.size + 2) 3 (.int .i64 (s.size : Int)) := by rw [hFW]; exact ((HB.out.r1.other (by omega) _).set _).other (by omega) _
    have b3 : Boxed FW (w.heap.size + 3) 24 (.int .i64 0) := by rw [hFW]; exact ((HB.out.r2.other (by omega) _).other (by omega) _).set _
    have bK : FW.heap[D]? = some (.deferred (some [])) := by
      rw [hFW]
      show (((W.setCell ⟨w.heap.size + 1, 0, none⟩ (.slice va vn vc)).setCell ⟨w.heap.size + 2, 0, none⟩ (.int .i64 (s.size : Int))).setCell ⟨w.heap.size + 3, 0, none⟩ (.int .i64 0)).heap[D]? = _
      rw [Below.heap_setCell _ ⟨w.heap.size + 3, 0, none⟩ _ D (by show D ≠ w.heap.size + 3; omega), Below.heap_setCell _ ⟨w.heap.size + 2, 0, none⟩ _ D (by show D ≠ w.heap.size + 2; omega), Below.heap_setCell _ ⟨w.heap.size + 1, 0, none⟩ _ D (by show D ≠ w.heap.size + 1; omega)]
      exact HK.out
    have bB : Below w.heap.size w FW := by rw [hFW]; exact (((HBL.out.setCell (by simp) _).setCell (by simp) _).setCell (by simp) _).drew
    have hne : ∀ B, B < w.heap.size + 8 → (Value.slice va vn vc).ownBlock = none ∨ (Value.slice va vn vc).ownBlock ≠ some B := fun B hB => .inr (fun e => by have := (HOWN.out.lt B e).1; omega)
    have bO : FW.ownsRow (w.heap.size + 8) 40 5 (.slice va vn vc) ts.length (tks ts) := by
      rw [hFW]
      have o1 := HOWN.out.kept (grownBy_setCell' W (w.heap.size + 1) (.slice va vn vc)) (hne (w.heap.size + 1) (by omega))
      have o2 := o1.kept (grownBy_setCell' _ (w.heap.size + 2) (.int .i64 (s.size : Int))) (hne (w.heap.size + 2) (by omega))
      have o3 := o2.kept (grownBy_setCell' _ (w.heap.size + 3) (.int .i64 0)) (hne (w.heap.size + 3) (by omega))
      exact o3
    clear hFW c0 c1 c2 c3 c4 c5 c6 c7
    gi_wp2
    have e1 : Boxed (FW.putObj D (.deferred none)) (w.heap.size + 1) 23 (.slice va vn vc) := b1.kept (grownBy_putObj' FW D (.deferred none)) (fun e => by injection e with e; omega)
    have e2 : Boxed (FW.putObj D (.deferred none)) (w.heap.size + 2) 3 (.int .i64 (s.size : Int)) := b2.kept (grownBy_putObj' FW D (.deferred none)) (fun e => by injection e with e; omega)
    have e3 : Boxed (FW.putObj D (.deferred none)) (w.heap.size + 3) 24 (.int .i64 0) := b3.kept (grownBy_putObj' FW D (.deferred none)) (fun e => by injection e with e; omega)
    have q1 := e1.cell
    have q2 := e2.cell
    have q3 := e3.cell
    have hle : skS false (s.data.toList.drop k) = (s.data.toList.drop k).length := by
      have := HF.out
      rw [List.length_drop, data_len]; omega
    have hRR : R = .yes ts := by
      rw [← HPRE.out, lexL_end hle]; simp [preL]
    have oP : (FW.putObj D (.deferred none)).ownsRow (w.heap.size + 8) 40 5 (.slice va vn vc) ts.length (tks ts) := bO.kept (grownBy_putObj' FW D (.deferred none)) (owns_rowN bO (C := 0) (fun r e => by injection e with e; exact ⟨Nat.zero_le _, _, by rw [← e]; exact bK, rfl⟩))
    refine ⟨by simp, .inl ⟨_, _, rfl, run_takeDeferred bK, ?_⟩⟩
    refine ⟨.tuple #[.slice va vn vc, .int .i64 (s.size : Int), .int .i64 0], ?_, .inr ⟨ts, .slice va vn vc, hRR, rfl, ?_, bB.grown (grownBy_putObj' FW D (.deferred none)) bB.size (fun k e => by injection e with e; omega)⟩⟩
    · simp [results, Tryz.results5, go_sem, q1, q2, q3]
    · exact ownsN_base oP (by omega)
  case stop =>
    rintro D W hD ⟨i, er, hRe, h1, h2, h3, hbl⟩ hK
    have c1 := h1.cell
    have c2 := h2.cell
    have c3 := h3.cell
    gi_wp2
    have e1 : Boxed (W.putObj D (.deferred none)) (w.heap.size + 1) 23 (.slice none 0 0) := h1.kept (grownBy_putObj' W D (.deferred none)) (fun e => by injection e with e; omega)
    have e2 : Boxed (W.putObj D (.deferred none)) (w.heap.size + 2) 3 (.int .i64 (i : Int)) := h2.kept (grownBy_putObj' W D (.deferred none)) (fun e => by injection e with e; omega)
    have e3 : Boxed (W.putObj D (.deferred none)) (w.heap.size + 3) 24 (.int .i64 er) := h3.kept (grownBy_putObj' W D (.deferred none)) (fun e => by injection e with e; omega)
    have q1 := e1.cell
    have q2 := e2.cell
    have q3 := e3.cell
    refine ⟨by simp, .inl ⟨_, _, rfl, run_takeDeferred hK, ?_⟩⟩
    refine ⟨.tuple #[.slice none 0 0, .int .i64 (i : Int), .int .i64 er], ?_, .inl ⟨i, er, hRe, rfl, hbl.grown (grownBy_putObj' W D (.deferred none)) hbl.size (fun k e => by injection e with e; omega)⟩⟩
    simp [results, Tryz.results5, go_sem, q1, q2, q3]

end Go.Proofs.YtnmiiimbjojcmaaGreatDoor
