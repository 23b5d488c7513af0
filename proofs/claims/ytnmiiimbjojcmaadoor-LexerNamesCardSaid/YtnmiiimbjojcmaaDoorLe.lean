/-
  Joined texts of tokens: the program's Join and the reference's, walked. No condition.
-/
import Derived.Test.YtnmiiimbjojcmaaDoorWb
import Derived.Test.YtnmiiimbjojcmaaDoorShelfc
namespace Go.Proofs.YtnmiiimbjojcmaaDoor
open Go.RowKit Go.Lib

theorem isb_below {T e : TypeId} {B b : Nat} {bs : List Value} {W w' : World} (h : IsBuilderF T e B b bs W) (hb : Below W.heap.size W w') : IsBuilderF T e B b bs w' := by
  have key : ∀ k o, W.heap[k]? = some o → w'.heap[k]? = some o := fun k o hk => (hb.block k (Array.getElem?_eq_some_iff.1 hk).1).trans hk
  have main : ∀ p, BuilderAtF T e B b p bs W → BuilderAtF T e B b p bs w' := by
    rintro p ⟨hB, v, h1, ⟨h2, h3⟩, h4⟩
    refine ⟨hB, v, key _ _ h1, ⟨h2, ?_⟩, h4⟩
    rcases h3 with h3 | ⟨g, cap, cur, fz, e1, e2, e3, e4⟩
    · exact .inl h3
    · exact .inr ⟨g, cap, cur, fz, e1, e2, key _ _ e3, e4⟩
  exact h.elim (fun x => .inl (main _ x)) (fun x => .inr (main _ x))

/-- The joined text of the first tokens. -/
noncomputable def jT (l : List Tk) : Nat → List UInt8
  | 0 => []
  | k + 1 => jT l k ++ ((if k = 0 then [] else [32]) ++ (txT (l[k]?.getD default)).data.toList)
open Classical in
/-- What Join returns. -/
noncomputable def jR (l : List Tk) (n : Nat) : ByteArray × Int :=
  if ∃ i, i < n ∧ tkB (l[i]?.getD default) = false then (⟨#[]⟩, 8) else if 20000 < (jT l n).length then (⟨#[]⟩, 4) else (⟨(jT l n).toArray⟩, 0)
theorem jR_bad {l : List Tk} {n i : Nat} (hi : i < n) (h : tkB (l[i]?.getD default) = false) : jR l n = (⟨#[]⟩, 8) := if_pos ⟨i, hi, h⟩
theorem jR_no {l : List Tk} {n : Nat} (h : ∀ i, i < n → tkB (l[i]?.getD default) = true) : ¬ ∃ i, i < n ∧ tkB (l[i]?.getD default) = false := by
  rintro ⟨i, hi, hb⟩; rw [h i hi] at hb; cases hb
theorem jR_long {l : List Tk} {n : Nat} (h : ∀ i, i < n → tkB (l[i]?.getD default) = true) (hl : 20000 < (jT l n).length) : jR l n = (⟨#[]⟩, 4) := by unfold jR; rw [if_neg (jR_no h), if_pos hl]
theorem jR_ok {l : List Tk} {n : Nat} (h : ∀ i, i < n → tkB (l[i]?.getD default) = true) (hl : ¬ 20000 < (jT l n).length) : jR l n = (⟨(jT l n).toArray⟩, 0) := by unfold jR; rw [if_neg (jR_no h), if_neg hl]
theorem jT_mono (l : List Tk) {a b : Nat} (h : a ≤ b) : (jT l a).length ≤ (jT l b).length := by
  induction b with
  | zero => have : a = 0 := by omega
            subst this; exact Nat.le_refl _
  | succ b ih =>
    rcases Nat.lt_or_ge b a with h' | h'
    · have : a = b + 1 := by omega
      subst this; exact Nat.le_refl _
    · have := ih h'
      show _ ≤ (jT l b ++ _).length
      rw [List.length_append]; omega
theorem dtxt_len (n : Int) : (dtxt n).length = 10 := dateB_len _ _ _
theorem txT_size {x : Tk} (h : ¬ bigTk x) : (txT x).size ≤ 2502 := by
  unfold bigTk at h
  unfold txT
  split
  · rw [ByteArray.size_append, ByteArray.size_append]
    show 1 + x.text.size + 1 ≤ _
    omega
  · split
    · omega
    · split
      · show (dtxt x.date).toArray.size ≤ _
        have := dtxt_len x.date
        simp only [List.size_toArray]; omega
      · omega
theorem jT_len {l : List Tk} {n : Nat} (h : ∀ i, i < n → ¬ bigTk (l[i]?.getD default)) : ∀ k, k ≤ n → (jT l k).length ≤ 2503 * k := by
  intro k
  induction k with
  | zero => intro _; exact Nat.le_refl _
  | succ k ih =>
    intro hk
    have a := ih (by omega)
    have b := txT_size (h k (by omega))
    show (jT l k ++ _).length ≤ _
    rw [List.length_append, List.length_append, data_len]
    split <;> simp <;> omega

/-- The loop of Join. -/
def JnR (l : List Tk) (n : Nat) (w : World) (v : Value) (wr : World) : Prop :=
  ∃ k : Nat, k ≤ n ∧ v = .int .i64 (k : Int) ∧ IsBuilderF 59 5 w.heap.size w.heap.size (byteCells (jT l k)) wr ∧ Below w.heap.size w wr ∧ ∀ i, i < k → tkB (l[i]?.getD default) = true

set_option maxHeartbeats 4000000 in
set_option maxRecDepth 100000 in
theorem join_any (g o n c : Nat) (l : List Tk) (w : World) (hl : l.length = n) (hn : n ≤ 300) (hg : g < w.heap.size) (h : Tks w g o l) (hs : ∀ i, i < n → ¬ bigTk (l[i]?.getD default)) :
    Calls Tryd.prog 19 #[.slice (some ⟨g, o, none⟩) n c] w (TPost w (jR l n).1 (jR l n).2) := by
  have HL := Lib.hid hl
  have HH := Lib.hid h
  have HS := Lib.hid hs
  have JL := Lib.hid (jT_len hs)
  obtain ⟨R, hR⟩ : ∃ R, R = jR l n := ⟨_, rfl⟩
  rw [← hR]
  have HR := Lib.hid hR
  have HST : Hid (JnR l n w (.int .i64 0) (w.alloc (.cells #[.pointer none, .slice none 0 0] 59))) :=
    ⟨0, Nat.zero_le _, rfl, IsBuilderF.of (fresh_isBuilder _ _ w), own_below _ _, fun i hi => absurd hi (Nat.not_lt_zero _)⟩
  clear hl h hs hR
  go_enter Tryd.func19, Tryd.ntmps19
  go_wp2_with fail
  go_loopw [11] (JnR l n w) (fun v _ => n - (RowKit.intOf v).toNat)
  case atStart => exact HST.out
  case round =>
    obtain ⟨w1, rfl⟩ : ∃ w1 : World, w1 = wr := ⟨_, rfl⟩
    obtain ⟨k, hk, rfl, hb, hbel, hok⟩ := hrel
    have HB := Lib.hid hb
    have HBEL := Lib.hid hbel
    have HOK := Lib.hid hok
    have hgs : g < w1.heap.size := Nat.lt_of_lt_of_le hg hbel.size
    have hjl := JL.out k hk
    by_cases hlt : k < n
    · obtain ⟨x, hx⟩ : ∃ x, x = l[k]?.getD default := ⟨_, rfl⟩
      have a := tks_below HH.out hbel hg k (by have := HL.out; omega)
      have hbig := HS.out k hlt
      rw [← hx] at a hbig
      obtain ⟨a0, a1, a2, a3, a4⟩ := a
      have HT : Hid (∀ W, Calls Tryd.prog 32 #[.agg #[.int .u8 x.kind, .string x.text, .string x.rat, .int .i64 x.date, .int .i64 x.place]] W (if tkB x = true then TPost W (txT x) 0 else TPost W ⟨#[]⟩ 8)) := fun W => ptext_tk x W (by unfold bigTk at hbig; omega) (by unfold bigTk at hbig; omega)
      have HB1 := Lib.hid (HB.out.alloc (.cells #[.int .u8 x.kind, .string x.text, .string x.rat, .int .i64 x.date, .int .i64 x.place] 33))
      have HBEL1 := Lib.hid (HBEL.out.alloc HBEL.out.size (.cells #[.int .u8 x.kind, .string x.text, .string x.rat, .int .i64 x.date, .int .i64 x.place] 33))
      cases htk : tkB x with
      | false =>
        rw [htk] at HT
        have HE : Hid (R = (⟨#[]⟩, 8)) := HR.out.trans (jR_bad hlt (by rw [← hx]; exact htk))
        clear hb hbel hok hx htk hbig HST
        go_wp2_with fail
        refine (HT.out _).mono ?_
        rintro e w2 ⟨rfl, b2⟩
        have B2 := Lib.hid (HBEL1.out.trans (b2.mono HBEL1.out.size))
        clear b2
        go_wp2_with fail
        go_ret2
        exact ⟨by rw [HE.out]; rfl, B2.out⟩
      | true =>
        rw [htk] at HT
        have HOK1 : Hid (∀ i, i < k + 1 → tkB (l[i]?.getD default) = true) := fun i hi => by
          by_cases e : i = k
          · subst e; rw [← hx]; exact htk
          · exact HOK.out i (by omega)
        have hts := txT_size hbig
        have HJ : Hid (jT l (k + 1) = jT l k ++ ((if k = 0 then [] else [32]) ++ (txT x).data.toList)) := by rw [hx]; rfl
        obtain ⟨s, hsx⟩ : ∃ s, s = txT x := ⟨_, rfl⟩
        rw [← hsx] at HT HJ hts
        obtain ⟨J, hJ⟩ : ∃ J, J = jT l k := ⟨_, rfl⟩
        rw [← hJ] at HB1 HJ hjl
        clear hb hbel hok hx htk hbig HST hsx hJ HB HOK
        go_wp2_with fail
        refine (HT.out _).mono ?_
        rintro e w2 ⟨rfl, b2⟩
        have B2 := Lib.hid (HBEL1.out.trans (b2.mono HBEL1.out.size))
        have I2 := Lib.hid (isb_below HB1.out b2)
        clear b2 HB1 HBEL1 HT
        rcases Nat.eq_zero_or_pos k with hk0 | hk0
        · have HJ0 : Hid (jT l (k + 1) = J ++ s.data.toList) := by rw [HJ.out, if_pos hk0]; rfl
          subst hk0
          clear HJ
          go_wp2_with fail
          refine (Tryd.builder_string w.heap.size w.heap.size (byteCells J) s _ I2.out (by rw [byteCells_length]; omega) B2.out.size).mono ?_
          rintro e w3 ⟨rfl, i3, b3, _⟩
          have B3 := Lib.hid (B2.out.trans b3)
          have I3 : Hid (IsBuilderF 59 5 w.heap.size w.heap.size (byteCells (jT l (0 + 1))) w3) := by rw [HJ0.out, byteCells_append, ← strCells_eq]; exact Or.inr i3
          clear i3 b3 I2 B2
          go_wp2_with fail
          go_roundw
          case rel => exact ⟨0 + 1, by omega, by go_num, I3.out, B3.out, HOK1.out⟩
          case measure => simp [RowKit.intOf]; omega
        · have HJ1 : Hid (jT l (k + 1) = (J ++ [32]) ++ s.data.toList) := by show _ = _; rw [HJ.out, if_neg (by omega)]; simp
          clear HJ
          go_wp2_with fail
          refine (Tryd.builder_byte w.heap.size w.heap.size (byteCells J) 32 _ I2.out (by rw [byteCells_length]; omega) B2.out.size).mono ?_
          rintro e w3 ⟨rfl, i3, b3, _⟩
          have B3 := Lib.hid (B2.out.trans b3)
          have I3 : Hid (IsBuilderF 59 5 w.heap.size w.heap.size (byteCells (J ++ [32])) w3) := by rw [byteCells_append]; exact Or.inr i3
          clear i3 b3 I2 B2
          go_wp2_with fail
          refine (Tryd.builder_string w.heap.size w.heap.size (byteCells (J ++ [32])) s _ I3.out (by rw [byteCells_length, List.length_append, List.length_singleton]; omega) B3.out.size).mono ?_
          rintro e w4 ⟨rfl, i4, b4, _⟩
          have B4 := Lib.hid (B3.out.trans b4)
          have I4 : Hid (IsBuilderF 59 5 w.heap.size w.heap.size (byteCells (jT l (k + 1))) w4) := by rw [HJ1.out, byteCells_append, ← strCells_eq]; exact Or.inr i4
          clear i4 b4 I3 B3
          go_wp2_with fail
          go_roundw
          case rel => exact ⟨k + 1, by omega, by go_num, I4.out, B4.out, HOK1.out⟩
          case measure => simp [RowKit.intOf]; omega
    · have hkn : k = n := by omega
      subst hkn
      have HLEN : Hid (∀ W, IsBuilderF 59 5 w.heap.size w.heap.size (byteCells (jT l k)) W → Calls Tryd.prog 35 #[.pointer (some ⟨w.heap.size, 0, none⟩)] W fun e w' => e = .returned (.int .i64 ((jT l k).length : Int)) ∧ W = w') := fun W hW => by
        have := Tryd.builder_len w.heap.size w.heap.size _ W hW
        rw [byteCells_length] at this
        exact this.mono fun _ _ ⟨a, b⟩ => ⟨a, b.symm⟩
      obtain ⟨J, hJ⟩ : ∃ J, J = jT l k := ⟨_, rfl⟩
      obtain ⟨m, hm⟩ : ∃ m, m = J.length := ⟨_, rfl⟩
      rw [← hJ, ← hm] at HLEN
      rw [← hJ] at HB
      by_cases hbig : 20000 < m
      · have HE : Hid (R = (⟨#[]⟩, 4)) := HR.out.trans (jR_long HOK.out (by rw [← hJ, ← hm]; exact hbig))
        have t0 : decide ((20000 : Int) < (m : Int)) = true := by simp; omega
        clear hb hbel hok hJ hm HST hbig hjl
        go_wp2_with fail
        refine (HLEN.out _ HB.out).mono ?_
        rintro e w' ⟨rfl, rfl⟩
        go_wp2_with fail
        go_ret2
        exact ⟨by rw [HE.out]; rfl, HBEL.out⟩
      · have HE : Hid (R = (⟨J.toArray⟩, 0)) := HR.out.trans (by rw [jR_ok HOK.out (by rw [← hJ, ← hm]; exact hbig), hJ])
        have t0 : decide ((20000 : Int) < (m : Int)) = false := by simp; omega
        clear hb hbel hok hJ hm HST hbig hjl
        go_wp2_with fail
        refine (HLEN.out _ HB.out).mono ?_
        rintro e w' ⟨rfl, rfl⟩
        go_wp2_with fail
        refine (Tryd.builder_text w.heap.size w.heap.size J _ HB.out HBEL.out.size).mono ?_
        rintro e w3 ⟨rfl, _, b3, _⟩
        have B3 := Lib.hid (HBEL.out.trans b3)
        clear b3
        go_wp2_with fail
        go_ret2
        exact ⟨by rw [HE.out]; rfl, B3.out⟩

end Go.Proofs.YtnmiiimbjojcmaaDoor
