/-
  A valid expression: its kinds, its text's length. No program. PrintExpr of the program and of the reference: they answer alike. No condition but the size.
-/
import Derived.Test.YtdgmpgejemgbbaaGreatDoorQh
import Derived.Test.YtdgmpgejemgbbaaGreatDoorOi
namespace Go.Proofs.YtdgmpgejemgbbaaGreatDoor
open Go.RowKit

/-- A well-formed tree in memory has the kinds and parts that the writers ask. -/
theorem ok_of_srt : ∀ (n : Nat) {w : World} {cs : List Value} {x : Ex}, ExAt n w cs x → x.srt ≠ 0 → OkX n x := by
  intro n
  induction n with
  | zero => intro w cs x h; exact h.elim
  | succ n ih =>
    intro w cs x h hs
    obtain ⟨a, len, cap, _, hlen, hat⟩ := h
    rw [Ex.srt_is] at hs
    unfold srtP at hs
    split at hs
    · rename_i ps own hsh
      split at hs
      · rename_i hb
        obtain ⟨_, hps⟩ := hb
        obtain ⟨hp0, hp3⟩ := shpL_pos hsh
        have hl : x.sub.length = ps.length := by rw [← hps, List.length_map]
        refine ⟨?_, fun y hy => ?_⟩
        · unfold shpL at hsh
          by_cases h4 : x.kind = 4 ∨ x.kind = 5 ∨ x.kind = 6 ∨ x.kind = 7 ∨ x.kind = 8
          · rw [if_pos h4] at hsh
            injection hsh with hsh
            injection hsh with h1 _
            rw [← h1] at hl
            by_cases h6 : x.kind = 4 ∨ x.kind = 5 ∨ x.kind = 6
            · exact .inr (.inr (.inr (.inl ⟨h6, hl⟩)))
            · exact .inr (.inr (.inr (.inr ⟨by unfold HasWd; omega, by rw [hl]; decide⟩)))
          · rw [if_neg h4] at hsh
            refine .inr (.inr (.inr (.inr ⟨?_, by omega⟩)))
            unfold HasWd
            (repeat' split at hsh) <;> first | omega | cases hsh
        · obtain ⟨i, hi, rfl⟩ := List.getElem_of_mem hy
          rcases hat with h0 | ⟨g, o, _, _, hel⟩
          · omega
          · obtain ⟨cs', _, hx⟩ := hel i hi
            exact ih hx (mem_srt hp0 hps hy)
      · exact absurd rfl hs
    · split at hs
      · rename_i hl
        have hsub : x.sub = [] := List.map_eq_nil_iff.1 hl
        refine ⟨?_, fun y hy => by rw [hsub] at hy; cases hy⟩
        unfold leafV at hs
        split at hs
        · exact .inl ‹_›
        · split at hs
          · split at hs
            · rename_i h2 hd
              exact .inr (.inl ⟨h2, hd.2.2.1, hd.2.2.2⟩)
            · exact absurd rfl hs
          · split at hs
            · exact .inr (.inr (.inl ‹_›))
            · exact absurd rfl hs
      · exact absurd rfl hs
theorem dtxt_len (n : Int) : (dtxt n).length = 10 := by unfold dtxt; exact dateB_len _ _ _
theorem qn_len (s : ByteArray) : (qn s).size ≤ s.size + 2 := by
  unfold qn
  split
  · simp only [ByteArray.size_append]; show 1 + s.size + 1 ≤ _; omega
  · omega
theorem leafT_len {x : Ex} (hn : x.name.size ≤ 200) (hr : x.rat.size ≤ 2500) : (leafT x).length ≤ 2500 := by
  have hq := qn_len x.name
  have e1 : (qn x.name).data.toList.length = (qn x.name).size := by simp
  have e2 : x.rat.data.toList.length = x.rat.size := by simp
  unfold leafT
  split
  · omega
  · split
    · simp only [List.length_append, List.length_cons, List.length_nil]
      have := dtxt_len x.date
      omega
    · simp only [List.length_append, List.length_cons, List.length_nil]; omega
theorem commas_len (l : List (List UInt8)) : (commas l).length ≤ (l.map fun a => a.length + 2).sum := by
  induction l with
  | nil => simp [commas]
  | cons a l ih =>
    cases l with
    | nil => simp [commas]
    | cons b l =>
      show (a ++ [44, 32] ++ commas (b :: l)).length ≤ _
      rw [List.map_cons, List.sum_cons]
      simp only [List.length_append, List.length_cons, List.length_nil] at ih ⊢
      omega
theorem sum_map_le {l : List Ex} {f g : Ex → Nat} (h : ∀ y ∈ l, f y ≤ g y) : (l.map f).sum ≤ (l.map g).sum := by
  induction l with
  | nil => simp
  | cons a l ih =>
    rw [List.map_cons, List.map_cons, List.sum_cons, List.sum_cons]
    have := h a (List.mem_cons_self ..)
    have := ih fun y hy => h y (List.mem_cons_of_mem _ hy)
    omega
theorem sum_mul (l : List Ex) (c : Nat) : (l.map fun y => c * y.size).sum = c * (l.map Ex.size).sum := by
  induction l with
  | nil => simp
  | cons a l ih => rw [List.map_cons, List.map_cons, List.sum_cons, List.sum_cons, ih, Nat.mul_add]
theorem prt_mem {x : Ex} {i : Nat} (h : i < x.sub.length) : prt x i ∈ x.sub := by
  unfold prt; rw [List.getElem?_eq_getElem h]; exact List.getElem_mem _
theorem parT_len (b : Bool) (t : List UInt8) : (parT b t).length ≤ t.length + 2 := by
  unfold parT; split
  · simp only [List.length_append, List.length_cons, List.length_nil]; omega
  · omega
theorem opS_len (k : Int) : (opS k).data.toList.length ≤ 3 := by
  unfold opS; (repeat' split) <;> simp
theorem pair_sum {l : List Ex} (h : l.length = 2) : (l.map Ex.size).sum = (l[0]?.getD (Ex.mk 0 ByteArray.empty ByteArray.empty 0 [])).size + (l[1]?.getD (Ex.mk 0 ByteArray.empty ByteArray.empty 0 [])).size := by
  match l, h with
  | [a, b], _ => simp
/-- Each node adds at most so much. -/
theorem rexT_len : ∀ (n : Nat) (x : Ex) (d : Nat), OkX n x → SmX d x → (rexT n x).length + 2 ≤ 2600 * x.size := by
  intro n
  induction n with
  | zero => intro x d h; exact h.elim
  | succ n ih =>
    intro x d h hd
    match d, hd with
    | d + 1, ⟨hn, hr, hs⟩ =>
    obtain ⟨hk, ho⟩ := h
    have hz := Ex.size_is x
    rw [rexT]
    by_cases h1 : x.kind = 1 ∨ x.kind = 2 ∨ x.kind = 3
    · rw [if_pos h1]
      have := leafT_len hn hr
      omega
    rw [if_neg h1]
    by_cases h4 : x.kind = 4 ∨ x.kind = 5 ∨ x.kind = 6
    · have hl : x.sub.length = 2 := by
        rcases hk with h | h | h | h | h
        · omega
        · omega
        · omega
        · exact h.2
        · have := h.1; unfold HasWd at this; omega
      have m0 := prt_mem (x := x) (i := 0) (by omega)
      have m1 := prt_mem (x := x) (i := 1) (by omega)
      have i0 := ih _ d (ho _ m0) (hs _ m0)
      have i1 := ih _ d (ho _ m1) (hs _ m1)
      have hp : (x.sub.map Ex.size).sum = (prt x 0).size + (prt x 1).size := pair_sum hl
      have ho3 := opS_len x.kind
      by_cases h45 : x.kind = 4 ∨ x.kind = 5
      · rw [if_pos h45]
        have := parT_len (sumB (prt x 1)) (rexT n (prt x 1))
        simp only [List.length_append]
        omega
      · rw [if_neg h45, if_pos (by omega)]
        have := parT_len (sumB (prt x 0)) (rexT n (prt x 0))
        have := parT_len (sumB (prt x 1) || (prt x 1).kind == 6) (rexT n (prt x 1))
        simp only [List.length_append]
        omega
    · rw [if_neg (by omega), if_neg (by omega)]
      have hc := commas_len (x.sub.map (rexT n))
      rw [List.map_map] at hc
      have hm : (x.sub.map ((fun a => a.length + 2) ∘ rexT n)).sum ≤ (x.sub.map fun y => 2600 * y.size).sum := sum_map_le fun y hy => ih y d (ho y hy) (hs y hy)
      rw [sum_mul] at hm
      have hw := wdL_short x.kind
      simp only [List.length_append, List.length_cons, List.length_nil]
      omega
theorem rexT_ne {n : Nat} {x : Ex} (h : OkX n x) (hr : x.kind = 1 → x.rat.size ≠ 0) : rexT n x ≠ [] := by
  match n, h with
  | n + 1, ⟨hk, _⟩ =>
  intro e
  have e2 := congrArg List.length e
  rw [rexT] at e2
  by_cases h1 : x.kind = 1 ∨ x.kind = 2 ∨ x.kind = 3
  · rw [if_pos h1] at e2
    unfold leafT at e2
    split at e2
    · rename_i hk1
      have e3 : x.rat.data.toList.length = x.rat.size := by simp
      rw [e3] at e2
      exact hr hk1 e2
    · split at e2 <;> simp at e2
  · rw [if_neg h1] at e2
    split at e2
    · rename_i h4
      have : (opS x.kind).data.toList.length = 3 := by unfold opS; rcases h4 with h | h <;> rw [h] <;> rfl
      simp only [List.length_append, List.length_nil] at e2
      omega
    · split at e2
      · rename_i h6
        have : (opS x.kind).data.toList.length = 3 := by unfold opS; rw [h6]; rfl
        simp only [List.length_append, List.length_nil] at e2
        omega
      · simp at e2
theorem chk_rat {s : ByteArray} (h : chkR s.data.toList = 0) : s.size ≠ 0 := by
  intro e
  have : s.data.toList = [] := by
    apply List.eq_nil_of_length_eq_zero
    simpa using e
  rw [this] at h
  exact absurd h (by decide)
theorem srt_rat {x : Ex} (h : x.srt ≠ 0) (hk : x.kind = 1) : x.rat.size ≠ 0 := by
  rw [Ex.srt_is, hk] at h
  by_cases hl : x.sub.map Ex.srt = []
  · rw [srt_leaf (k := 1) (by rfl) hl] at h
    unfold leafV at h
    rw [if_pos rfl] at h
    split at h
    · exact chk_rat (by rename_i h2; exact h2.2.2)
    · exact absurd rfl h
  · rw [srt_leaf_no (k := 1) (by rfl) hl] at h
    exact absurd rfl h

end Go.Proofs.YtdgmpgejemgbbaaGreatDoor

namespace Go.Proofs.YtdgmpgejemgbbaaGreatDoor
open Go.RowKit

theorem rexpr_all : ∀ n, RexC n := by
  intro n
  induction n with
  | zero => intro x cs w h; exact h.elim
  | succ n ih =>
    intro x cs w h ho hz
    obtain ⟨hk, hs⟩ := ho
    obtain ⟨k, r, nm, d, sub⟩ := x
    rcases hk with hk | ⟨hk, d0, d1⟩ | hk | ⟨hk, hsub⟩ | ⟨hk, h3⟩
    · obtain rfl : k = 1 := hk
      exact rexpr_1 r nm d sub cs w h
    · obtain rfl : k = 2 := hk
      exact rexpr_2 r nm d d0 d1 sub cs w h (by omega)
    · obtain rfl : k = 3 := hk
      exact rexpr_3 r nm d sub cs w h (by omega)
    · obtain ⟨x0, x1, rfl⟩ : ∃ x0 x1, sub = [x0, x1] := ex_two hsub
      have o0 : OkX n x0 := hs x0 (by simp [Ex.sub])
      have o1 : OkX n x1 := hs x1 (by simp [Ex.sub])
      rcases hk with hk | hk | hk
      · obtain rfl : k = 4 := hk
        exact rexpr_4 ih r nm d x0 x1 o0 o1 cs w h hz
      · obtain rfl : k = 5 := hk
        exact rexpr_5 ih r nm d x0 x1 o0 o1 cs w h hz
      · obtain rfl : k = 6 := hk
        cases h1 : sumB x1 with
        | true => exact rexpr_6_1 ih r nm d x0 x1 o0 o1 h1 cs w h hz
        | false =>
          cases h6 : (x1.kind == 6) with
          | true => exact rexpr_6_2 ih r nm d x0 x1 o0 o1 h1 h6 cs w h hz
          | false => exact rexpr_6_0 ih r nm d x0 x1 o0 o1 h1 h6 cs w h hz
    · have hs' : ∀ y ∈ sub, OkX n y := hs
      rcases hk with hk | hk | hk | hk | hk | hk | hk | hk
      · obtain rfl : k = 7 := hk
        exact rexpr_7 ih r nm d sub h3 hs' cs w h hz
      · obtain rfl : k = 8 := hk
        exact rexpr_8 ih r nm d sub h3 hs' cs w h hz
      · obtain rfl : k = 9 := hk
        exact rexpr_9 ih r nm d sub h3 hs' cs w h hz
      · obtain rfl : k = 11 := hk
        exact rexpr_11 ih r nm d sub h3 hs' cs w h hz
      · obtain rfl : k = 12 := hk
        exact rexpr_12 ih r nm d sub h3 hs' cs w h hz
      · obtain rfl : k = 13 := hk
        exact rexpr_13 ih r nm d sub h3 hs' cs w h hz
      · obtain rfl : k = 14 := hk
        exact rexpr_14 ih r nm d sub h3 hs' cs w h hz
      · obtain rfl : k = 15 := hk
        exact rexpr_15 ih r nm d sub h3 hs' cs w h hz

/-- What a printing returns. -/
def prS (c : Int) (t : List UInt8) : ByteArray := if c ≠ 0 then ⟨#[]⟩ else if 20000 < t.length then ⟨#[]⟩ else ⟨t.toArray⟩
def prE (c : Int) (t : List UInt8) : Int := if c ≠ 0 then c else if 20000 < t.length then 4 else 0
def PrP (w : World) (s : ByteArray) (v : Int) (e : Ending) (w' : World) : Prop := e = .returned (.tuple #[.string s, .int .i64 v]) ∧ Below w.heap.size w w'

set_option maxHeartbeats 2000000 in
set_option maxRecDepth 100000 in
theorem rprint_any (n : Nat) (x : Ex) (cs : List Value) (w Wg : World) (h : ExIn n x cs w Wg) (hz7 : x.size ≤ 700) : Calls Tryz.prog 7 #[.agg cs.toArray] w (PrP w (prS (chkX x) (rexT n x)) (prE (chkX x) (rexT n x))) := by
  have hsh := h.at_.shape
  obtain ⟨a, len, cap, rfl, _⟩ := hsh
  obtain ⟨W0, hW0⟩ : ∃ W0, W0 = w.alloc (.cells #[.int .u8 x.kind, .string x.rat, .string x.name, .int .i64 x.date, .slice a len cap] 25) := ⟨_, rfl⟩
  have hB0 : Below w.heap.size w W0 := by rw [hW0]; exact own_below w _
  have hbx : W0.heap[w.heap.size]? = some (.cells #[.int .u8 x.kind, .string x.rat, .string x.name, .int .i64 x.date, .slice a len cap] 25) := by rw [hW0]; exact heap_alloc_new w _
  have h0 := h.below hB0
  have HCK : Hid (Calls Tryz.prog 16 #[.agg #[.int .u8 x.kind, .string x.rat, .string x.name, .int .i64 x.date, .slice a len cap]] W0 (IntP W0 (chkX x))) := rchkx_any n x _ W0 Wg h0
  have HCC : Hid (∀ W, Below W0.heap.size W0 W → _) := fun W hW => exCells ((hW.block _ (Array.getElem?_eq_some_iff.1 hbx).1).trans hbx)
  have HEX : Hid (chkX x = 0 → ∀ W, Below W0.heap.size W0 W → Calls Tryz.prog 17 #[.agg #[.int .u8 x.kind, .string x.rat, .string x.name, .int .i64 x.date, .slice a len cap]] W (RxP W (rexT n x))) := fun hc W hW => by
    have hs : x.srt ≠ 0 := by intro e; unfold chkX at hc; rw [e] at hc; split at hc <;> simp at hc
    have hok := ok_of_srt n h.at_ hs
    exact rexpr_all n x _ W (ExAt.below hW h0.at_) hok (by have := rexT_len n x 80 hok h.small; omega)
  obtain ⟨c, hc⟩ : ∃ c, c = chkX x := ⟨_, rfl⟩
  rw [← hc] at HCK HEX ⊢
  obtain ⟨t, ht⟩ : ∃ t, t = rexT n x := ⟨_, rfl⟩
  rw [← ht] at HEX ⊢
  obtain ⟨S, hS⟩ : ∃ S, S = prS c t := ⟨_, rfl⟩
  obtain ⟨V, hV⟩ : ∃ V, V = prE c t := ⟨_, rfl⟩
  rw [← hS, ← hV]
  have HS := Lib.hid hS
  have HV := Lib.hid hV
  have HW0 := Lib.hid hW0
  have HB0 := Lib.hid hB0
  obtain ⟨c0, c1, c2, c3, c4⟩ := HCC.out W0 (Below.refl _ _)
  clear hS hV hW0 hB0 hbx h0 h hc ht hz7
  by_cases hc0 : c = 0
  · subst hc0
    have HE0 := Lib.hid (HEX.out rfl)
    obtain ⟨tb, htb⟩ : ∃ tb : ByteArray, tb = ⟨t.toArray⟩ := ⟨_, rfl⟩
    have htz : tb.size = t.length := by rw [htb]; rfl
    have HTB := Lib.hid htb
    clear htb HEX
    by_cases hl : 20000 < tb.size
    · have HS2 : Hid (S = ⟨#[]⟩) := by show S = _; rw [HS.out]; simp [prS, ← htz, hl]
      have HV2 : Hid (V = 4) := by show V = _; rw [HV.out]; simp [prE, ← htz, hl]
      clear htz
      go_enter Tryz.func7, Tryz.ntmps7
      go_wp2_with fail
      rw [← HW0.out]
      refine HCK.out.mono ?_
      rintro e w1 ⟨rfl, hb⟩
      have HB1 := Lib.hid hb
      clear hb c0 c1 c2 c3 c4
      obtain ⟨c0, c1, c2, c3, c4⟩ := HCC.out w1 HB1.out
      go_wp2_with fail
      refine (HE0.out _ HB1.out).mono ?_
      rintro e w2 ⟨rfl, hb⟩
      have HB := Lib.hid (HB0.out.trans ((HB1.out.trans (hb.mono HB1.out.size)).mono HB0.out.size))
      clear hb c0 c1 c2 c3 c4
      rw [← HTB.out]
      go_wp2_with fail
      go_ret2
      exact ⟨by rw [HS2.out, HV2.out]; rfl, HB.out⟩
    · have HS2 : Hid (S = tb) := by show S = _; rw [HS.out, HTB.out]; simp only [prS]; rw [if_neg (by simp), if_neg (by omega)]
      have HV2 : Hid (V = 0) := by show V = _; rw [HV.out]; simp only [prE]; rw [if_neg (by simp), if_neg (by omega)]
      clear htz
      go_enter Tryz.func7, Tryz.ntmps7
      go_wp2_with fail
      rw [← HW0.out]
      refine HCK.out.mono ?_
      rintro e w1 ⟨rfl, hb⟩
      have HB1 := Lib.hid hb
      clear hb c0 c1 c2 c3 c4
      obtain ⟨c0, c1, c2, c3, c4⟩ := HCC.out w1 HB1.out
      go_wp2_with fail
      refine (HE0.out _ HB1.out).mono ?_
      rintro e w2 ⟨rfl, hb⟩
      have HB := Lib.hid (HB0.out.trans ((HB1.out.trans (hb.mono HB1.out.size)).mono HB0.out.size))
      clear hb c0 c1 c2 c3 c4
      rw [← HTB.out]
      go_wp2_with fail
      go_ret2
      exact ⟨by rw [HS2.out, HV2.out]; rfl, HB.out⟩
  · have q : ((c : Int) != 0) = true := ine_true hc0
    have HS2 : Hid (S = ⟨#[]⟩) := by show S = _; rw [HS.out]; simp [prS, hc0]
    have HV2 : Hid (V = c) := by show V = _; rw [HV.out]; simp [prE, hc0]
    clear hc0
    go_enter Tryz.func7, Tryz.ntmps7
    go_wp2_with fail
    rw [← HW0.out]
    refine HCK.out.mono ?_
    rintro e w1 ⟨rfl, hb⟩
    have HB := Lib.hid (HB0.out.trans (hb.mono HB0.out.size))
    clear hb
    go_wp2_with fail
    go_ret2
    exact ⟨by rw [HS2.out, HV2.out]; rfl, HB.out⟩

set_option maxHeartbeats 2000000 in
set_option maxRecDepth 100000 in
theorem pprint_any (n : Nat) (x : Ex) (cs : List Value) (w Wg : World) (h : ExIn n x cs w Wg) (hz7 : x.size ≤ 700) : Calls Tryz.prog 6 #[.agg cs.toArray] w (PrP w (prS (chkX x) (rexT n x)) (prE (chkX x) (rexT n x))) := by
  have hsh := h.at_.shape
  obtain ⟨a, len, cap, rfl, _⟩ := hsh
  obtain ⟨W0, hW0⟩ : ∃ W0, W0 = w.alloc (.cells #[.int .u8 x.kind, .string x.rat, .string x.name, .int .i64 x.date, .slice a len cap] 25) := ⟨_, rfl⟩
  have hB0 : Below w.heap.size w W0 := by rw [hW0]; exact own_below w _
  have hbx : W0.heap[w.heap.size]? = some (.cells #[.int .u8 x.kind, .string x.rat, .string x.name, .int .i64 x.date, .slice a len cap] 25) := by rw [hW0]; exact heap_alloc_new w _
  have h0 := h.below hB0
  have HCK : Hid (Calls Tryz.prog 12 #[.agg #[.int .u8 x.kind, .string x.rat, .string x.name, .int .i64 x.date, .slice a len cap]] W0 (IntP W0 (chkX x))) := pchkx_any n x _ W0 Wg h0
  have HCC : Hid (∀ W, Below W0.heap.size W0 W → _) := fun W hW => exCells ((hW.block _ (Array.getElem?_eq_some_iff.1 hbx).1).trans hbx)
  have HOK : Hid (chkX x = 0 → OkX n x ∧ rexT n x ≠ [] ∧ (rexT n x).length ≤ 2000000) := fun hc => by
    have hs : x.srt ≠ 0 := by intro e; unfold chkX at hc; rw [e] at hc; split at hc <;> simp at hc
    have hok := ok_of_srt n h.at_ hs
    exact ⟨hok, rexT_ne hok (srt_rat hs), by have := rexT_len n x 80 hok h.small; omega⟩
  have HPT : Hid (pexT n x 0 = rexT n x) := by
    show _ = _
    rw [pex_rex, opO_0]; rfl
  have HAT := Lib.hid h.at_
  obtain ⟨c, hc⟩ : ∃ c, c = chkX x := ⟨_, rfl⟩
  rw [← hc] at HCK HOK ⊢
  obtain ⟨t, ht⟩ : ∃ t, t = rexT n x := ⟨_, rfl⟩
  rw [← ht] at HOK HPT ⊢
  obtain ⟨S, hS⟩ : ∃ S, S = prS c t := ⟨_, rfl⟩
  obtain ⟨V, hV⟩ : ∃ V, V = prE c t := ⟨_, rfl⟩
  rw [← hS, ← hV]
  have HS := Lib.hid hS
  have HV := Lib.hid hV
  have HW0 := Lib.hid hW0
  have HB0 := Lib.hid hB0
  have hzW : w.heap.size < W0.heap.size := (Array.getElem?_eq_some_iff.1 hbx).1
  obtain ⟨c0, c1, c2, c3, c4⟩ := HCC.out W0 (Below.refl _ _)
  clear hS hV hW0 hB0 hbx h0 h hc ht hz7
  by_cases hc0 : c = 0
  · subst hc0
    obtain ⟨hok, hne, htl⟩ := HOK.out rfl
    have HOX := Lib.hid hok
    have HNE := Lib.hid hne
    clear hok hne HOK
    go_enter Tryz.func6, Tryz.ntmps6
    go_wp2_with fail
    rw [← HW0.out]
    refine HCK.out.mono ?_
    rintro e w1 ⟨rfl, hb⟩
    have HB1 := Lib.hid hb
    clear hb c0 c1 c2 c3 c4
    go_wp2_with fail
    refine (words_any w1).mono ?_
    rintro e w2 ⟨m, rfl, hwd, hb, bm, rfl, hbm⟩
    have HB2 := Lib.hid (HB1.out.trans (hb.mono HB1.out.size))
    have HBM : Hid (∃ o, w2.heap[bm]? = some o) := by obtain ⟨_, hq, hh⟩ := hwd; injection hq with hq; injection hq with hq; subst hq; exact ⟨_, hh⟩
    obtain ⟨w3, hw3⟩ : ∃ w3, w3 = w2.alloc (.cells #[.pointer none, .slice none 0 0, .map (some bm)] 47) := ⟨_, rfl⟩
    have hob : w3.heap[w2.heap.size]? = some (.cells #[.pointer none, .slice none 0 0, .map (some bm)] 47) := by rw [hw3]; exact heap_alloc_new w2 _
    have hB3 : Below w2.heap.size w2 w3 := by rw [hw3]; exact own_below w2 _
    have hB03 := HB2.out.trans (hB3.mono HB2.out.size)
    have hEN : OutEnv w w2.heap.size w2.heap.size (.map (some bm)) [] w3 :=
      ⟨Nat.le_trans HB0.out.size HB2.out.size, HB0.out.trans (hB03.mono HB0.out.size), .inl ⟨Nat.le_refl _, .slice none 0 0, hob, by simpa [Lib.byteCells] using World.ownsRowF_nil w3 w2.heap.size 5 1, by simp [Value.ownBlock]⟩, hwd.below hB3, hB3.size⟩
    have HX := Lib.hid (expr_all w w2.heap.size w2.heap.size (.map (some bm)) n x _ 0 [] w3 HAT.out HOX.out (by omega) (by omega) hEN (by rw [HPT.out]; simp; omega))
    rw [HPT.out, List.nil_append] at HX
    obtain ⟨c0, c1, c2, c3, c4⟩ := HCC.out w2 HB2.out
    have hz2 : w.heap.size < w2.heap.size := Nat.lt_of_lt_of_le hzW HB2.out.size
    have HEN := Lib.hid hEN
    have HW3 := Lib.hid hw3
    clear hb hwd hbm hob hB3 hB03 hEN hw3
    go_wp2_with fail
    rw [← HW3.out]
    refine HX.out.mono ?_
    rintro e w4 ⟨rfl, hio, hok⟩
    have HT := Lib.hid (otext_any w2.heap.size w2.heap.size _ t w4 hio HNE.out (by omega))
    have HB4 : Hid (Below w.heap.size w w4) := HEN.out.old.trans (hok.1.mono HEN.out.base)
    have HBS := Lib.hid HEN.out.base
    clear hio hok c0 c1 c2 c3 c4
    unfold TxP at HT
    by_cases hl : 20000 < t.length
    · have HS2 : Hid (S = ⟨#[]⟩) := by show S = _; rw [HS.out]; simp [prS, hl]
      have HV2 : Hid (V = 4) := by show V = _; rw [HV.out]; simp [prE, hl]
      rw [if_pos hl] at HT
      go_wp2_with fail
      refine HT.out.mono ?_
      rintro e w5 ⟨rfl, hb⟩
      have HB := Lib.hid (HB4.out.trans (hb.mono HBS.out))
      clear hb
      go_wp2_with fail
      go_ret2
      exact ⟨by rw [HS2.out, HV2.out]; rfl, HB.out⟩
    · have HS2 : Hid (S = ⟨t.toArray⟩) := by show S = _; rw [HS.out]; simp only [prS]; rw [if_neg (by simp), if_neg hl]
      have HV2 : Hid (V = 0) := by show V = _; rw [HV.out]; simp only [prE]; rw [if_neg (by simp), if_neg hl]
      rw [if_neg hl] at HT
      go_wp2_with fail
      refine HT.out.mono ?_
      rintro e w5 ⟨rfl, hb⟩
      have HB := Lib.hid (HB4.out.trans (hb.mono HBS.out))
      clear hb
      go_wp2_with fail
      go_ret2
      exact ⟨by rw [HS2.out, HV2.out]; rfl, HB.out⟩
  · have q : ((c : Int) != 0) = true := ine_true hc0
    have HS2 : Hid (S = ⟨#[]⟩) := by show S = _; rw [HS.out]; simp [prS, hc0]
    have HV2 : Hid (V = c) := by show V = _; rw [HV.out]; simp [prE, hc0]
    clear hc0 HOK
    go_enter Tryz.func6, Tryz.ntmps6
    go_wp2_with fail
    rw [← HW0.out]
    refine HCK.out.mono ?_
    rintro e w1 ⟨rfl, hb⟩
    have HB := Lib.hid (HB0.out.trans (hb.mono HB0.out.size))
    clear hb
    go_wp2_with fail
    go_ret2
    exact ⟨by rw [HS2.out, HV2.out]; rfl, HB.out⟩

end Go.Proofs.YtdgmpgejemgbbaaGreatDoor
