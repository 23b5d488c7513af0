/-
  The program's Gcd. No condition.
-/
import Derived.Test.YtnmiiimbjojcmaaNe
import Derived.Outline
namespace Go.Proofs.Ytnmiiimbjojcmaa
open Go.RowKit Go.Shelf

theorem nums_box {W : World} {B : Nat} {neg : Bool} {a' : Option Addr} {n' c' : Nat} {a : Option Addr} {l : List Nat} (h : Box2 W B neg (.slice a' n' c')) (hn : Nums .u32 W a l) (u : Value) (i : Nat) : Nums .u32 (W.setCell ⟨B, i, none⟩ u) a l := fun e he => by
  obtain ⟨g, o, e1, hg, hc⟩ := hn e he
  refine ⟨g, o, e1, by simpa [World.setCell] using hg, ?_⟩
  have hne : B ≠ g := by
    intro hB
    subst hB
    unfold World.cell? at hc
    rw [show W.heap[B]? = _ from h] at hc
    simp only at hc
    match ho : o + e, hc with
    | 0, hc => simp at hc
    | 1, hc => simp at hc
    | k + 2, hc => simp at hc
  rw [World.cell?_setCell_other _ _ _ _ (by intro h; injection h with h; exact hne h)]
  exact hc
theorem magAt_box {W : World} {B : Nat} {neg : Bool} {a' : Option Addr} {n' c' : Nat} {v : Value} {N : Nat} (h : Box2 W B neg (.slice a' n' c')) (hm : MagAt W v N) (u : Value) (i : Nat) : MagAt (W.setCell ⟨B, i, none⟩ u) v N := by
  obtain ⟨a, c, l, h1, h2, h3, h4⟩ := hm
  exact ⟨a, c, l, h1, h2, nums_box h h3 u i, h4⟩

set_option maxHeartbeats 2000000 in
set_option maxRecDepth 100000 in
theorem gcd_bad (s t : ByteArray) (w : World) (hs : s.size ≤ 100000) (ht : t.size ≤ 100000) (h : bothZ s.data.toList t.data.toList ≠ 0) :
    Calls Try.prog 33 #[.string s, .string t] w (SEPost w [] (bothZ s.data.toList t.data.toList)) := by
  have hp := pair_bad s t w hs ht h
  obtain ⟨E, hE⟩ : ∃ E, E = bothZ s.data.toList t.data.toList := ⟨_, rfl⟩
  rw [← hE] at hp h ⊢
  have HP := Lib.hid hp
  have t1 : (E != 0) = true := by simpa using h
  clear hp hE h
  go_enter Try.func33, Try.ntmps33
  go_wp2_with fail
  refine HP.out.mono ?_
  rintro e w1 ⟨rfl, b1⟩
  have B1 := Lib.hid b1
  clear b1
  go_wp2_with fail
  go_ret2
  exact ⟨rfl, (B1.out.alloc B1.out.size _).alloc (by have := B1.out.size; simp; omega) _⟩

set_option maxHeartbeats 4000000 in
set_option maxRecDepth 100000 in
theorem gcd_good (s t : ByteArray) (x y : Int) (w : World) (hs : s.size ≤ 100000) (ht : t.size ≤ 100000) (hx : s.data.toList = txtZ x) (hy : t.data.toList = txtZ y) (bx : bigZ x = false) (byy : bigZ y = false) :
    Calls Try.prog 33 #[.string s, .string t] w (GPost w ⟨(txtZ (Nat.gcd x.natAbs y.natAbs : Int)).toArray⟩) := by
  have hp := pair_ok s t x y w hs ht hx hy bx byy
  obtain ⟨G, hG⟩ : ∃ G, G = Nat.gcd x.natAbs y.natAbs := ⟨_, rfl⟩
  rw [← hG]
  have hGb : bigZ (G : Int) = false := by
    rcases Nat.eq_zero_or_pos x.natAbs with h | h
    · rw [hG, h, Nat.gcd_zero_left]
      refine bigZ_le (n := y.natAbs) (Nat.le_refl _) ?_
      unfold bigZ at byy ⊢; simpa using byy
    · refine bigZ_le (n := x.natAbs) (by rw [hG]; exact Nat.gcd_le_left _ h) ?_
      unfold bigZ at bx ⊢; simpa using bx
  have hbx := big_bound bx
  have hby := big_bound byy
  have HP := Lib.hid hp
  have HG := Lib.hid hG
  have HGB := Lib.hid hGb
  have HBX := Lib.hid hbx
  have HBY := Lib.hid hby
  clear hp hx hy bx byy hG hGb hbx hby
  go_enter Try.func33, Try.ntmps33
  go_wp2_with fail
  refine HP.out.mono ?_
  rintro e w1 ⟨a, c, la, b, d, lb, rfl, hlc, hld, hna, hnb, hra, hrb, b1⟩
  obtain ⟨nx, hnx⟩ : ∃ nx, nx = decide (x < 0) := ⟨_, rfl⟩
  obtain ⟨ny, hny⟩ : ∃ ny, ny = decide (y < 0) := ⟨_, rfl⟩
  obtain ⟨k1, hk1⟩ : ∃ k1, k1 = la.length := ⟨_, rfl⟩
  obtain ⟨k2, hk2⟩ : ∃ k2, k2 = lb.length := ⟨_, rfl⟩
  rw [← hnx, ← hny, ← hk1, ← hk2]
  have HMA := Lib.hid (⟨a, c, la, by rw [hk1], hlc, hna, hra⟩ : MagAt w1 (.slice a k1 c) x.natAbs)
  have HMB := Lib.hid (⟨b, d, lb, by rw [hk2], hld, hnb, hrb⟩ : MagAt w1 (.slice b k2 d) y.natAbs)
  have B1 := Lib.hid b1
  clear hlc hld hna hnb hra hrb b1 hnx hny hk1 hk2
  obtain ⟨W2, hW2⟩ : ∃ W2, W2 = (w1.alloc (.cells #[.bool nx, .slice a k1 c] 85)).alloc (.cells #[.bool ny, .slice b k2 d] 85) := ⟨_, rfl⟩
  have hA0 : Box2 W2 w1.heap.size nx (.slice a k1 c) := by rw [hW2]; exact Box2.alloc (show Box2 (w1.alloc (.cells #[.bool nx, .slice a k1 c] 85)) w1.heap.size nx (.slice a k1 c) from World.alloc_heap_new w1 _) _
  have hB0 : Box2 W2 (w1.heap.size + 1) ny (.slice b k2 d) := by
    rw [hW2]
    have := World.alloc_heap_new (w1.alloc (.cells #[.bool nx, .slice a k1 c] 85)) (.cells #[.bool ny, .slice b k2 d] 85)
    rw [World.size_alloc] at this
    exact this
  have hbl1 : Below w1.heap.size w1 W2 := by rw [hW2]; exact ((Below.refl _ w1).alloc (Nat.le_refl _) _).alloc (by simp) _
  have hst : GcM w w1.heap.size (w1.heap.size + 1) G y.natAbs W2 :=
    ⟨x.natAbs, y.natAbs, nx, ny, _, _, rfl, hA0, hB0, MagAt.below HMA.out hbl1, MagAt.below HMB.out hbl1, HG.out.symm, HBX.out, HBY.out, B1.out.trans (hbl1.mono B1.out.size)⟩
  have ST := Lib.hid hst
  have HW2 := Lib.hid hW2
  have SZ := Lib.hid B1.out.size
  clear hW2 hA0 hB0 hbl1 hst
  go_wp2_with fail
  rw [← HW2.out]
  obtain ⟨gx, hgx⟩ : ∃ gx, gx = w1.heap.size := ⟨_, rfl⟩
  have hgw : w.heap.size ≤ gx := by rw [hgx]; exact SZ.out
  have GW := Lib.hid hgw
  rw [← hgx] at ST ⊢
  clear hgw hgx HW2
  go_loopg [] y.natAbs (fun k wr => GcM w gx (gx + 1) G k wr)
  case atStart => exact ST.out
  case round =>
    obtain ⟨w4, rfl⟩ : ∃ w4 : World, w4 = wr := ⟨_, rfl⟩
    obtain ⟨X, Y, mx, my, vx, vy, hk, h1, h2, h3, h4, h5, h6, h7, h8⟩ := hrel
    have hk' := hk.symm
    clear hk
    subst hk'
    obtain ⟨a1, n1, c1, l1, rfl, e1, e2, e3, e4, e5⟩ := h3.len h6
    obtain ⟨a2, n2, c2, l2, rfl, f1, f2, f3, f4, f5⟩ := h4.len h7
    rw [KM_eq] at e2 f2
    have H1 := Lib.hid h1
    have H2 := Lib.hid h2
    have N1 := Lib.hid e4
    have N2 := Lib.hid f4
    have R1 := Lib.hid e5
    have R2 := Lib.hid f5
    have L1 := Lib.hid e1
    have L2 := Lib.hid f1
    have HM1 := Lib.hid h3
    have HM2 := Lib.hid h4
    have GG := Lib.hid h5
    have BB := Lib.hid h8
    have P1 := Lib.hid h6
    have P2 := Lib.hid h7
    by_cases hy0 : Y = 0
    · subst hy0
      have hl : l2 = [] := rep_zero l2 f5
      have hn : n2 = 0 := by rw [← f1, hl]; rfl
      subst hn
      have hG2 : X = G := by rw [← h5, Nat.gcd_zero_right]
      have hwr := write_any false a1 n1 c1 X l1 w4 e1 (by omega) e5 e4
      have ez : (if false = true then -(X : Int) else (X : Int)) = (G : Int) := by simp [hG2]
      rw [ez] at hwr
      have HWR := Lib.hid hwr
      clear h1 h2 h3 h4 h5 h6 h7 h8 e1 e4 e5 f1 f4 f5 hl hG2 hwr ez
      have q1 := H1.out.cell1
      have q2 := H2.out.cell1
      go_wp2_with fail
      refine HWR.out.mono ?_
      rintro e w5 ⟨hq, b5⟩
      rcases hq with ⟨hq, _⟩ | ⟨_, rfl⟩
      · rw [HGB.out] at hq; cases hq
      have B5 := Lib.hid b5
      clear b5
      go_wp2_with fail
      go_ret2
      exact ⟨rfl, BB.out.trans (B5.out.mono BB.out.size)⟩
    · have hyp : 0 < Y := by omega
      have hn : 0 < n2 := by
        rcases Nat.eq_zero_or_pos n2 with h | h
        · rw [h] at f1
          rw [List.eq_nil_of_length_eq_zero f1] at f5
          have := f5.2.2
          simp [val] at this; omega
        · exact h
      have hdv := divide_any a1 a2 n1 n2 c1 c2 X Y l1 l2 w4 e1 f1 (by omega) (by omega) e3 e5 f5 e4 f4 hyp
      have HDV := Lib.hid hdv
      have HYP := Lib.hid hyp
      have q1 := H1.out.cell1
      have q2 := H2.out.cell1
      clear h1 h2 h3 h4 h5 h6 h7 h8 e1 e4 e5 f1 f4 f5 hdv hy0 hyp
      go_wp2_with fail
      refine HDV.out.mono ?_
      rintro e w5 ⟨v1, v2, rfl, m1, m2, b5⟩
      obtain ⟨a3, n3, c3, e3, m3⟩ : ∃ a3 n3 c3, v2 = .slice a3 n3 c3 ∧ MagAt w5 (.slice a3 n3 c3) (X % Y) := by
        obtain ⟨a3, c3, l3, q, _⟩ := id m2
        exact ⟨a3, _, c3, q, q ▸ m2⟩
      subst e3
      clear m2
      have m2 := m3
      clear m3
      have hx5 : Box2 w5 gx mx (.slice a1 n1 c1) := (b5.block _ H1.out.lt).trans H1.out
      have hy5 : Box2 w5 (gx + 1) my (.slice a2 n2 c2) := (b5.block _ H2.out.lt).trans H2.out
      have hx6 : Box2 (w5.setCell ⟨gx, 1, none⟩ (.slice a2 n2 c2)) gx mx (.slice a2 n2 c2) := hx5.set1 _
      have hy6 : Box2 (w5.setCell ⟨gx, 1, none⟩ (.slice a2 n2 c2)) (gx + 1) my (.slice a2 n2 c2) := hy5.other (by show gx + 1 ≠ gx; omega) _
      have hx7 : Box2 ((w5.setCell ⟨gx, 1, none⟩ (.slice a2 n2 c2)).setCell ⟨gx + 1, 1, none⟩ (.slice a3 n3 c3)) gx mx (.slice a2 n2 c2) := hx6.other (by show gx ≠ gx + 1; omega) _
      have hy7 : Box2 ((w5.setCell ⟨gx, 1, none⟩ (.slice a2 n2 c2)).setCell ⟨gx + 1, 1, none⟩ (.slice a3 n3 c3)) (gx + 1) my (.slice a3 n3 c3) := hy6.set1 _
      have hlt : X % Y < Y := Nat.mod_lt _ HYP.out
      have hrel : GcM w gx (gx + 1) G (X % Y) ((w5.setCell ⟨gx, 1, none⟩ (.slice a2 n2 c2)).setCell ⟨gx + 1, 1, none⟩ (.slice a3 n3 c3)) := by
        refine ⟨Y, X % Y, mx, my, _, _, rfl, hx7, hy7, ?_, ?_, ?_, P2.out, by have := P2.out; omega, ?_⟩
        · exact magAt_box hy6 (magAt_box hx5 (HM2.out.below b5) _ _) _ _
        · exact magAt_box hy6 (magAt_box hx5 m2 _ _) _ _
        · rw [Nat.gcd_comm, ← Nat.gcd_rec, Nat.gcd_comm]; exact GG.out
        · exact ((BB.out.trans (b5.mono BB.out.size)).setCell (p := ⟨gx, 1, none⟩) GW.out _).setCell (p := ⟨gx + 1, 1, none⟩) (by have := GW.out; show w.heap.size ≤ gx + 1; omega) _
      have HREL := Lib.hid hrel
      have HLT := Lib.hid hlt
      have r1 := hx5.cell1
      have r2 := hy5.cell1
      have r3 := hx5.frozen 1
      have r4 := hy6.frozen 1
      have r5 := hy6.cell1
      clear m1 m2 b5 hx5 hy5 hx6 hy6 hx7 hy7 hlt hrel
      go_wp2_with fail
      go_roundg (X % Y)
      case measure => exact HLT.out
      case rel => exact HREL.out

end Go.Proofs.Ytnmiiimbjojcmaa
