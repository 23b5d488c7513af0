/-
  money.Split of a total that is not negative, where its arguments are in range.
-/
import Derived.Test.YtnikhbdjlipcbaaGreatDoorWf
import Derived.Deep.OwnRows
namespace Go.Proofs.YtnikhbdjlipcbaaGreatDoor.Spl
open Go.RowKit

theorem rowAt_alloc {w : World} {c : Array Value} {t : TypeId} {l : List Value} {g : Nat} (hg : g = w.heap.size) (hl : c.toList = l) : RowAt (w.alloc (.cells c t)) g t l := by
  subst hg; subst hl
  refine ⟨c, ?_, by simp, fun i _ => by simp⟩
  show (w.heap.push _)[w.heap.size]? = _
  simp

/-- A row of zeros whose first k cells are filled. -/
def fillL (f : Nat → Int) (n k : Nat) : List Int := (List.range n).map fun i => if i < k then f i else 0
theorem fillL_length (f : Nat → Int) (n k : Nat) : (fillL f n k).length = n := by simp [fillL]
theorem fillL_get (f : Nat → Int) (n k i : Nat) (hi : i < n) : (fillL f n k)[i]?.getD 0 = if i < k then f i else 0 := by simp [fillL, hi]
theorem fillL_set (f : Nat → Int) (n k : Nat) : (fillL f n k).set k (f k) = fillL f n (k + 1) := by
  apply List.ext_getElem
  · simp [fillL]
  · intro i h1 h2
    by_cases e : k = i
    · subst e; simp [fillL]
    · rw [List.getElem_set_ne e]
      simp only [fillL, List.getElem_map, List.getElem_range]
      by_cases c : i < k
      · rw [if_pos c, if_pos (by omega)]
      · rw [if_neg c, if_neg (by omega)]
theorem fillL_all (f : Nat → Int) (n : Nat) : fillL f n n = (List.range n).map f := by
  unfold fillL
  apply List.map_congr_left
  intro i hi
  rw [if_pos (by simpa using hi)]
theorem fillL_made (f : Nat → Int) (n : Nat) (w : World) (t : TypeId) : RowAt (w.alloc (.cells (madeCells #[.int .i64 0] n) t)) w.heap.size t (ints (fillL f n 0)) := by
  refine ⟨madeCells #[.int .i64 0] n, ?_, ?_, ?_⟩
  · show (w.heap.push _)[w.heap.size]? = _
    simp
  · simp [ints, fillL, size_madeCells]
  · intro i hi
    have hi' : i < n := by simpa [ints, fillL] using hi
    rw [ints_get _ _ (by simpa [fillL] using hi'), fillL_get _ _ _ _ hi']
    simp [madeCells, hi', Nat.mod_one]
/-- The places in their order. -/
def places (n : Nat) : List Int := (List.range n).map fun (i : Nat) => (i : Int)
theorem places_length (n : Nat) : (places n).length = n := by simp [places]
theorem stb_places (key : Int → Int) (n : Nat) : Stb key (places n) := by
  unfold Stb places
  rw [List.pairwise_map]
  exact List.Pairwise.imp (fun h _ => by omega) (List.pairwise_lt_range)
theorem valid_places (n : Nat) : Valid n (places n) := by
  intro x hx
  simp only [places, List.mem_map, List.mem_range] at hx
  obtain ⟨i, hi, rfl⟩ := hx
  omega
/-- What stands at t in the sorted places has rank t. -/
theorem rank_sorted (size : Int) (ws : List Int) (n : Nat) (L : List Int) (hp : L.Perm (places n)) (hs : Srt (keyOf size ws) L) (hb : Stb (keyOf size ws) L) (t : Nat) (ht : t < n) :
    ∃ m : Nat, L[t]?.getD 0 = m ∧ m < n ∧ rk (rOf size (sumL ws) ws) n m = t := by
  have hl : L.length = n := by rw [hp.length_eq, places_length]
  have hv := valid_perm (valid_places n) hp
  obtain ⟨v1, v2⟩ := valid_get hv (i := t) (by omega)
  refine ⟨(L[t]?.getD 0).toNat, by omega, by omega, ?_⟩
  have hp2 : (L.map Int.toNat).Perm (List.range n) := by
    have := hp.map Int.toNat
    have e : (places n).map Int.toNat = List.range n := by
      unfold places
      rw [List.map_map]
      conv => rhs; rw [← List.map_id (List.range n)]
      apply List.map_congr_left
      intro i _
      simp
    rwa [e] at this
  have hpw : (L.map Int.toNat).Pairwise (bef (rOf size (sumL ws) ws)) := by
    rw [List.pairwise_map]
    refine List.Pairwise.imp_of_mem ?_ (hs.and hb)
    intro x y hx hy ⟨h1, h2⟩
    have vx := hv x hx
    have vy := hv y hy
    unfold keyOf at h1 h2
    unfold bef
    omega
  have := rk_of_sorted (rOf size (sumL ws) ws) n (L.map Int.toNat) hp2 hpw t (by simp; omega)
  rw [List.getElem?_eq_getElem (by omega), Option.getD_some]
  simpa using this

/-- The loop over the weights that adds them up in a variable of its own block. -/
def AddRel (w3 : World) (S n : Nat) (ws : List Int) (i : Value) (wr : World) : Prop :=
  ∃ k : Nat, k ≤ n ∧ i = .int .i64 k ∧ RowAt wr S 3 (ints [sumL (ws.take k)]) ∧ w3.grownBy wr (some S)
/-- The loop that fills both rows. -/
def FillRel2 (w4 : World) (B g1 g2 n : Nat) (size : Int) (ws : List Int) (l i : Value) (wr : World) : Prop :=
  ∃ k : Nat, k ≤ n ∧ i = .int .i64 k ∧ l = .int .i64 (leftAt size (sumL ws) ws k) ∧ RowAt wr g1 3 (ints (fillL (qOf size (sumL ws) ws) n k)) ∧ RowAt wr g2 3 (ints (fillL (fun i => (i : Int)) n k)) ∧ Below B w4 wr
/-- The loop that hands out what is left. -/
def HandRel2 (w5 : World) (g1 n : Nat) (size : Int) (ws : List Int) (i : Value) (wr : World) : Prop :=
  ∃ t : Nat, (t : Int) ≤ lft size ws ∧ i = .int .i64 t ∧ RowAt wr g1 3 (ints (outL (qOf size (sumL ws) ws) (rOf size (sumL ws) ws) n t)) ∧ w5.grownBy wr (some g1)

set_option maxHeartbeats 2000000 in
set_option maxRecDepth 100000 in
theorem split_pos (b o c n : Nat) (size : Int) (ws : List Int) (w : World) (hl : ws.length = n) (hb : b < w.heap.size) (hg : Good size ws)
    (hc : Lies w b o n ws) :
    Calls Tryz.prog 9 #[.int .i64 size, .slice (some ⟨b, o, none⟩) n c] w (SplitPost w n (parts size ws)) := by
  have hmk := fun (W : World) (h1 : 8 * n ≤ 281474976710656) (h2 : n ≤ 9223372036854775807) => run_make_row' (P := Tryz.prog) 22 3 (.int .i64 0) 8 Tryz.underlying22 infoI rfl .i64 .i64 n h1 h2 W
  have hmk2 := fun (W : World) => hmk W (by have := hg.n1; omega) (by have := hg.n1; omega)
  have HMK := Lib.hid hmk2
  clear hmk hmk2
  have HL := Lib.hid hl
  have HG := Lib.hid hg
  have HC := Lib.hid hc
  have b0 := hg.s0
  have b1 := hg.s1
  have b2 : n ≤ 100 := hl ▸ hg.n1
  have b3 : 1 ≤ n := by
    rcases Nat.eq_zero_or_pos n with e | e
    · have := hg.s2; rw [List.eq_nil_of_length_eq_zero (hl.trans e)] at this; simp [sumL] at this
    · exact e
  have hA : amtB size = true := by unfold amtB; simp; omega
  have s1 : 0 < sumL ws := hg.s2
  have s2 : sumL ws ≤ 400000 := sum_small size ws hg
  have s3 : (sumL ws == 0) = false := by rw [beq_eq_false_iff_ne]; omega
  have t5 : decide (size < 0) = false := by simp; omega
  clear hl hg hc
  obtain ⟨w3, hw3⟩ : ∃ w3, w3 = ((w.alloc (.cells #[.int .i64 size] 3)).alloc (.cells #[.slice (some ⟨b, o, none⟩) n c] 22)).alloc (.cells #[.int .i64 0] 3) := ⟨_, rfl⟩
  have z1 : w3.heap.size = w.heap.size + 1 + 1 + 1 := by rw [hw3]; simp
  have f1 : w3.cell? ⟨w.heap.size, 0, none⟩ = some (.int .i64 size) := by rw [hw3]; simp [go_sem, World.cell?_alloc_past]
  have f2 : w3.cell? ⟨w.heap.size + 1, 0, none⟩ = some (.slice (some ⟨b, o, none⟩) n c) := by rw [hw3]; simp [go_sem, World.cell?_alloc_past]
  have f3 : RowAt w3 (w.heap.size + 1 + 1) 3 (ints [0]) := by
    rw [hw3]
    exact rowAt_alloc (by simp) rfl
  have n3 : Below w.heap.size w w3 := by rw [hw3]; exact ((((Below.refl _ _).alloc (Nat.le_refl _) _).alloc (by simp) _).alloc (by simp; omega) _)
  have HW3 := Lib.hid hw3
  have HZ := Lib.hid z1
  have HF1 := Lib.hid f1
  have HF2 := Lib.hid f2
  have HF3 := Lib.hid f3
  have bs : b ≠ w.heap.size + 1 + 1 := by omega
  clear hw3 z1 f1 f2 f3
  go_enter Tryz.func9, Tryz.ntmps9
  go_wp2_with fail
  rw [← HW3.out]
  obtain ⟨T, hT⟩ : ∃ T, T = w.heap.size := ⟨_, rfl⟩
  obtain ⟨V, hV⟩ : ∃ V, V = w.heap.size + 1 := ⟨_, rfl⟩
  obtain ⟨S, hS⟩ : ∃ S, S = w.heap.size + 1 + 1 := ⟨_, rfl⟩
  have k1 := HF1.out
  have k2 := HF2.out
  have k3 := HF3.out
  have k4 := HZ.out
  rw [← hS] at bs k3 k4 ⊢
  rw [← hV] at k2 ⊢
  rw [← hT] at k1 n3 hb ⊢
  have HF1 := Lib.hid k1
  have HF2 := Lib.hid k2
  have HF3 := Lib.hid k3
  have tv1 : T < S := by omega
  have tv2 : V < S := by omega
  have tv3 : S < w3.heap.size := by omega
  have tv4 : T ≠ V := by omega
  have HT := Lib.hid hT
  have HV := Lib.hid hV
  have HS := Lib.hid hS
  have HC3 : Hid (Lies w3 b o n ws) := fun i hi => (n3.cell (p := ⟨b, o + i, none⟩) hb).trans (HC.out i hi)
  clear k1 k2 k3 k4 hT hV hS
  go_loopw [8, 21] (fun _ i wr => AddRel w3 S n ws i wr) (fun _ i _ => n - (intOf i).toNat)
  case atStart => exact ⟨0, Nat.zero_le _, rfl, HF3.out, only_refl _ _⟩
  case round =>
    obtain ⟨k, hk, rfl, ro, gr⟩ := hrel
    have bs := sumL_bd ws HG.out.w1 k (by have := HL.out; omega)
    obtain ⟨bs1, bs2⟩ := bs
    have r1 : wr.cell? ⟨S, 0, none⟩ = some (.int .i64 (sumL (ws.take k))) := by rw [ro.cell (by simp [ints])]; rfl
    have r2 := ro.frozen 0
    have gk1 : wr.cell? ⟨T, 0, none⟩ = some (.int .i64 size) := gr.cell HF1.out (by simp; omega)
    have gk2 : wr.cell? ⟨V, 0, none⟩ = some (.slice (some ⟨b, o, none⟩) n c) := gr.cell HF2.out (by simp; omega)
    by_cases hlt : k < n
    · have g1 : wr.cell? ⟨b, o + k, none⟩ = some (.int .i64 (ws[k]?.getD 0)) := gr.cell (HC3.out k hlt) (by simp; omega)
      obtain ⟨x1, x2⟩ := HG.out.w1 k (by have := HL.out; omega)
      have hs : sumL (ws.take (k + 1)) = sumL (ws.take k) + ws[k]?.getD 0 := by
        have a := HL.out
        rw [take_snoc' ws k (by omega), sumL_snoc]
      have ro' := ro.set 0 (.int .i64 (sumL (ws.take k) + ws[k]?.getD 0))
      rw [ints_set, List.set_cons_zero] at ro'
      have gr' := only_setCell gr (p := ⟨S, 0, none⟩) (.inl rfl) (.int .i64 (sumL (ws.take k) + ws[k]?.getD 0))
      have HS2 := Lib.hid hs
      have hb2 : sumL (ws.take k) + ws[k]?.getD 0 ≤ 400000 := by
        rw [← hs]
        have := (sumL_bd ws HG.out.w1 (k + 1) (by have := HL.out; omega)).2
        omega
      clear hs ro gr
      go_wp2_with fail
      go_roundw
      case rel => exact ⟨k + 1, by omega, by go_num, by rw [HS2.out]; exact ro', gr'⟩
      case measure => simp [intOf]; omega
    · have hkn : ws.take k = ws := by have := HL.out; exact List.take_of_length_le (by omega)
      rw [hkn] at r1 ro
      have g2 : ∀ i, i < n → wr.cell? ⟨b, o + i, none⟩ = some (.int .i64 (ws[i]?.getD 0)) := fun i hi => gr.cell (HC3.out i hi) (by simp; omega)
      have HC4 := Lib.hid g2
      have n4 : Below T w wr := n3.grown gr (by omega) (fun k hk => by injection hk; omega)
      have hsz : S < wr.heap.size := by have := gr.size; omega
      have htz : T ≤ wr.heap.size := by omega
      clear g2 bs1 bs2 hkn gr ro r2
      obtain ⟨w4, rfl⟩ : ∃ w4 : World, w4 = wr := ⟨_, rfl⟩
      have hmk := HMK.out
      have gk5 : (w4.alloc (.cells (madeCells #[.int .i64 0] n) 3)).cell? ⟨V, 0, none⟩ = some (.slice (some ⟨b, o, none⟩) n c) := by rw [World.cell?_alloc_past _ _ _ (by show V < _; omega)]; exact gk2
      go_upto_region 21 with (go_at_call 23; refine (amount_any _ _).mono ?_; rintro e w' ⟨rfl, rfl⟩)
      go_cut [12, 13] (fun s12 s13 wx => ∃ g1 g2 : Nat, s12 = .slice (some ⟨g1, 0, none⟩) n n ∧ s13 = .slice (some ⟨g2, 0, none⟩) n n ∧ g1 ≠ g2 ∧ w4.heap.size ≤ g1 ∧ w4.heap.size ≤ g2 ∧
        RowAt wx g1 3 (ints (fillL (qOf size (sumL ws) ws) n 0)) ∧ RowAt wx g2 3 (ints (fillL (fun i => (i : Int)) n 0)) ∧ Below w4.heap.size w4 wx)
      case first =>
        go_region
        · go_wp2_with fail
          go_meet
          exact ⟨_, _, rfl, rfl, by omega, by omega, by omega, ((fillL_made _ _ _ _).alloc _).drew, (by have := fillL_made (fun i => (i : Int)) n (w4.alloc (.cells (madeCells #[.int .i64 0] n) 3)) 3; rw [World.size_alloc] at this; exact this.drew), (((Below.refl _ _).alloc (Nat.le_refl _) _).alloc (by simp) _).drew⟩
        · go_wp2_with fail
          go_meet
          exact ⟨_, _, rfl, rfl, by omega, by omega, by omega, (by have := fillL_made (qOf size (sumL ws) ws) n (w4.alloc (.cells (madeCells #[.int .i64 0] n) 3)) 3; rw [World.size_alloc] at this; exact this.drew), ((fillL_made _ _ _ _).alloc _).drew, (((Below.refl _ _).alloc (Nat.le_refl _) _).alloc (by simp) _).drew⟩
      case rest =>
        obtain ⟨g1, g2, rfl, rfl, hne, hg1, hg2, ro1, ro2, nx⟩ := hcut
        rename World => w5
        have k1 : w5.cell? ⟨T, 0, none⟩ = some (.int .i64 size) := (nx.cell (p := ⟨T, 0, none⟩) (by show T < _; omega)).trans gk1
        have k2 : w5.cell? ⟨V, 0, none⟩ = some (.slice (some ⟨b, o, none⟩) n c) := (nx.cell (p := ⟨V, 0, none⟩) (by show V < _; omega)).trans gk2
        have k3 : w5.cell? ⟨S, 0, none⟩ = some (.int .i64 (sumL ws)) := (nx.cell (p := ⟨S, 0, none⟩) hsz).trans r1
        have k4 : Hid (Lies w5 b o n ws) := fun i hi => (nx.cell (p := ⟨b, o + i, none⟩) (by show b < _; omega)).trans (HC4.out i hi)
        have n5 : Below T w w5 := n4.trans (nx.mono htz)
        have sz5 := nx.size
        clear gk1 gk2 r1 gk5 hmk HC4 nx n4
        go_wp2_with fail
        go_loopw [14, 15, 16, 83] (fun l _ _ i wr => FillRel2 w5 w4.heap.size g1 g2 n size ws l i wr) (fun _ _ _ i _ => n - (intOf i).toNat)
        case atStart => exact ⟨0, Nat.zero_le _, rfl, rfl, ro1, ro2, Below.refl _ _⟩
        case round =>
          obtain ⟨j, hj, rfl, rfl, ro1', ro2', nx⟩ := hrel
          clear ro1 ro2
          have lb := leftAt_bd size ws b0 s1 HG.out.w1 j (by have := HL.out; omega)
          obtain ⟨lb1, lb2⟩ := lb
          have m1 : wr.cell? ⟨T, 0, none⟩ = some (.int .i64 size) := (nx.cell (p := ⟨T, 0, none⟩) (by show T < _; omega)).trans k1
          have m2 : wr.cell? ⟨V, 0, none⟩ = some (.slice (some ⟨b, o, none⟩) n c) := (nx.cell (p := ⟨V, 0, none⟩) (by show V < _; omega)).trans k2
          have m3 : wr.cell? ⟨S, 0, none⟩ = some (.int .i64 (sumL ws)) := (nx.cell (p := ⟨S, 0, none⟩) (by show S < _; omega)).trans k3
          by_cases hlt2 : j < n
          · have m4 : wr.cell? ⟨b, o + j, none⟩ = some (.int .i64 (ws[j]?.getD 0)) := (nx.cell (p := ⟨b, o + j, none⟩) (by show b < _; omega)).trans (k4.out j hlt2)
            have c1 : wr.cell? ⟨g1, j, none⟩ = some (.int .i64 0) := by
              rw [ro1'.cell (by rw [ints_length, fillL_length]; exact hlt2), ints_get _ _ (by rw [fillL_length]; exact hlt2), fillL_get _ _ _ _ hlt2, if_neg (by omega)]
            have c2 : wr.cell? ⟨g2, j, none⟩ = some (.int .i64 0) := by
              rw [ro2'.cell (by rw [ints_length, fillL_length]; exact hlt2), ints_get _ _ (by rw [fillL_length]; exact hlt2), fillL_get _ _ _ _ hlt2, if_neg (by omega)]
            have c3 := ro1'.frozen j
            have c4 := ro2'.frozen j
            have a1 : (⟨g1, j, none⟩ : Addr) ≠ ⟨g2, j, none⟩ := fun e => hne (by injection e)
            have a2 : (⟨g2, j, none⟩ : Addr) ≠ ⟨g1, j, none⟩ := fun e => hne (by injection e with e1; exact e1.symm)
            obtain ⟨x1, x2⟩ := HG.out.w1 j (by have := HL.out; omega)
            obtain ⟨y1, y2, y3, y4, y5, y6⟩ := part_bd size (sumL ws) (ws[j]?.getD 0) b0 b1 s1 x1 x2
            have hq : Hid (leftAt size (sumL ws) ws (j + 1) = leftAt size (sumL ws) ws j - size * (ws[j]?.getD 0) / sumL ws) := rfl
            have ro1'' := (ro1'.set j (.int .i64 (qOf size (sumL ws) ws j))).other (a := ⟨g2, j, none⟩) hne (.int .i64 (j : Int))
            rw [ints_set, fillL_set] at ro1''
            have ro2'' := (ro2'.other (a := ⟨g1, j, none⟩) (Ne.symm hne) (.int .i64 (qOf size (sumL ws) ws j))).set j (.int .i64 ((fun i : Nat => (i : Int)) j))
            rw [ints_set, fillL_set] at ro2''
            have nx' : Below w4.heap.size w5 ((wr.setCell ⟨g1, j, none⟩ (.int .i64 (qOf size (sumL ws) ws j))).setCell ⟨g2, j, none⟩ (.int .i64 (j : Int))) := (nx.setCell (p := ⟨g1, j, none⟩) hg1 _).setCell (p := ⟨g2, j, none⟩) hg2 _
            clear ro1' ro2' nx
            go_wp2_with fail
            go_roundw
            case rel => exact ⟨j + 1, by omega, by go_num, by rw [hq.out], ro1'', ro2'', nx'⟩
            case measure => simp [intOf]; omega
          · obtain rfl : n = j := by omega
            have hlft : leftAt size (sumL ws) ws n = lft size ws := by unfold lft; rw [HL.out]
            have lfb := lft_bd size ws s1
            have lf2 : lft size ws < n := by
              have := HL.out
              rcases lfb.2 with h | h <;> omega
            have lf1 := lfb.1
            rw [fillL_all] at ro1' ro2'
            obtain ⟨lf, hlf⟩ := Int.eq_ofNat_of_zero_le lf1
            rw [hlft, hlf] at lb1 lb2 ⊢
            rw [hlf] at lf2
            have hcmp : Hid (CmpOK (keyOf size ws) n g2 #[.pointer (some ⟨T, 0, none⟩), .pointer (some ⟨V, 0, none⟩), .pointer (some ⟨S, 0, none⟩)] wr) := by
              intro W hW x y x1 x2 y1 y2
              obtain ⟨i, rfl⟩ := Int.eq_ofNat_of_zero_le x1
              obtain ⟨k, rfl⟩ := Int.eq_ofNat_of_zero_le y1
              refine closure_any size ws HG.out n b o c T V S HL.out i k (by omega) (by omega) W (hW.cell m1 (by simp; omega)) (hW.cell m2 (by simp; omega)) (hW.cell m3 (by simp; omega)) (fun z hz => hW.cell ((nx.cell (p := ⟨b, o + z, none⟩) (by show b < _; omega)).trans (k4.out z hz)) (by simp; omega))
            obtain ⟨w6, rfl⟩ : ∃ w6 : World, w6 = wr := ⟨_, rfl⟩
            have nd : Below T w w6 := n5.trans (nx.mono htz)
            have hsrt := Lib.hid (sortStable_any (keyOf size ws) n g2 n n (places n) _ _ _ w6 w6 (places_length n) (by omega) (keyOK size ws HG.out) hcmp.out (only_refl _ _) (valid_places n) (stb_places _ n) ro2')
            have hmf : ∀ (fn : Fn) (first cap : Array Value) (w : World), (Instr.makeFunc fn first cap).run Tryz.prog w = .ok (.func fn first cap) w := fun _ _ _ _ => rfl
            clear lfb hlft m1 m2 m3 k1 k2 k3 n5
            go_wp2_with (go_at_call 24; refine hsrt.out.mono ?_; rintro e w' ⟨L, rfl, h1, h2, h3, h4, h5⟩)
            have rk := fun t ht => rank_sorted size ws n L h1 h2 h3 t ht
            have hLl : L.length = n := by rw [h1.length_eq, places_length]
            have hLv := valid_perm (valid_places n) h1
            have RK := Lib.hid rk
            have HLl := Lib.hid hLl
            have HLF := Lib.hid hlf
            have ro1n := ro1'.kept h5 (by simp; omega)
            have g2c : ∀ t, t < n → w'.cell? ⟨g2, t, none⟩ = some (.int .i64 (L[t]?.getD 0)) := fun t ht => by
              rw [h4.cell (by rw [ints_length, hLl]; exact ht), ints_get _ _ (by rw [hLl]; exact ht)]
            have G2 := Lib.hid g2c
            have ndw : Below T w w' := nd.grown h5 (by have := nx.size; omega) (fun k hk => by injection hk; omega)
            clear rk hLl hLv h1 h2 h3 h4 h5 ro1' ro2' nd nx hcmp hsrt hmf g2c hlf lb1 lb2 lf1
            go_loopw [18, 114] (fun _ i wr => HandRel2 w' g1 n size ws i wr) (fun _ i _ => lf - (intOf i).toNat)
            case atStart => exact ⟨0, by have := HLF.out; omega, rfl, by rw [outL_zero]; exact ro1n, only_refl _ _⟩
            case round =>
              obtain ⟨t, ht, rfl, ro, gr⟩ := hrel
              rw [HLF.out] at ht
              by_cases hlt3 : t < lf
              · obtain ⟨m, hm1, hm2, hm3⟩ := RK.out t (by omega)
                have c0 : wr.cell? ⟨g2, t, none⟩ = some (.int .i64 (m : Int)) := by
                  have := gr.cell (G2.out t (by omega)) (by simp; omega)
                  rw [hm1] at this; exact this
                have hq := outL_get (qOf size (sumL ws) ws) (rOf size (sumL ws) ws) n t m hm2
                rw [hm3, if_neg (by omega), Int.add_zero] at hq
                have c1 : wr.cell? ⟨g1, m, none⟩ = some (.int .i64 (qOf size (sumL ws) ws m)) := by
                  rw [ro.cell (by rw [ints_length, outL_length]; exact hm2), ints_get _ _ (by rw [outL_length]; exact hm2), hq]
                have c2 := ro.frozen m
                obtain ⟨x1, x2⟩ := HG.out.w1 m (by have := HL.out; omega)
                obtain ⟨_, _, y3, y4, _, _⟩ := part_bd size (sumL ws) (ws[m]?.getD 0) b0 b1 s1 x1 x2
                have q1 : 0 ≤ qOf size (sumL ws) ws m := y3
                have q2 : qOf size (sumL ws) ws m ≤ 4503599627370496000 := y4
                have ro' := ro.set m (.int .i64 (qOf size (sumL ws) ws m + 1))
                rw [ints_set, outL_set _ _ _ _ _ hm2 hm3] at ro'
                have gr' := only_setCell gr (p := ⟨g1, m, none⟩) (.inl rfl) (.int .i64 (qOf size (sumL ws) ws m + 1))
                clear hm1 hm3 hq x1 x2 y3 y4 ro gr
                go_wp2_with fail
                go_roundw
                case rel => exact ⟨t + 1, by have := HLF.out; omega, by go_num, ro', gr'⟩
                case measure => simp [intOf]; omega
              · obtain rfl : lf = t := by omega
                have hp := parts_eq size ws (by rw [HLF.out]; omega)
                rw [HL.out, HLF.out, Int.toNat_natCast] at hp
                rw [← hp] at ro
                have HP := Lib.hid ro
                have fin : Below T w wr := ndw.grown gr (by have := HT.out; have := ndw.size; omega) (fun k hk => by injection hk; omega)
                have et := HT.out
                clear hp ro
                go_wp2_with fail
                go_ret2
                exact ⟨g1, n, rfl, by omega, Nat.le_refl _, HP.out, by rw [← HT.out]; exact fin⟩

end Go.Proofs.YtnikhbdjlipcbaaGreatDoor.Spl
