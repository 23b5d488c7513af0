/-
  The program's read: the magnitude of a text. No condition.
-/
import Derived.Test.YtnmiiimbjojcmaaNc
import Derived.Outline
import Derived.RegionIn
namespace Go.Proofs.Ytnmiiimbjojcmaa
open Go.RowKit Go.Shelf

attribute [local go_sem] Oper.semAt_some

theorem dval_undig_snoc (l : List UInt8) (c : UInt8) : dval (undig (l ++ [c])) = (c.toNat - 48) + 10 * dval (undig l) := by
  unfold undig; simp [dval]
theorem groups_val (D : List Nat) (m : Nat) : val ((List.range m).map fun k => dval ((D.drop (9 * k)).take 9)) + Bs ^ m * dval (D.drop (9 * m)) = dval D := by
  induction m with
  | zero => simp [val]
  | succ m ih =>
    rw [List.range_succ, List.map_append, List.map_cons, List.map_nil, val_snoc, List.length_map, List.length_range]
    have h1 := dval_split (D.drop (9 * m)) 9
    rw [List.drop_drop, show 9 * m + 9 = 9 * (m + 1) by omega] at h1
    rw [h1] at ih
    rw [Nat.pow_succ]
    have hB : Bs = 10 ^ 9 := rfl
    rw [← hB] at ih
    generalize val ((List.range m).map fun k => dval ((D.drop (9 * k)).take 9)) = V at *
    generalize dval ((D.drop (9 * m)).take 9) = x at *
    generalize dval (D.drop (9 * (m + 1))) = y at *
    generalize Bs ^ m = P at *
    generalize Bs = b at *
    grind
theorem undig_extract (T : List UInt8) (k : Nat) (h : 9 * k ≤ T.length) : undig ((T.drop (T.length - 9 * (k + 1))).take (T.length - 9 * k - (T.length - 9 * (k + 1)))) = ((undig T).drop (9 * k)).take 9 := by
  unfold undig
  rw [← List.map_drop, ← List.map_take]
  congr 1
  apply List.ext_getElem?
  intro i
  have hlen : ((T.drop (T.length - 9 * (k + 1))).take (T.length - 9 * k - (T.length - 9 * (k + 1)))).length = T.length - 9 * k - (T.length - 9 * (k + 1)) := by
    rw [List.length_take, List.length_drop]; omega
  by_cases hi : i < T.length - 9 * k - (T.length - 9 * (k + 1))
  · rw [List.getElem?_reverse (by omega), hlen, List.getElem?_take_of_lt (by omega), List.getElem?_drop, List.getElem?_take_of_lt (by omega), List.getElem?_drop, List.getElem?_reverse (by omega)]
    congr 1; omega
  · rw [List.getElem?_eq_none (by rw [List.length_reverse, hlen]; omega), List.getElem?_eq_none]
    rw [List.length_take, List.length_drop, List.length_reverse]; omega
theorem rep_trim_of {l : List Nat} {N : Nat} {k : Nat} (h : Rep (l.take k) (val l)) (e : val l = N) : Rep (l.take k) N := e ▸ h

/-- The value of a group. -/
def grp (t : ByteArray) (k : Nat) : Nat := dval (undig (chunk t k).data.toList)
/-- Block B is the number, with its sign and groups. -/
def Box2 (W : World) (B : Nat) (neg : Bool) (v : Value) : Prop := W.heap[B]? = some (.cells #[.bool neg, v] 85 (0, 0))
theorem Box2.lt {W : World} {B : Nat} {neg : Bool} {v : Value} (h : Box2 W B neg v) : B < W.heap.size := (Array.getElem?_eq_some_iff.1 h).1
theorem Box2.cell0 {W : World} {B : Nat} {neg : Bool} {v : Value} (h : Box2 W B neg v) : W.cell? ⟨B, 0, none⟩ = some (.bool neg) := by
  simp [World.cell?, show W.heap[B]? = _ from h]
theorem Box2.cell1 {W : World} {B : Nat} {neg : Bool} {v : Value} (h : Box2 W B neg v) : W.cell? ⟨B, 1, none⟩ = some v := by
  simp [World.cell?, show W.heap[B]? = _ from h]
theorem Box2.frozen {W : World} {B : Nat} {neg : Bool} {v : Value} (h : Box2 W B neg v) (i : Nat) : W.frozen? ⟨B, i, none⟩ = false := by
  simp [World.frozen?, show W.heap[B]? = _ from h]
theorem Box2.kept {W W' : World} {row : Option Nat} {B : Nat} {neg : Bool} {v : Value} (h : Box2 W B neg v) (hg : W.grownBy W' row) (hne : some B ≠ row) : Box2 W' B neg v := (hg.block B h.lt hne).trans h
theorem Box2.alloc {W : World} {B : Nat} {neg : Bool} {v : Value} (h : Box2 W B neg v) (o : Obj) : Box2 (W.alloc o) B neg v := h.kept (World.grownBy_alloc W o none) (by simp)
theorem Box2.set1 {W : World} {B : Nat} {neg : Bool} {v : Value} (v' : Value) (h : Box2 W B neg v) : Box2 (W.setCell ⟨B, 1, none⟩ v') B neg v' := by
  unfold Box2 at h ⊢
  simp only [World.setCell, Array.getElem?_modify]
  simp [h]
theorem Box2.set0 {W : World} {B : Nat} {neg : Bool} {v : Value} (b : Bool) (h : Box2 W B neg v) : Box2 (W.setCell ⟨B, 0, none⟩ (.bool b)) B b v := by
  unfold Box2 at h ⊢
  simp only [World.setCell, Array.getElem?_modify]
  simp [h]
theorem Box2.other {W : World} {B : Nat} {neg : Bool} {v : Value} (h : Box2 W B neg v) {a : Addr} (ha : B ≠ a.block) (u : Value) : Box2 (W.setCell a u) B neg v := (Below.heap_setCell W a u B ha).trans h
theorem Box2.drewN {W : World} {B : Nat} {neg : Bool} {v : Value} (h : Box2 W B neg v) (n : Nat) : Box2 (W.drewN n) B neg v := h
theorem chunk_list (t : ByteArray) (k : Nat) (h : 9 * k ≤ t.size) : undig (chunk t k).data.toList = ((undig t.data.toList).drop (9 * k)).take 9 := by
  unfold chunk
  rw [Lib.extract_data]
  have := undig_extract t.data.toList k (by rw [data_len]; exact h)
  rw [data_len] at this
  exact this
theorem grp_lt (t : ByteArray) (k : Nat) (h : ∀ c ∈ t.data.toList, 48 ≤ c.toNat ∧ c.toNat ≤ 57) : grp t k < Bs := by
  have hd : ∀ c ∈ (chunk t k).data.toList, 48 ≤ c.toNat ∧ c.toNat ≤ 57 := fun c hc => by
    unfold chunk at hc
    rw [Lib.extract_data] at hc
    exact h c (List.mem_of_mem_drop (List.mem_of_mem_take hc))
  have h1 := dval_lt (undig (chunk t k).data.toList) (undig_lt _ hd)
  have h2 : (undig (chunk t k).data.toList).length ≤ 9 := by
    unfold undig chunk; rw [List.length_map, List.length_reverse, data_len]; simp; omega
  have h3 : 10 ^ (undig (chunk t k).data.toList).length ≤ 10 ^ 9 := Nat.pow_le_pow_right (by omega) h2
  have h4 : Bs = 10 ^ 9 := rfl
  unfold grp; omega
theorem groups_sum (t : ByteArray) (N m : Nat) (hN : t.data.toList = txtN N) (h1 : t.size ≤ 9 * m) (h2 : 9 * m < t.size + 9) : val ((List.range m).map (grp t)) = N := by
  have h := groups_val (undig t.data.toList) m
  have hl : (undig t.data.toList).length = t.size := by unfold undig; rw [List.length_map, List.length_reverse, data_len]
  rw [List.drop_eq_nil_of_le (by omega)] at h
  have e : (List.range m).map (grp t) = (List.range m).map fun k => dval (((undig t.data.toList).drop (9 * k)).take 9) := by
    refine List.map_congr_left fun k hk => ?_
    have := List.mem_range.1 hk
    unfold grp
    rw [chunk_list t k (by omega)]
  rw [e]
  have hv : dval (undig t.data.toList) = N := by rw [hN, undig_txtN, dval_decN]
  rw [hv] at h
  simpa [dval] using h
/-- What read hands back. -/
def ReadPost (w : World) (z : Int) (e : Ending) (w' : World) : Prop :=
  ∃ a c l, e = .returned (.agg #[.bool (decide (z < 0)), .slice a (l : List Nat).length c]) ∧ l.length ≤ c ∧ w'.ownsRow w.heap.size 101 1 (.slice a l.length c) l.length (nums .u32 l) ∧ Rep l z.natAbs ∧ Below w.heap.size w w'
theorem owns_base {w : World} {B B' e n : Nat} {v : Value} {xs : List Value} (h : w.ownsRow B e 1 v n xs) (hB : B' ≤ B) : w.ownsRow B' e 1 v n xs := by
  obtain ⟨h1, h2⟩ := h
  refine ⟨h1, ?_⟩
  rcases h2 with h | ⟨g, cap, cur, e1, e2, e3⟩
  · exact .inl h
  · exact .inr ⟨g, cap, cur, e1, Nat.le_trans hB e2, e3⟩

/-- Between two groups. -/
def ReadI (w : World) (neg : Bool) (t : ByteArray) (pre : List Nat) (W : World) : Prop :=
  (∃ v, Box2 W (w.heap.size + 1) neg v ∧ W.ownsRow (w.heap.size + 3) 101 1 v pre.length (nums .u32 (pre.map (grp t)))) ∧ Box2 W w.heap.size false (.slice none 0 0) ∧ Below w.heap.size w W ∧ w.heap.size + 3 ≤ W.heap.size
theorem readI_start (w : World) (neg : Bool) (t : ByteArray) (W0 : World) (h1 : Box2 W0 w.heap.size false (.slice none 0 0)) (h2 : Box2 W0 (w.heap.size + 1) neg (.slice none 0 0)) (h3 : Below w.heap.size w W0) (h4 : w.heap.size + 3 ≤ W0.heap.size) : ReadI w neg t [] W0 :=
  ⟨⟨_, h2, World.ownsRow_nil _ _ _ _⟩, h1, h3, h4⟩
theorem box2_row {W : World} {B : Nat} {neg : Bool} {v : Value} (h : Box2 W B neg v) {row : Option Nat} {C : Nat} (hr : ∀ r, row = some r → C ≤ r ∧ ∃ o : Obj, W.heap[r]? = some o ∧ o.isCells = false) : some B ≠ row := by
  intro e
  obtain ⟨_, o, ho, hc⟩ := hr B e.symm
  rw [show W.heap[B]? = _ from h] at ho
  injection ho with ho
  subst ho
  cases hc
theorem owns_row {W : World} {base e n : Nat} {v : Value} {xs : List Value} (h : W.ownsRow base e 1 v n xs) {row : Option Nat} {C : Nat} (hr : ∀ r, row = some r → C ≤ r ∧ ∃ o : Obj, W.heap[r]? = some o ∧ o.isCells = false) : v.ownBlock = none ∨ v.ownBlock ≠ row := by
  rcases h.2 with ⟨rfl, _⟩ | ⟨g, cap, cur, rfl, _, hg, _⟩
  · exact .inl rfl
  · right
    intro e
    obtain ⟨_, o, ho, hc⟩ := hr g e.symm
    rw [hg] at ho
    injection ho with ho
    subst ho
    cases hc
theorem readI_own (w : World) (neg : Bool) (t : ByteArray) (W0 : World) (hB : w.heap.size ≤ W0.heap.size) : OwnFrom W0.heap.size (ReadI w neg t) := by
  intro s W W' row ⟨⟨v, h1, h2⟩, h3, h4, h5⟩ hg hr
  exact ⟨⟨v, h1.kept hg (box2_row h1 hr), h2.kept hg (owns_row h2 hr)⟩, h3.kept hg (box2_row h3 hr), h4.grown hg h4.size (fun k hk => by have := (hr k hk).1; omega), Nat.le_trans h5 hg.size⟩

set_option maxHeartbeats 4000000 in
set_option maxRecDepth 100000 in
theorem read_pos (s : ByteArray) (w : World) (hs : s.size ≤ 100000) (N : Nat) (hN : s.data.toList = txtN N) (h0 : 0 < s.size) (h1 : ((s[0].toNat : Int) == 45) = false) :
    Calls Try.prog 59 #[.string s] w (ReadPost w N) := by
  refine (callsIn_wide (n := 6)).1 ?_
  refine callsIn_of_wp_marks Try.func59 rfl trivial ?_ rfl
  simp only [Try.ntmps59, List.size_toArray, List.length_cons, List.length_nil, Nat.reduceAdd, Nat.reduceSub, Array.replicate_succ, Array.replicate_zero, List.push_toArray, List.append_toArray, List.nil_append, List.cons_append]
  have hT : ∀ f, Fence.wide.fn f := fun _ => trivial
  gi_wp2_with (gi_at_call 71; refine (groups_in Fence.wide _ trivial rfl _ _).mono ?_; rintro e w' ⟨rfl, rfl⟩)
  obtain ⟨W0, hW0⟩ : ∃ W0, W0 = ((w.alloc (.cells #[.bool false, .slice none 0 0] 85)).alloc (.cells #[.bool false, .slice none 0 0] 85)).alloc (.cells #[.string s] 9) := ⟨_, rfl⟩
  have hsz : W0.heap.size = w.heap.size + 3 := by rw [hW0]; simp
  have hR0 : Box2 W0 w.heap.size false (.slice none 0 0) := by rw [hW0]; exact Box2.alloc (Box2.alloc (show Box2 (w.alloc (.cells #[.bool false, .slice none 0 0] 85)) w.heap.size false (.slice none 0 0) from World.alloc_heap_new w _) _) _
  have hB0 : Box2 W0 (w.heap.size + 1) false (.slice none 0 0) := by
    rw [hW0]
    refine Box2.alloc ?_ _
    have := World.alloc_heap_new (w.alloc (.cells #[.bool false, .slice none 0 0] 85)) (.cells #[.bool false, .slice none 0 0] 85)
    rw [World.size_alloc] at this
    exact this
  have hS0 : Boxed W0 (w.heap.size + 2) 9 (.string s) := by
    rw [hW0]
    have := Boxed.new ((w.alloc (.cells #[.bool false, .slice none 0 0] 85)).alloc (.cells #[.bool false, .slice none 0 0] 85)) 9 (.string s)
    rw [World.size_alloc, World.size_alloc] at this
    exact this
  have hbel : Below w.heap.size w W0 := by rw [hW0]; exact (((Below.refl _ w).alloc (Nat.le_refl _) _).alloc (by simp) _).alloc (by simp; omega) _
  rw [← hW0]
  clear hW0
  have HDG : Hid (∀ c ∈ s.data.toList, 48 ≤ c.toNat ∧ c.toNat ≤ 57) := by show ∀ c ∈ _, _; rw [hN]; exact txtN_dig N
  have hsz2 := Lib.hid hsz
  obtain ⟨i0, hi, hz0, hz1, hz2⟩ := info_parts infoU32
  obtain ⟨m, hm1, hm2⟩ : ∃ m, s.size ≤ 9 * m ∧ 9 * m < s.size + 9 := ⟨(s.size + 8) / 9, by omega, by omega⟩
  refine wpIn_rangeFunc_ownG rfl (by omega) (gf := 76) (lb := #[.pointer (some ⟨w.heap.size + 2, 0, none⟩)]) rfl trivial (enters_of Try.func76 (by kernel_rfl) rfl)
    (groups_stops Fence.wide _ trivial rfl (by omega) (w.heap.size + 2) m s (by omega) hm1 hm2 W0 hS0) keepBox_t (keepBox_b (by omega)) (Below.refl _ _) (fun _ => rfl)
    (ReadI w false s) (fun _ _ _ => False) (readI_own w false s W0 (by omega)) (fun _ _ _ _ _ hs _ _ => hs) (readI_start w false s W0 hR0 hB0 hbel (by omega)) ?a1 ?assign ?body ?done ?stop
  case assign =>
    intro l x W K hK
    gi_wp2
    exact hK
  case body =>
    rintro l pre x W ⟨⟨v, hbx, hrow⟩, hres, hbl, hbs⟩ hlt
    have hch : ∀ c ∈ (chunk s x).data.toList, 48 ≤ c.toNat ∧ c.toNat ≤ 57 := fun c hc => by
      unfold chunk at hc
      rw [Lib.extract_data] at hc
      exact HDG.out c (List.mem_of_mem_drop (List.mem_of_mem_take hc))
    have hcs : (chunk s x).size ≤ 9 := by unfold chunk; simp; omega
    obtain ⟨g, hg⟩ : ∃ g, g = chunk s x := ⟨_, rfl⟩
    have hgv : grp s x = dval (undig g.data.toList) := by rw [hg]; rfl
    rw [← hg] at hch hcs ⊢
    have HCH := Lib.hid hch
    have HGV := Lib.hid hgv
    have HRES := Lib.hid hres
    have HBL := Lib.hid hbl
    have HROW := Lib.hid hrow
    have HBX := Lib.hid hbx
    have hT2 : ∀ f, (Fence.wide.inRound l).fn f := fun _ => trivial
    clear hg hgv hch hres hbl hrow hbx hT
    gi_wp2
    gi_loopw [6, 20] (fun vv iv wr => (∃ k : Nat, k ≤ g.size ∧ iv = .int .i64 k ∧ vv = .int .u32 (dval (undig (g.data.toList.take k)) : Nat)) ∧ wr = W) (fun _ iv _ => g.size - (intOf iv).toNat)
    case atStart => exact ⟨⟨0, Nat.zero_le _, rfl, by simp [undig, dval]⟩, rfl⟩
    case round =>
      obtain ⟨⟨k, hk, rfl, rfl⟩, rfl⟩ := hrel
      obtain ⟨vv, hvv⟩ : ∃ vv, vv = dval (undig (g.data.toList.take k)) := ⟨_, rfl⟩
      rw [← hvv]
      have HVV := Lib.hid hvv
      by_cases hltk : k < g.size
      · have hvb : vv < 100000000 := by
          rw [hvv]
          have h1 := dval_lt (undig (g.data.toList.take k)) (undig_lt _ (fun c hc => HCH.out c (List.mem_of_mem_take hc)))
          have h2 : (undig (g.data.toList.take k)).length ≤ 8 := by unfold undig; rw [List.length_map, List.length_reverse, List.length_take]; omega
          have h3 : 10 ^ (undig (g.data.toList.take k)).length ≤ 10 ^ 8 := Nat.pow_le_pow_right (by omega) h2
          omega
        have hcd := HCH.out _ (data_mem g k hltk)
        obtain ⟨y, hy⟩ : ∃ y, y = g[k].toNat - 48 := ⟨_, rfl⟩
        have hyI : ((g[k].toNat : Int) - 48) = (y : Int) := by omega
        have hyb : y < 10 := by omega
        have hnx : dval (undig (g.data.toList.take (k + 1))) = vv * 10 + y := by
          rw [data_take g k hltk, dval_undig_snoc, ← HVV.out, ← hy]; omega
        have HNX := Lib.hid hnx
        obtain ⟨c1, c2⟩ := hcd
        clear hvv hy hnx
        gi_wp2
        go_roundw
        case rel => exact ⟨⟨k + 1, by omega, by go_num, by rw [HNX.out]; congr 1⟩, trivial⟩
        case measure => simp [intOf] <;> omega
      · have hkg : k = g.size := by omega
        have hval : vv = grp s x := by rw [hvv, hkg, List.take_of_length_le (by rw [data_len]; omega)]; exact HGV.out.symm
        have HVAL := Lib.hid hval
        have hcell := HBX.out.cell1
        clear hvv hkg hval
        have hpm : pre.length < 100000 := by omega
        obtain ⟨pl, hpl⟩ : ∃ pl, pl = pre.length := ⟨_, rfl⟩
        have HROW1 := HROW.out
        rw [← hpl] at hpm HROW1
        have HROW2 := Lib.hid HROW1
        have HPL := Lib.hid hpl
        clear HROW1 hpl
        gi_wp2_with (gi_at_builtin; refine wpListIn_append_own _ rfl (.tmp 33) (.tmp 35) 83 rfl (w.heap.size + 3) 101 i0 (.int .u32 0) 1 4 Try.underlying83 hi hz0 hz1 hz2 rfl (by decide) _ _ _ rfl (HROW2.out.alloc _) ⟨wr.heap.size, 0, none⟩ 1 1 [.int .u32 (vv : Int)] rfl rfl (cell_one_new _ _ _) (by simp [Value.oneCell']) ?c3 ?c4 ?c5 ?_)
        case c3 => unfold maxLen; omega
        case c4 => omega
        case c5 => simp; omega
        intro v' w1 hown' hgrow _
        obtain ⟨g', cap', rfl⟩ := ownsRow_succ hown'
        have hnb : ∀ B, B < w.heap.size + 3 → some B ≠ v.ownBlock := fun B hB e => by have := (HROW2.out.lt B e.symm).1; omega
        have bx1 : Box2 w1 (w.heap.size + 1) false v := (HBX.out.alloc _).kept hgrow (hnb _ (by omega))
        have hc1 := bx1.cell1
        have hf1 := bx1.frozen 1
        have hnb2 : w1.grownBy (w1.setCell ⟨w.heap.size + 1, 1, none⟩ (.slice (some ⟨g', 0, none⟩) (pl + 1) cap')) (some (w.heap.size + 1)) := only_setCell (only_refl _ _) (.inl rfl) _
        have BX2 := Lib.hid (bx1.set1 (.slice (some ⟨g', 0, none⟩) (pl + 1) cap'))
        have ho2 := hown'.kept hnb2 (.inr (fun e => by have := (hown'.lt _ e).1; omega))
        rw [nums_snoc, HVAL.out, show List.map (grp s) pre ++ [grp s x] = List.map (grp s) (pre ++ [x]) by simp, HPL.out] at ho2
        have HO2 := Lib.hid ho2
        have RES2 : Hid (Box2 (w1.setCell ⟨w.heap.size + 1, 1, none⟩ (.slice (some ⟨g', 0, none⟩) (pl + 1) cap')) w.heap.size false (.slice none 0 0)) := ((HRES.out.alloc _).kept hgrow (hnb _ (by omega))).other (by show w.heap.size ≠ w.heap.size + 1; omega) _
        have BL1 : Below w.heap.size w w1 := (HBL.out.alloc HBL.out.size _).grown hgrow (by simp; omega) (fun k hk => by have := (HROW2.out.lt k hk).1; omega)
        have BL2 : Hid (Below w.heap.size w (w1.setCell ⟨w.heap.size + 1, 1, none⟩ (.slice (some ⟨g', 0, none⟩) (pl + 1) cap'))) := BL1.setCell (p := ⟨w.heap.size + 1, 1, none⟩) (by show w.heap.size ≤ w.heap.size + 1; omega) _
        have SZ2 : Hid (w.heap.size + 3 ≤ (w1.setCell ⟨w.heap.size + 1, 1, none⟩ (.slice (some ⟨g', 0, none⟩) (pl + 1) cap')).heap.size) := by
          have := hgrow.size; simp at this; show _ ≤ _; simp [World.setCell]; omega
        have KF2 : Hid (KeepsFrom W0.heap.size wr (w1.setCell ⟨w.heap.size + 1, 1, none⟩ (.slice (some ⟨g', 0, none⟩) (pl + 1) cap'))) := by
          refine KeepsOthers.from (((KeepsOthers.alloc wr _).trans (KeepsOthers.of_grownBy hgrow fun j o ej hj => ?_)).trans (KeepsOthers.setCell _ _ _)) _
          rcases (HROW2.out.alloc (.cells #[.int .u32 (vv : Int)] 101)).2 with ⟨rfl, _⟩ | ⟨g, cap, cur, rfl, _, hgb, _⟩
          · simp [Value.ownBlock] at ej
          · obtain rfl : g = j := by simpa [Value.ownBlock] using ej
            rw [hgb] at hj; cases hj; rfl
        have KB2 : Hid (KeepBox (w.heap.size + 2) wr (w1.setCell ⟨w.heap.size + 1, 1, none⟩ (.slice (some ⟨g', 0, none⟩) (pl + 1) cap'))) := by
          show _ = _
          rw [Below.heap_setCell w1 ⟨w.heap.size + 1, 1, none⟩ _ (w.heap.size + 2) (by show w.heap.size + 2 ≠ w.heap.size + 1; omega), hgrow.block (w.heap.size + 2) (by simp; omega) (hnb _ (by omega)), Below.heap_alloc wr _ _ (by omega)]
        clear hown' hgrow bx1 hnb hnb2 ho2 BL1
        gi_wp2
        refine ⟨KF2.out, KB2.out, ⟨⟨_, BX2.out, ?_⟩, RES2.out, BL2.out, SZ2.out⟩⟩
        rw [List.length_append, ← HPL.out]
        have := HO2.out
        rw [← HPL.out] at this
        exact this
  case done =>
    rintro D ys W hD rfl ⟨⟨v, hbx, hrow⟩, hres, hbl, hbs⟩ hK
    rw [List.length_range] at hrow
    have hval : val ((List.range m).map (grp s)) = N := groups_sum s N m hN (by omega) (by omega)
    have htr := trim_own hrow (by omega) (by
      intro x hx
      obtain ⟨k, _, rfl⟩ := List.mem_map.1 hx
      exact grp_lt s k HDG.out)
    rw [hval] at htr
    have HTR := Lib.hid htr
    have hc1 := hbx.cell1
    have hf1 := hbx.frozen 1
    have HBX := Lib.hid hbx
    have HRES := Lib.hid hres
    have HBL := Lib.hid hbl
    have HK := Lib.hid hK
    clear htr hval hrow hbx hres hbl hK
    gi_wp2_with (gi_at_call 62; refine (callsIn_wide.2 HTR.out).mono ?_; rintro e w' ⟨⟨v2, l2, rfl, ho2, hr2⟩, rfl⟩; obtain ⟨a2, c2, rfl, hl2, hlc2, hn2⟩ := nums_of_owns ho2; obtain ⟨k2, hk2⟩ : ∃ k2, k2 = l2.length := ⟨_, rfl⟩; rw [← hk2] at ho2 hlc2 ⊢; have HO2 := Lib.hid ho2; have HR2 := Lib.hid hr2; have HN2 := Lib.hid hn2; have HK2 := Lib.hid hk2; have hx2 : Box2 (W.setCell ⟨w.heap.size + 1, 1, none⟩ (.slice a2 k2 c2)) (w.heap.size + 1) false (.slice a2 k2 c2) := HBX.out.set1 _; have hy2 : Box2 (W.setCell ⟨w.heap.size + 1, 1, none⟩ (.slice a2 k2 c2)) w.heap.size false (.slice none 0 0) := HRES.out.other (by show w.heap.size ≠ w.heap.size + 1; omega) _; have e0 := hx2.cell0; have e1 := hx2.cell1; have e2 := hy2.cell0; have e3 := hy2.cell1; have e4 := hy2.frozen 0; have e5 := hy2.frozen 1; have HY2 := Lib.hid hy2; clear ho2 hr2 hn2 hl2 hk2 hx2 hy2)
    have hr3 : Box2 (((W.setCell ⟨w.heap.size + 1, 1, none⟩ (.slice a2 k2 c2)).setCell ⟨w.heap.size, 0, none⟩ (.bool false)).setCell ⟨w.heap.size, 1, none⟩ (.slice a2 k2 c2)) w.heap.size false (.slice a2 k2 c2) := (HY2.out.set0 false).set1 _
    obtain ⟨FW, hFW⟩ : ∃ FW, FW = ((W.setCell ⟨w.heap.size + 1, 1, none⟩ (.slice a2 k2 c2)).setCell ⟨w.heap.size, 0, none⟩ (.bool false)).setCell ⟨w.heap.size, 1, none⟩ (.slice a2 k2 c2) := ⟨_, rfl⟩
    have hKf : FW.heap[D]? = some (.deferred (some [])) := by
      rw [hFW, Below.heap_setCell _ ⟨w.heap.size, 1, none⟩ _ D (by show D ≠ w.heap.size; omega), Below.heap_setCell _ ⟨w.heap.size, 0, none⟩ _ D (by show D ≠ w.heap.size; omega), Below.heap_setCell _ ⟨w.heap.size + 1, 1, none⟩ _ D (by show D ≠ w.heap.size + 1; omega)]
      exact HK.out
    have hbF : Below w.heap.size w FW := by rw [hFW]; exact ((HBL.out.setCell (p := ⟨w.heap.size + 1, 1, none⟩) (by show w.heap.size ≤ w.heap.size + 1; omega) _).setCell (p := ⟨w.heap.size, 0, none⟩) (Nat.le_refl _) _).setCell (p := ⟨w.heap.size, 1, none⟩) (Nat.le_refl _) _
    have hoF : FW.ownsRow (w.heap.size + 3) 101 1 (.slice a2 k2 c2) k2 (nums .u32 l2) := by
      have hne : ∀ B, B < w.heap.size + 3 → (Value.slice a2 k2 c2).ownBlock = none ∨ (Value.slice a2 k2 c2).ownBlock ≠ some B := fun B hB => .inr (fun e => by have := (HO2.out.lt B e).1; omega)
      rw [hFW]
      exact ((HO2.out.kept (only_setCell (only_refl _ (some (w.heap.size + 1))) (.inl rfl) _) (hne _ (by omega))).kept (only_setCell (only_refl _ (some w.heap.size)) (.inl rfl) _) (hne _ (by omega))).kept (only_setCell (only_refl _ (some w.heap.size)) (.inl rfl) _) (hne _ (by omega))
    rw [← hFW] at hr3 ⊢
    have hrP : Box2 (FW.putObj D (.deferred none)) w.heap.size false (.slice a2 k2 c2) := hr3.kept (grownBy_putObj' FW D (.deferred none)) (fun e => by injection e with e; omega)
    have hoP := ownsRow_putObj hoF (.deferred none) hKf rfl
    have hbP : Below w.heap.size w (FW.putObj D (.deferred none)) := hbF.grown (grownBy_putObj' FW D (.deferred none)) hbF.size (fun k e => by injection e with e; omega)
    refine ⟨by simp, .inl ⟨_, _, rfl, run_takeDeferred hKf, ?_⟩⟩
    have q0 := hrP.cell0
    have q1 := hrP.cell1
    refine ⟨.agg #[.bool false, .slice a2 k2 c2], ?_, a2, c2, l2, ?_, by have := HK2.out; omega, by rw [← HK2.out]; exact owns_base hoP (by omega), HR2.out, hbP⟩
    · simp [results, Try.results59, go_sem, q0, q1]
    · rw [HK2.out]; simp
  case stop =>
    rintro D c pre W _ _ h _
    exact h.elim
set_option maxHeartbeats 4000000 in
set_option maxRecDepth 100000 in
theorem read_neg (s t : ByteArray) (w : World) (hs : t.size ≤ 100000) (N : Nat) (hN : t.data.toList = txtN N) (hNp : 0 < N) (h0 : 0 < s.size) (h1 : ((s[0].toNat : Int) == 45) = true) (HTS : Hid (s.extract 1 s.size = t)) :
    Calls Try.prog 59 #[.string s] w (ReadPost w (-(N : Int))) := by
  refine (callsIn_wide (n := 6)).1 ?_
  refine callsIn_of_wp_marks Try.func59 rfl trivial ?_ rfl
  simp only [Try.ntmps59, List.size_toArray, List.length_cons, List.length_nil, Nat.reduceAdd, Nat.reduceSub, Array.replicate_succ, Array.replicate_zero, List.push_toArray, List.append_toArray, List.nil_append, List.cons_append]
  have hT : ∀ f, Fence.wide.fn f := fun _ => trivial
  have hT : ∀ f, Fence.wide.fn f := fun _ => trivial
  gi_wp2
  gi_region
  rw [HTS.out]
  gi_wp2_with (gi_at_call 71; refine (groups_in Fence.wide _ trivial rfl _ _).mono ?_; rintro e w' ⟨rfl, rfl⟩)
  obtain ⟨U0, hU0⟩ : ∃ U0, U0 = ((w.alloc (.cells #[.bool false, .slice none 0 0] 85)).alloc (.cells #[.bool true, .slice none 0 0] 85)).alloc (.cells #[.string t] 9) := ⟨_, rfl⟩
  have usz : U0.heap.size = w.heap.size + 3 := by rw [hU0]; simp
  have uR0 : Box2 U0 w.heap.size false (.slice none 0 0) := by rw [hU0]; exact Box2.alloc (Box2.alloc (show Box2 (w.alloc (.cells #[.bool false, .slice none 0 0] 85)) w.heap.size false (.slice none 0 0) from World.alloc_heap_new w _) _) _
  have uB0 : Box2 U0 (w.heap.size + 1) true (.slice none 0 0) := by
    rw [hU0]
    refine Box2.alloc ?_ _
    have := World.alloc_heap_new (w.alloc (.cells #[.bool false, .slice none 0 0] 85)) (.cells #[.bool true, .slice none 0 0] 85)
    rw [World.size_alloc] at this
    exact this
  have uS0 : Boxed U0 (w.heap.size + 2) 9 (.string t) := by
    rw [hU0]
    have := Boxed.new ((w.alloc (.cells #[.bool false, .slice none 0 0] 85)).alloc (.cells #[.bool true, .slice none 0 0] 85)) 9 (.string t)
    rw [World.size_alloc, World.size_alloc] at this
    exact this
  have ubel : Below w.heap.size w U0 := by rw [hU0]; exact (((Below.refl _ w).alloc (Nat.le_refl _) _).alloc (by simp) _).alloc (by simp; omega) _
  rw [← hU0]
  obtain ⟨W0, hW0⟩ : ∃ W0, W0 = U0.drew := ⟨_, rfl⟩
  have hsz : W0.heap.size = w.heap.size + 3 := by rw [hW0]; exact usz
  have hR0 : Box2 W0 w.heap.size false (.slice none 0 0) := by rw [hW0]; exact uR0
  have hB0 : Box2 W0 (w.heap.size + 1) true (.slice none 0 0) := by rw [hW0]; exact uB0
  have hS0 : Boxed W0 (w.heap.size + 2) 9 (.string t) := by rw [hW0]; exact uS0
  have hbel : Below w.heap.size w W0 := by rw [hW0]; exact ubel.drew
  rw [← hW0]
  clear hW0 hU0 usz uR0 uB0 uS0 ubel
  have HDG : Hid (∀ c ∈ t.data.toList, 48 ≤ c.toNat ∧ c.toNat ≤ 57) := by show ∀ c ∈ _, _; rw [hN]; exact txtN_dig N
  have hsz2 := Lib.hid hsz
  obtain ⟨i0, hi, hz0, hz1, hz2⟩ := info_parts infoU32
  obtain ⟨m, hm1, hm2⟩ : ∃ m, t.size ≤ 9 * m ∧ 9 * m < t.size + 9 := ⟨(t.size + 8) / 9, by omega, by omega⟩
  refine wpIn_rangeFunc_ownG rfl (by omega) (gf := 76) (lb := #[.pointer (some ⟨w.heap.size + 2, 0, none⟩)]) rfl trivial (enters_of Try.func76 (by kernel_rfl) rfl)
    (groups_stops Fence.wide _ trivial rfl (by omega) (w.heap.size + 2) m t (by omega) hm1 hm2 W0 hS0) keepBox_t (keepBox_b (by omega)) (Below.refl _ _) (fun _ => rfl)
    (ReadI w true t) (fun _ _ _ => False) (readI_own w true t W0 (by omega)) (fun _ _ _ _ _ hs _ _ => hs) (readI_start w true t W0 hR0 hB0 hbel (by omega)) ?a1 ?assign ?body ?done ?stop
  case assign =>
    intro l x W K hK
    gi_wp2
    exact hK
  case body =>
    rintro l pre x W ⟨⟨v, hbx, hrow⟩, hres, hbl, hbs⟩ hlt
    have hch : ∀ c ∈ (chunk t x).data.toList, 48 ≤ c.toNat ∧ c.toNat ≤ 57 := fun c hc => by
      unfold chunk at hc
      rw [Lib.extract_data] at hc
      exact HDG.out c (List.mem_of_mem_drop (List.mem_of_mem_take hc))
    have hcs : (chunk t x).size ≤ 9 := by unfold chunk; simp; omega
    obtain ⟨g, hg⟩ : ∃ g, g = chunk t x := ⟨_, rfl⟩
    have hgv : grp t x = dval (undig g.data.toList) := by rw [hg]; rfl
    rw [← hg] at hch hcs ⊢
    have HCH := Lib.hid hch
    have HGV := Lib.hid hgv
    have HRES := Lib.hid hres
    have HBL := Lib.hid hbl
    have HROW := Lib.hid hrow
    have HBX := Lib.hid hbx
    have hT2 : ∀ f, (Fence.wide.inRound l).fn f := fun _ => trivial
    clear hg hgv hch hres hbl hrow hbx hT
    gi_wp2
    gi_loopw [6, 20] (fun vv iv wr => (∃ k : Nat, k ≤ g.size ∧ iv = .int .i64 k ∧ vv = .int .u32 (dval (undig (g.data.toList.take k)) : Nat)) ∧ wr = W) (fun _ iv _ => g.size - (intOf iv).toNat)
    case atStart => exact ⟨⟨0, Nat.zero_le _, rfl, by simp [undig, dval]⟩, rfl⟩
    case round =>
      obtain ⟨⟨k, hk, rfl, rfl⟩, rfl⟩ := hrel
      obtain ⟨vv, hvv⟩ : ∃ vv, vv = dval (undig (g.data.toList.take k)) := ⟨_, rfl⟩
      rw [← hvv]
      have HVV := Lib.hid hvv
      by_cases hltk : k < g.size
      · have hvb : vv < 100000000 := by
          rw [hvv]
          have h1 := dval_lt (undig (g.data.toList.take k)) (undig_lt _ (fun c hc => HCH.out c (List.mem_of_mem_take hc)))
          have h2 : (undig (g.data.toList.take k)).length ≤ 8 := by unfold undig; rw [List.length_map, List.length_reverse, List.length_take]; omega
          have h3 : 10 ^ (undig (g.data.toList.take k)).length ≤ 10 ^ 8 := Nat.pow_le_pow_right (by omega) h2
          omega
        have hcd := HCH.out _ (data_mem g k hltk)
        obtain ⟨y, hy⟩ : ∃ y, y = g[k].toNat - 48 := ⟨_, rfl⟩
        have hyI : ((g[k].toNat : Int) - 48) = (y : Int) := by omega
        have hyb : y < 10 := by omega
        have hnx : dval (undig (g.data.toList.take (k + 1))) = vv * 10 + y := by
          rw [data_take g k hltk, dval_undig_snoc, ← HVV.out, ← hy]; omega
        have HNX := Lib.hid hnx
        obtain ⟨c1, c2⟩ := hcd
        clear hvv hy hnx
        gi_wp2
        go_roundw
        case rel => exact ⟨⟨k + 1, by omega, by go_num, by rw [HNX.out]; congr 1⟩, trivial⟩
        case measure => simp [intOf] <;> omega
      · have hkg : k = g.size := by omega
        have hval : vv = grp t x := by rw [hvv, hkg, List.take_of_length_le (by rw [data_len]; omega)]; exact HGV.out.symm
        have HVAL := Lib.hid hval
        have hcell := HBX.out.cell1
        clear hvv hkg hval
        have hpm : pre.length < 100000 := by omega
        obtain ⟨pl, hpl⟩ : ∃ pl, pl = pre.length := ⟨_, rfl⟩
        have HROW1 := HROW.out
        rw [← hpl] at hpm HROW1
        have HROW2 := Lib.hid HROW1
        have HPL := Lib.hid hpl
        clear HROW1 hpl
        gi_wp2_with (gi_at_builtin; refine wpListIn_append_own _ rfl (.tmp 33) (.tmp 35) 83 rfl (w.heap.size + 3) 101 i0 (.int .u32 0) 1 4 Try.underlying83 hi hz0 hz1 hz2 rfl (by decide) _ _ _ rfl (HROW2.out.alloc _) ⟨wr.heap.size, 0, none⟩ 1 1 [.int .u32 (vv : Int)] rfl rfl (cell_one_new _ _ _) (by simp [Value.oneCell']) ?c3 ?c4 ?c5 ?_)
        case c3 => unfold maxLen; omega
        case c4 => omega
        case c5 => simp; omega
        intro v' w1 hown' hgrow _
        obtain ⟨g', cap', rfl⟩ := ownsRow_succ hown'
        have hnb : ∀ B, B < w.heap.size + 3 → some B ≠ v.ownBlock := fun B hB e => by have := (HROW2.out.lt B e.symm).1; omega
        have bx1 : Box2 w1 (w.heap.size + 1) true v := (HBX.out.alloc _).kept hgrow (hnb _ (by omega))
        have hc1 := bx1.cell1
        have hf1 := bx1.frozen 1
        have hnb2 : w1.grownBy (w1.setCell ⟨w.heap.size + 1, 1, none⟩ (.slice (some ⟨g', 0, none⟩) (pl + 1) cap')) (some (w.heap.size + 1)) := only_setCell (only_refl _ _) (.inl rfl) _
        have BX2 := Lib.hid (bx1.set1 (.slice (some ⟨g', 0, none⟩) (pl + 1) cap'))
        have ho2 := hown'.kept hnb2 (.inr (fun e => by have := (hown'.lt _ e).1; omega))
        rw [nums_snoc, HVAL.out, show List.map (grp t) pre ++ [grp t x] = List.map (grp t) (pre ++ [x]) by simp, HPL.out] at ho2
        have HO2 := Lib.hid ho2
        have RES2 : Hid (Box2 (w1.setCell ⟨w.heap.size + 1, 1, none⟩ (.slice (some ⟨g', 0, none⟩) (pl + 1) cap')) w.heap.size false (.slice none 0 0)) := ((HRES.out.alloc _).kept hgrow (hnb _ (by omega))).other (by show w.heap.size ≠ w.heap.size + 1; omega) _
        have BL1 : Below w.heap.size w w1 := (HBL.out.alloc HBL.out.size _).grown hgrow (by simp; omega) (fun k hk => by have := (HROW2.out.lt k hk).1; omega)
        have BL2 : Hid (Below w.heap.size w (w1.setCell ⟨w.heap.size + 1, 1, none⟩ (.slice (some ⟨g', 0, none⟩) (pl + 1) cap'))) := BL1.setCell (p := ⟨w.heap.size + 1, 1, none⟩) (by show w.heap.size ≤ w.heap.size + 1; omega) _
        have SZ2 : Hid (w.heap.size + 3 ≤ (w1.setCell ⟨w.heap.size + 1, 1, none⟩ (.slice (some ⟨g', 0, none⟩) (pl + 1) cap')).heap.size) := by
          have := hgrow.size; simp at this; show _ ≤ _; simp [World.setCell]; omega
        have KF2 : Hid (KeepsFrom W0.heap.size wr (w1.setCell ⟨w.heap.size + 1, 1, none⟩ (.slice (some ⟨g', 0, none⟩) (pl + 1) cap'))) := by
          refine KeepsOthers.from (((KeepsOthers.alloc wr _).trans (KeepsOthers.of_grownBy hgrow fun j o ej hj => ?_)).trans (KeepsOthers.setCell _ _ _)) _
          rcases (HROW2.out.alloc (.cells #[.int .u32 (vv : Int)] 101)).2 with ⟨rfl, _⟩ | ⟨g, cap, cur, rfl, _, hgb, _⟩
          · simp [Value.ownBlock] at ej
          · obtain rfl : g = j := by simpa [Value.ownBlock] using ej
            rw [hgb] at hj; cases hj; rfl
        have KB2 : Hid (KeepBox (w.heap.size + 2) wr (w1.setCell ⟨w.heap.size + 1, 1, none⟩ (.slice (some ⟨g', 0, none⟩) (pl + 1) cap'))) := by
          show _ = _
          rw [Below.heap_setCell w1 ⟨w.heap.size + 1, 1, none⟩ _ (w.heap.size + 2) (by show w.heap.size + 2 ≠ w.heap.size + 1; omega), hgrow.block (w.heap.size + 2) (by simp; omega) (hnb _ (by omega)), Below.heap_alloc wr _ _ (by omega)]
        clear hown' hgrow bx1 hnb hnb2 ho2 BL1
        gi_wp2
        refine ⟨KF2.out, KB2.out, ⟨⟨_, BX2.out, ?_⟩, RES2.out, BL2.out, SZ2.out⟩⟩
        rw [List.length_append, ← HPL.out]
        have := HO2.out
        rw [← HPL.out] at this
        exact this
  case done =>
    rintro D ys W hD rfl ⟨⟨v, hbx, hrow⟩, hres, hbl, hbs⟩ hK
    rw [List.length_range] at hrow
    have hval : val ((List.range m).map (grp t)) = N := groups_sum t N m hN (by omega) (by omega)
    have htr := trim_own hrow (by omega) (by
      intro x hx
      obtain ⟨k, _, rfl⟩ := List.mem_map.1 hx
      exact grp_lt t k HDG.out)
    rw [hval] at htr
    have HTR := Lib.hid htr
    have hc1 := hbx.cell1
    have hf1 := hbx.frozen 1
    have HBX := Lib.hid hbx
    have HRES := Lib.hid hres
    have HBL := Lib.hid hbl
    have HK := Lib.hid hK
    clear htr hval hrow hbx hres hbl hK
    gi_wp2_with (gi_at_call 62; refine (callsIn_wide.2 HTR.out).mono ?_; rintro e w' ⟨⟨v2, l2, rfl, ho2, hr2⟩, rfl⟩; obtain ⟨a2, c2, rfl, hl2, hlc2, hn2⟩ := nums_of_owns ho2; obtain ⟨k2, hk2⟩ : ∃ k2, k2 = l2.length := ⟨_, rfl⟩; rw [← hk2] at ho2 hlc2 ⊢; have HO2 := Lib.hid ho2; have HR2 := Lib.hid hr2; have HN2 := Lib.hid hn2; have HK2 := Lib.hid hk2; have hx2 : Box2 (W.setCell ⟨w.heap.size + 1, 1, none⟩ (.slice a2 k2 c2)) (w.heap.size + 1) true (.slice a2 k2 c2) := HBX.out.set1 _; have hy2 : Box2 (W.setCell ⟨w.heap.size + 1, 1, none⟩ (.slice a2 k2 c2)) w.heap.size false (.slice none 0 0) := HRES.out.other (by show w.heap.size ≠ w.heap.size + 1; omega) _; have e0 := hx2.cell0; have e1 := hx2.cell1; have e2 := hy2.cell0; have e3 := hy2.cell1; have e4 := hy2.frozen 0; have e5 := hy2.frozen 1; have HY2 := Lib.hid hy2; clear ho2 hr2 hn2 hl2 hk2 hx2 hy2)
    have hr3 : Box2 (((W.setCell ⟨w.heap.size + 1, 1, none⟩ (.slice a2 k2 c2)).setCell ⟨w.heap.size, 0, none⟩ (.bool true)).setCell ⟨w.heap.size, 1, none⟩ (.slice a2 k2 c2)) w.heap.size true (.slice a2 k2 c2) := (HY2.out.set0 true).set1 _
    obtain ⟨FW, hFW⟩ : ∃ FW, FW = ((W.setCell ⟨w.heap.size + 1, 1, none⟩ (.slice a2 k2 c2)).setCell ⟨w.heap.size, 0, none⟩ (.bool true)).setCell ⟨w.heap.size, 1, none⟩ (.slice a2 k2 c2) := ⟨_, rfl⟩
    have hKf : FW.heap[D]? = some (.deferred (some [])) := by
      rw [hFW, Below.heap_setCell _ ⟨w.heap.size, 1, none⟩ _ D (by show D ≠ w.heap.size; omega), Below.heap_setCell _ ⟨w.heap.size, 0, none⟩ _ D (by show D ≠ w.heap.size; omega), Below.heap_setCell _ ⟨w.heap.size + 1, 1, none⟩ _ D (by show D ≠ w.heap.size + 1; omega)]
      exact HK.out
    have hbF : Below w.heap.size w FW := by rw [hFW]; exact ((HBL.out.setCell (p := ⟨w.heap.size + 1, 1, none⟩) (by show w.heap.size ≤ w.heap.size + 1; omega) _).setCell (p := ⟨w.heap.size, 0, none⟩) (Nat.le_refl _) _).setCell (p := ⟨w.heap.size, 1, none⟩) (Nat.le_refl _) _
    have hoF : FW.ownsRow (w.heap.size + 3) 101 1 (.slice a2 k2 c2) k2 (nums .u32 l2) := by
      have hne : ∀ B, B < w.heap.size + 3 → (Value.slice a2 k2 c2).ownBlock = none ∨ (Value.slice a2 k2 c2).ownBlock ≠ some B := fun B hB => .inr (fun e => by have := (HO2.out.lt B e).1; omega)
      rw [hFW]
      exact ((HO2.out.kept (only_setCell (only_refl _ (some (w.heap.size + 1))) (.inl rfl) _) (hne _ (by omega))).kept (only_setCell (only_refl _ (some w.heap.size)) (.inl rfl) _) (hne _ (by omega))).kept (only_setCell (only_refl _ (some w.heap.size)) (.inl rfl) _) (hne _ (by omega))
    rw [← hFW] at hr3 ⊢
    have hrP : Box2 (FW.putObj D (.deferred none)) w.heap.size true (.slice a2 k2 c2) := hr3.kept (grownBy_putObj' FW D (.deferred none)) (fun e => by injection e with e; omega)
    have hoP := ownsRow_putObj hoF (.deferred none) hKf rfl
    have hbP : Below w.heap.size w (FW.putObj D (.deferred none)) := hbF.grown (grownBy_putObj' FW D (.deferred none)) hbF.size (fun k e => by injection e with e; omega)
    refine ⟨by simp, .inl ⟨_, _, rfl, run_takeDeferred hKf, ?_⟩⟩
    have q0 := hrP.cell0
    have q1 := hrP.cell1
    refine ⟨.agg #[.bool true, .slice a2 k2 c2], ?_, a2, c2, l2, ?_, by have := HK2.out; omega, by rw [← HK2.out]; exact owns_base hoP (by omega), by rw [Int.natAbs_neg, Int.natAbs_natCast]; exact HR2.out, hbP⟩
    · simp [results, Try.results59, go_sem, q0, q1]
    · rw [HK2.out]; simp; exact hNp
  case stop =>
    rintro D c pre W _ _ h _
    exact h.elim

/-- read, at every canonical integer. -/
theorem read_any (s : ByteArray) (z : Int) (w : World) (hs : s.size ≤ 100000) (hz : s.data.toList = txtZ z) : Calls Try.prog 59 #[.string s] w (ReadPost w z) := by
  by_cases h : z < 0
  · have e : txtZ z = 45 :: txtN z.natAbs := by unfold txtZ; rw [if_pos h]
    have h0 : 0 < s.size := by rw [← data_len, hz, e]; simp
    have h1 : ((s[0].toNat : Int) == 45) = true := by
      have := data_head s h0
      rw [hz, e] at this
      injection this with this
      rw [← this]; rfl
    have ht : (s.extract 1 s.size).data.toList = txtN z.natAbs := by rw [tail_data, hz, e]; rfl
    have := read_neg s (s.extract 1 s.size) w (by simp; omega) z.natAbs ht (by omega) h0 h1 rfl
    rwa [show -((z.natAbs : Nat) : Int) = z by omega] at this
  · have e : txtZ z = txtN z.natAbs := by unfold txtZ; rw [if_neg h]
    have h0 : 0 < s.size := by rw [← data_len, hz, e]; exact List.length_pos_iff.2 (txtN_ne _)
    have h1 : ((s[0].toNat : Int) == 45) = false := by
      have := data_head s h0
      rw [hz, e] at this
      rw [beq_eq_false_iff_ne]
      intro h2
      have h3 := u8_eq (c := s[0]) (n := 45) h2 (by omega)
      rw [h3] at this
      exact txtN_head _ this
    have := read_pos s w hs z.natAbs (by rw [hz, e]) h0 h1
    rwa [show ((z.natAbs : Nat) : Int) = z by omega] at this

end Go.Proofs.Ytnmiiimbjojcmaa
