/-
  The program's read: the magnitude of a text. No condition. The program's pair and Gcd. No condition. The program's Gcd. No condition.
-/
import Derived.Test.YtdgmpgejemgbbaaGreatDoorVk
import Derived.Outline
import Derived.RegionIn
import Derived.Test.YtdgmpgejemgbbaaGreatDoorVg
import Derived.RegionTactic
namespace Go.Proofs.YtdgmpgejemgbbaaGreatDoor
open Go.RowKit Go.Shelf

attribute [local go_sem] Oper.semAt_some

theorem dval_undig_snoc (l : List UInt8) (c : UInt8) : dval (undig (l ++ [c])) = (c.toNat - 48) + 10 * dval (undig l) := by
  unfold undig; simp [dval]
theorem groups_val (D : List Nat) (m : Nat) : val ((List.range m).map fun k => dval ((D.drop (9 * k)).take 9)) + Bs ^ m * dval (D.drop (9 * m)) = dval D := by
  induction m with
  | zero => simp [val]
  | succ m ih =>
    rw [List.range_succ, List.map_append, List.map_cons, List.map_nil, val_snoc, List.length_map, List.length_range]
    have h1 := dval_split (D.drop (9 * m)) 9
    rw [List.drop_drop, show 9 * m + 9 = 9 * (m + 1) by omega] at h1
    rw [h1] at ih
    rw [Nat.pow_succ]
    have hB : Bs = 10 ^ 9 := rfl
    rw [← hB] at ih
    generalize val ((List.range m).map fun k => dval ((D.drop (9 * k)).take 9)) = V at *
    generalize dval ((D.drop (9 * m)).take 9) = x at *
    generalize dval (D.drop (9 * (m + 1))) = y at *
    generalize Bs ^ m = P at *
    generalize Bs = b at *
    grind
theorem undig_extract (T : List UInt8) (k : Nat) (h : 9 * k ≤ T.length) : undig ((T.drop (T.length - 9 * (k + 1))).take (T.length - 9 * k - (T.length - 9 * (k + 1)))) = ((undig T).drop (9 * k)).take 9 := by
  unfold undig
  rw [← List.map_drop, ← List.map_take]
  congr 1
  apply List.ext_getElem?
  intro i
  have hlen : ((T.drop (T.length - 9 * (k + 1))).take (T.length - 9 * k - (T.length - 9 * (k + 1)))).length = T.length - 9 * k - (T.length - 9 * (k + 1)) := by
    rw [List.length_take, List.length_drop]; omega
  by_cases hi : i < T.length - 9 * k - (T.length - 9 * (k + 1))
  · rw [List.getElem?_reverse (by omega), hlen, List.getElem?_take_of_lt (by omega), List.getElem?_drop, List.getElem?_take_of_lt (by omega), List.getElem?_drop, List.getElem?_reverse (by omega)]
    congr 1; omega
  · rw [List.getElem?_eq_none (by rw [List.length_reverse, hlen]; omega), List.getElem?_eq_none]
    rw [List.length_take, List.length_drop, List.length_reverse]; omega
theorem rep_trim_of {l : List Nat} {N : Nat} {k : Nat} (h : Rep (l.take k) (val l)) (e : val l = N) : Rep (l.take k) N := e ▸ h

/-- The value of a group. -/
def grp (t : ByteArray) (k : Nat) : Nat := dval (undig (chunk t k).data.toList)
/-- Block B is the number, with its sign and groups. -/
def Box2 (W : World) (B : Nat) (neg : Bool) (v : Value) : Prop := W.heap[B]? = some (.cells #[.bool neg, v] 121 (0, 0))
theorem Box2.lt {W : World} {B : Nat} {neg : Bool} {v : Value} (h : Box2 W B neg v) : B < W.heap.size := (Array.getElem?_eq_some_iff.1 h).1
theorem Box2.cell0 {W : World} {B : Nat} {neg : Bool} {v : Value} (h : Box2 W B neg v) : W.cell? ⟨B, 0, none⟩ = some (.bool neg) := by
  simp [World.cell?, show W.heap[B]? = _ from h]
theorem Box2.cell1 {W : World} {B : Nat} {neg : Bool} {v : Value} (h : Box2 W B neg v) : W.cell? ⟨B, 1, none⟩ = some v := by
  simp [World.cell?, show W.heap[B]? = _ from h]
theorem Box2.frozen {W : World} {B : Nat} {neg : Bool} {v : Value} (h : Box2 W B neg v) (i : Nat) : W.frozen? ⟨B, i, none⟩ = false := by
  simp [World.frozen?, show W.heap[B]? = _ from h]
theorem Box2.kept {W W' : World} {row : Option Nat} {B : Nat} {neg : Bool} {v : Value} (h : Box2 W B neg v) (hg : W.grownBy W' row) (hne : some B ≠ row) : Box2 W' B neg v := (hg.block B h.lt hne).trans h
theorem Box2.alloc {W : World} {B : Nat} {neg : Bool} {v : Value} (h : Box2 W B neg v) (o : Obj) : Box2 (W.alloc o) B neg v := h.kept (World.grownBy_alloc W o none) (by simp)
theorem Box2.set1 {W : World} {B : Nat} {neg : Bool} {v : Value} (v' : Value) (h : Box2 W B neg v) : Box2 (W.setCell ⟨B, 1, none⟩ v') B neg v' := by
  unfold Box2 at h ⊢
  simp only [World.setCell, Array.getElem?_modify]
  simp [h]
theorem Box2.set0 {W : World} {B : Nat} {neg : Bool} {v : Value} (b : Bool) (h : Box2 W B neg v) : Box2 (W.setCell ⟨B, 0, none⟩ (.bool b)) B b v := by
  unfold Box2 at h ⊢
  simp only [World.setCell, Array.getElem?_modify]
  simp [h]
theorem Box2.other {W : World} {B : Nat} {neg : Bool} {v : Value} (h : Box2 W B neg v) {a : Addr} (ha : B ≠ a.block) (u : Value) : Box2 (W.setCell a u) B neg v := (Below.heap_setCell W a u B ha).trans h
theorem Box2.drewN {W : World} {B : Nat} {neg : Bool} {v : Value} (h : Box2 W B neg v) (n : Nat) : Box2 (W.drewN n) B neg v := h
theorem chunk_list (t : ByteArray) (k : Nat) (h : 9 * k ≤ t.size) : undig (chunk t k).data.toList = ((undig t.data.toList).drop (9 * k)).take 9 := by
  unfold chunk
  rw [Lib.extract_data]
  have := undig_extract t.data.toList k (by rw [data_len]; exact h)
  rw [data_len] at this
  exact this
theorem grp_lt (t : ByteArray) (k : Nat) (h : ∀ c ∈ t.data.toList, 48 ≤ c.toNat ∧ c.toNat ≤ 57) : grp t k < Bs := by
  have hd : ∀ c ∈ (chunk t k).data.toList, 48 ≤ c.toNat ∧ c.toNat ≤ 57 := fun c hc => by
    unfold chunk at hc
    rw [Lib.extract_data] at hc
    exact h c (List.mem_of_mem_drop (List.mem_of_mem_take hc))
  have h1 := dval_lt (undig (chunk t k).data.toList) (undig_lt _ hd)
  have h2 : (undig (chunk t k).data.toList).length ≤ 9 := by
    unfold undig chunk; rw [List.length_map, List.length_reverse, data_len]; simp; omega
  have h3 : 10 ^ (undig (chunk t k).data.toList).length ≤ 10 ^ 9 := Nat.pow_le_pow_right (by omega) h2
  have h4 : Bs = 10 ^ 9 := rfl
  unfold grp; omega
theorem groups_sum (t : ByteArray) (N m : Nat) (hN : t.data.toList = txtN N) (h1 : t.size ≤ 9 * m) (h2 : 9 * m < t.size + 9) : val ((List.range m).map (grp t)) = N := by
  have h := groups_val (undig t.data.toList) m
  have hl : (undig t.data.toList).length = t.size := by unfold undig; rw [List.length_map, List.length_reverse, data_len]
  rw [List.drop_eq_nil_of_le (by omega)] at h
  have e : (List.range m).map (grp t) = (List.range m).map fun k => dval (((undig t.data.toList).drop (9 * k)).take 9) := by
    refine List.map_congr_left fun k hk => ?_
    have := List.mem_range.1 hk
    unfold grp
    rw [chunk_list t k (by omega)]
  rw [e]
  have hv : dval (undig t.data.toList) = N := by rw [hN, undig_txtN, dval_decN]
  rw [hv] at h
  simpa [dval] using h
/-- What read hands back. -/
def ReadPost (w : World) (z : Int) (e : Ending) (w' : World) : Prop :=
  ∃ a c l, e = .returned (.agg #[.bool (decide (z < 0)), .slice a (l : List Nat).length c]) ∧ l.length ≤ c ∧ w'.ownsRow w.heap.size 133 1 (.slice a l.length c) l.length (nums .u32 l) ∧ Rep l z.natAbs ∧ Below w.heap.size w w'
theorem owns_base {w : World} {B B' e n : Nat} {v : Value} {xs : List Value} (h : w.ownsRow B e 1 v n xs) (hB : B' ≤ B) : w.ownsRow B' e 1 v n xs := by
  obtain ⟨h1, h2⟩ := h
  refine ⟨h1, ?_⟩
  rcases h2 with h | ⟨g, cap, cur, e1, e2, e3⟩
  · exact .inl h
  · exact .inr ⟨g, cap, cur, e1, Nat.le_trans hB e2, e3⟩

/-- Between two groups. -/
def ReadI (w : World) (neg : Bool) (t : ByteArray) (pre : List Nat) (W : World) : Prop :=
  (∃ v, Box2 W (w.heap.size + 1) neg v ∧ W.ownsRow (w.heap.size + 3) 133 1 v pre.length (nums .u32 (pre.map (grp t)))) ∧ Box2 W w.heap.size false (.slice none 0 0) ∧ Below w.heap.size w W ∧ w.heap.size + 3 ≤ W.heap.size
theorem readI_start (w : World) (neg : Bool) (t : ByteArray) (W0 : World) (h1 : Box2 W0 w.heap.size false (.slice none 0 0)) (h2 : Box2 W0 (w.heap.size + 1) neg (.slice none 0 0)) (h3 : Below w.heap.size w W0) (h4 : w.heap.size + 3 ≤ W0.heap.size) : ReadI w neg t [] W0 :=
  ⟨⟨_, h2, World.ownsRow_nil _ _ _ _⟩, h1, h3, h4⟩
theorem box2_row {W : World} {B : Nat} {neg : Bool} {v : Value} (h : Box2 W B neg v) {row : Option Nat} {C : Nat} (hr : ∀ r, row = some r → C ≤ r ∧ ∃ o : Obj, W.heap[r]? = some o ∧ o.isCells = false) : some B ≠ row := by
  intro e
  obtain ⟨_, o, ho, hc⟩ := hr B e.symm
  rw [show W.heap[B]? = _ from h] at ho
  injection ho with ho
  subst ho
  cases hc
theorem owns_row {W : World} {base e n : Nat} {v : Value} {xs : List Value} (h : W.ownsRow base e 1 v n xs) {row : Option Nat} {C : Nat} (hr : ∀ r, row = some r → C ≤ r ∧ ∃ o : Obj, W.heap[r]? = some o ∧ o.isCells = false) : v.ownBlock = none ∨ v.ownBlock ≠ row := by
  rcases h.2 with ⟨rfl, _⟩ | ⟨g, cap, cur, rfl, _, hg, _⟩
  · exact .inl rfl
  · right
    intro e
    obtain ⟨_, o, ho, hc⟩ := hr g e.symm
    rw [hg] at ho
    injection ho with ho
    subst ho
    cases hc
theorem readI_own (w : World) (neg : Bool) (t : ByteArray) (W0 : World) (hB : w.heap.size ≤ W0.heap.size) : OwnFrom W0.heap.size (ReadI w neg t) := by
  intro s W W' row ⟨⟨v, h1, h2⟩, h3, h4, h5⟩ hg hr
  exact ⟨⟨v, h1.kept hg (box2_row h1 hr), h2.kept hg (owns_row h2 hr)⟩, h3.kept hg (box2_row h3 hr), h4.grown hg h4.size (fun k hk => by have := (hr k hk).1; omega), Nat.le_trans h5 hg.size⟩

set_option maxHeartbeats 4000000 in
set_option maxRecDepth 100000 in
theorem read_pos (s : ByteArray) (w : World) (hs : s.size ≤ 100000) (N : Nat) (hN : s.data.toList = txtN N) (h0 : 0 < s.size) (h1 : ((s[0].toNat : Int) == 45) = false) :
    Calls Tryz.prog 88 #[.string s] w (ReadPost w N) := by
  refine (callsIn_wide (n := 6)).1 ?_
  refine callsIn_of_wp_marks Tryz.func88 rfl trivial ?_ rfl
  simp only [Tryz.ntmps88, List.size_toArray, List.length_cons, List.length_nil, Nat.reduceAdd, Nat.reduceSub, Array.replicate_succ, Array.replicate_zero, List.push_toArray, List.append_toArray, List.nil_append, List.cons_append]
  have hT : ∀ f, Fence.wide.fn f := fun _ => trivial
  gi_wp2_with (gi_at_call 98; refine (groups_in Fence.wide _ trivial rfl _ _).mono ?_; rintro e w' ⟨rfl, rfl⟩)
  obtain ⟨W0, hW0⟩ : ∃ W0, W0 = ((w.alloc (.cells #[.bool false, .slice none 0 0] 121)).alloc (.cells #[.bool false, .slice none 0 0] 121)).alloc (.cells #[.string s] 9) := ⟨_, rfl⟩
  have hsz : W0.heap.size = w.heap.size + 3 := by rw [hW0]; simp
  have hR0 : Box2 W0 w.heap.size false (.slice none 0 0) := by rw [hW0]; exact Box2.alloc (Box2.alloc (show Box2 (w.alloc (.cells #[.bool false, .slice none 0 0] 121)) w.heap.size false (.slice none 0 0) from World.alloc_heap_new w _) _) _
  have hB0 : Box2 W0 (w.heap.size + 1) false (.slice none 0 0) := by
    rw [hW0]
    refine Box2.alloc ?_ _
    have := World.alloc_heap_new (w.alloc (.cells #[.bool false, .slice none 0 0] 121)) (.cells #[.bool false, .slice none 0 0] 121)
    rw [World.size_alloc] at this
    exact this
  have hS0 : Boxed W0 (w.heap.size + 2) 9 (.string s) := by
    rw [hW0]
    have := Boxed.new ((w.alloc (.cells #[.bool false, .slice none 0 0] 121)).alloc (.cells #[.bool false, .slice none 0 0] 121)) 9 (.string s)
    rw [World.size_alloc, World.size_alloc] at this
    exact this
  have hbel : Below w.heap.size w W0 := by rw [hW0]; exact (((Below.refl _ w).alloc (Nat.le_refl _) _).alloc (by simp) _).alloc (by simp; omega) _
  rw [← hW0]
  clear hW0
  have HDG : Hid (∀ c ∈ s.data.toList, 48 ≤ c.toNat ∧ c.toNat ≤ 57) := by show ∀ c ∈ _, _; rw [hN]; exact txtN_dig N
  have hsz2 := Lib.hid hsz
  obtain ⟨i0, hi, hz0, hz1, hz2⟩ := info_parts infoU32
  obtain ⟨m, hm1, hm2⟩ : ∃ m, s.size ≤ 9 * m ∧ 9 * m < s.size + 9 := ⟨(s.size + 8) / 9, by omega, by omega⟩
  refine wpIn_rangeFunc_ownG rfl (by omega) (gf := 103) (lb := #[.pointer (some ⟨w.heap.size + 2, 0, none⟩)]) rfl trivial (enters_of Tryz.func103 (by kernel_rfl) rfl)
    (groups_stops Fence.wide _ trivial rfl (by omega) (w.heap.size + 2) m s (by omega) hm1 hm2 W0 hS0) keepBox_t (keepBox_b (by omega)) (Below.refl _ _) (fun _ => rfl)
    (ReadI w false s) (fun _ _ _ => False) (readI_own w false s W0 (by omega)) (fun _ _ _ _ _ hs _ _ => hs) (readI_start w false s W0 hR0 hB0 hbel (by omega)) ?a1 ?assign ?body ?done ?stop
  case assign =>
    intro l x W K hK
    gi_wp2
    exact hK
  case body =>
    rintro l pre x W ⟨⟨v, hbx, hrow⟩, hres, hbl, hbs⟩ hlt
    have hch : ∀ c ∈ (chunk s x).data.toList, 48 ≤ c.toNat ∧ c.toNat ≤ 57 := fun c hc => by
      unfold chunk at hc
      rw [Lib.extract_data] at hc
      exact HDG.out c (List.mem_of_mem_drop (List.mem_of_mem_take hc))
    have hcs : (chunk s x).size ≤ 9 := by unfold chunk; simp; omega
    obtain ⟨g, hg⟩ : ∃ g, g = chunk s x := ⟨_, rfl⟩
    have hgv : grp s x = dval (undig g.data.toList) := by rw [hg]; rfl
    rw [← hg] at hch hcs ⊢
    have HCH := Lib.hid hch
    have HGV := Lib.hid hgv
    have HRES := Lib.hid hres
    have HBL := Lib.hid hbl
    have HROW := Lib.hid hrow
    have HBX := Lib.hid hbx
    have hT2 : ∀ f, (Fence.wide.inRound l).fn f := fun _ => trivial
    clear hg hgv hch hres hbl hrow hbx hT
    gi_wp2
    gi_loopw [6, 20] (fun vv iv wr => (∃ k : Nat, k ≤ g.size ∧ iv = .int .i64 k ∧ vv = .int .u32 (dval (undig (g.data.toList.take k)) : Nat)) ∧ wr = W) (fun _ iv _ => g.size - (intOf iv).toNat)
    case atStart => exact ⟨⟨0, Nat.zero_le _, rfl, by simp [undig, dval]⟩, rfl⟩
    case round =>
      obtain ⟨⟨k, hk, rfl, rfl⟩, rfl⟩ := hrel
      obtain ⟨vv, hvv⟩ : ∃ vv, vv = dval (undig (g.data.toList.take k)) := ⟨_, rfl⟩
      rw [← hvv]
      have HVV := Lib.hid hvv
      by_cases hltk : k < g.size
      · have hvb : vv < 100000000 := by
          rw [hvv]
          have h1 := dval_lt (undig (g.data.toList.take k)) (undig_lt _ (fun c hc => HCH.out c (List.mem_of_mem_take hc)))
          have h2 : (undig (g.data.toList.take k)).length ≤ 8 := by unfold undig; rw [List.length_map, List.length_reverse, List.length_take]; omega
          have h3 : 10 ^ (undig (g.data.toList.take k)).length ≤ 10 ^ 8 := Nat.pow_le_pow_right (by omega) h2
          omega
        have hcd := HCH.out _ (data_mem g k hltk)
        obtain ⟨y, hy⟩ : ∃ y, y = g[k].toNat - 48 := ⟨_, rfl⟩
        have hyI : ((g[k].toNat : Int) - 48) = (y : Int) := by omega
        have hyb : y < 10 := by omega
        have hnx : dval (undig (g.data.toList.take (k + 1))) = vv * 10 + y := by
          rw [data_take g k hltk, dval_undig_snoc, ← HVV.out, ← hy]; omega
        have HNX := Lib.hid hnx
        obtain ⟨c1, c2⟩ := hcd
        clear hvv hy hnx
        gi_wp2
        go_roundw
        case rel => exact ⟨⟨k + 1, by omega, by go_num, by rw [HNX.out]; congr 1⟩, trivial⟩
        case measure => simp [intOf] <;> omega
      · have hkg : k = g.size := by omega
        have hval : vv = grp s x := by rw [hvv, hkg, List.take_of_length_le (by rw [data_len]; omega)]; exact HGV.out.symm
        have HVAL := Lib.hid hval
        have hcell := HBX.out.cell1
        clear hvv hkg hval
        have hpm : pre.length < 100000 := by omega
        obtain ⟨pl, hpl⟩ : ∃ pl, pl = pre.length := ⟨_, rfl⟩
        have HROW1 := HROW.out
        rw [← hpl] at hpm HROW1
        have HROW2 := Lib.hid HROW1
        have HPL := Lib.hid hpl
        clear HROW1 hpl
        gi_wp2_with (gi_at_builtin; refine wpListIn_append_own _ rfl (.tmp 33) (.tmp 35) 119 rfl (w.heap.size + 3) 133 i0 (.int .u32 0) 1 4 Tryz.underlying119 hi hz0 hz1 hz2 rfl (by decide) _ _ _ rfl (HROW2.out.alloc _) ⟨wr.heap.size, 0, none⟩ 1 1 [.int .u32 (vv : Int)] rfl rfl (cell_one_new _ _ _) (by simp [Value.oneCell']) ?c3 ?c4 ?c5 ?_)
        case c3 => unfold maxLen; omega
        case c4 => omega
        case c5 => simp; omega
        intro v' w1 hown' hgrow _
        obtain ⟨g', cap', rfl⟩ := ownsRow_succ hown'
        have hnb : ∀ B, B < w.heap.size + 3 → some B ≠ v.ownBlock := fun B hB e => by have := (HROW2.out.lt B e.symm).1; omega
        have bx1 : Box2 w1 (w.heap.size + 1) false v := (HBX.out.alloc _).kept hgrow (hnb _ (by omega))
        have hc1 := bx1.cell1
        have hf1 := bx1.frozen 1
        have hnb2 : w1.grownBy (w1.setCell ⟨w.heap.size + 1, 1, none⟩ (.slice (some ⟨g', 0, none⟩) (pl + 1) cap')) (some (w.heap.size + 1)) := only_setCell (only_refl _ _) (.inl rfl) _
        have BX2 := Lib.hid (bx1.set1 (.slice (some ⟨g', 0, none⟩) (pl + 1) cap'))
        have ho2 := hown'.kept hnb2 (.inr (fun e => by have := (hown'.lt _ e).1; omega))
        rw [nums_snoc, HVAL.out, show List.map (grp s) pre ++ [grp s x] = List.map (grp s) (pre ++ [x]) by simp, HPL.out] at ho2
        have HO2 := Lib.hid ho2
        have RES2 : Hid (Box2 (w1.setCell ⟨w.heap.size + 1, 1, none⟩ (.slice (some ⟨g', 0, none⟩) (pl + 1) cap')) w.heap.size false (.slice none 0 0)) := ((HRES.out.alloc _).kept hgrow (hnb _ (by omega))).other (by show w.heap.size ≠ w.heap.size + 1; omega) _
        have BL1 : Below w.heap.size w w1 := (HBL.out.alloc HBL.out.size _).grown hgrow (by simp; omega) (fun k hk => by have := (HROW2.out.lt k hk).1; omega)
        have BL2 : Hid (Below w.heap.size w (w1.setCell ⟨w.heap.size + 1, 1, none⟩ (.slice (some ⟨g', 0, none⟩) (pl + 1) cap'))) := BL1.setCell (p := ⟨w.heap.size + 1, 1, none⟩) (by show w.heap.size ≤ w.heap.size + 1; omega) _
        have SZ2 : Hid (w.heap.size + 3 ≤ (w1.setCell ⟨w.heap.size + 1, 1, none⟩ (.slice (some ⟨g', 0, none⟩) (pl + 1) cap')).heap.size) := by
          have := hgrow.size; simp at this; show _ ≤ _; simp [World.setCell]; omega
        have KF2 : Hid (KeepsFrom W0.heap.size wr (w1.setCell ⟨w.heap.size + 1, 1, none⟩ (.slice (some ⟨g', 0, none⟩) (pl + 1) cap'))) := by
          refine KeepsOthers.from (((KeepsOthers.alloc wr _).trans (KeepsOthers.of_grownBy hgrow fun j o ej hj => ?_)).trans (KeepsOthers.setCell _ _ _)) _
          rcases (HROW2.out.alloc (.cells #[.int .u32 (vv : Int)] 133)).2 with ⟨rfl, _⟩ | ⟨g, cap, cur, rfl, _, hgb, _⟩
          · simp [Value.ownBlock] at ej
          · obtain rfl : g = j := by simpa [Value.ownBlock] using ej
            rw [hgb] at hj; cases hj; rfl
        have KB2 : Hid (KeepBox (w.heap.size + 2) wr (w1.setCell ⟨w.heap.size + 1, 1, none⟩ (.slice (some ⟨g', 0, none⟩) (pl + 1) cap'))) := by
          show _ = _
          rw [Below.heap_setCell w1 ⟨w.heap.size + 1, 1, none⟩ _ (w.heap.size + 2) (by show w.heap.size + 2 ≠ w.heap.size + 1; omega), hgrow.block (w.heap.size + 2) (by simp; omega) (hnb _ (by omega)), Below.heap_alloc wr _ _ (by omega)]
        clear hown' hgrow bx1 hnb hnb2 ho2 BL1
        gi_wp2
        refine ⟨KF2.out, KB2.out, ⟨⟨_, BX2.out, ?_⟩, RES2.out, BL2.out, SZ2.out⟩⟩
        rw [List.length_append, ← HPL.out]
        have := HO2.out
        rw [← HPL.out] at this
        exact this
  case done =>
    rintro D ys W hD rfl ⟨⟨v, hbx, hrow⟩, hres, hbl, hbs⟩ hK
    rw [List.length_range] at hrow
    have hval : val ((List.range m).map (grp s)) = N := groups_sum s N m hN (by omega) (by omega)
    have htr := trim_own hrow (by omega) (by
      intro x hx
      obtain ⟨k, _, rfl⟩ := List.mem_map.1 hx
      exact grp_lt s k HDG.out)
    rw [hval] at htr
    have HTR := Lib.hid htr
    have hc1 := hbx.cell1
    have hf1 := hbx.frozen 1
    have HBX := Lib.hid hbx
    have HRES := Lib.hid hres
    have HBL := Lib.hid hbl
    have HK := Lib.hid hK
    clear htr hval hrow hbx hres hbl hK
    gi_wp2_with (gi_at_call 91; refine (callsIn_wide.2 HTR.out).mono ?_; rintro e w' ⟨⟨v2, l2, rfl, ho2, hr2⟩, rfl⟩; obtain ⟨a2, c2, rfl, hl2, hlc2, hn2⟩ := nums_of_owns ho2; obtain ⟨k2, hk2⟩ : ∃ k2, k2 = l2.length := ⟨_, rfl⟩; rw [← hk2] at ho2 hlc2 ⊢; have HO2 := Lib.hid ho2; have HR2 := Lib.hid hr2; have HN2 := Lib.hid hn2; have HK2 := Lib.hid hk2; have hx2 : Box2 (W.setCell ⟨w.heap.size + 1, 1, none⟩ (.slice a2 k2 c2)) (w.heap.size + 1) false (.slice a2 k2 c2) := HBX.out.set1 _; have hy2 : Box2 (W.setCell ⟨w.heap.size + 1, 1, none⟩ (.slice a2 k2 c2)) w.heap.size false (.slice none 0 0) := HRES.out.other (by show w.heap.size ≠ w.heap.size + 1; omega) _; have e0 := hx2.cell0; have e1 := hx2.cell1; have e2 := hy2.cell0; have e3 := hy2.cell1; have e4 := hy2.frozen 0; have e5 := hy2.frozen 1; have HY2 := Lib.hid hy2; clear ho2 hr2 hn2 hl2 hk2 hx2 hy2)
    have hr3 : Box2 (((W.setCell ⟨w.heap.size + 1, 1, none⟩ (.slice a2 k2 c2)).setCell ⟨w.heap.size, 0, none⟩ (.bool false)).setCell ⟨w.heap.size, 1, none⟩ (.slice a2 k2 c2)) w.heap.size false (.slice a2 k2 c2) := (HY2.out.set0 false).set1 _
    obtain ⟨FW, hFW⟩ : ∃ FW, FW = ((W.setCell ⟨w.heap.size + 1, 1, none⟩ (.slice a2 k2 c2)).setCell ⟨w.heap.size, 0, none⟩ (.bool false)).setCell ⟨w.heap.size, 1, none⟩ (.slice a2 k2 c2) := ⟨_, rfl⟩
    have hKf : FW.heap[D]? = some (.deferred (some [])) := by
      rw [hFW, Below.heap_setCell _ ⟨w.heap.size, 1, none⟩ _ D (by show D ≠ w.heap.size; omega), Below.heap_setCell _ ⟨w.heap.size, 0, none⟩ _ D (by show D ≠ w.heap.size; omega), Below.heap_setCell _ ⟨w.heap.size + 1, 1, none⟩ _ D (by show D ≠ w.heap.size + 1; omega)]
      exact HK.out
    have hbF : Below w.heap.size w FW := by rw [hFW]; exact ((HBL.out.setCell (p := ⟨w.heap.size + 1, 1, none⟩) (by show w.heap.size ≤ w.heap.size + 1; omega) _).setCell (p := ⟨w.heap.size, 0, none⟩) (Nat.le_refl _) _).setCell (p := ⟨w.heap.size, 1, none⟩) (Nat.le_refl _) _
    have hoF : FW.ownsRow (w.heap.size + 3) 133 1 (.slice a2 k2 c2) k2 (nums .u32 l2) := by
      have hne : ∀ B, B < w.heap.size + 3 → (Value.slice a2 k2 c2).ownBlock = none ∨ (Value.slice a2 k2 c2).ownBlock ≠ some B := fun B hB => .inr (fun e => by have := (HO2.out.lt B e).1; omega)
      rw [hFW]
      exact ((HO2.out.kept (only_setCell (only_refl _ (some (w.heap.size + 1))) (.inl rfl) _) (hne _ (by omega))).kept (only_setCell (only_refl _ (some w.heap.size)) (.inl rfl) _) (hne _ (by omega))).kept (only_setCell (only_refl _ (some w.heap.size)) (.inl rfl) _) (hne _ (by omega))
    rw [← hFW] at hr3 ⊢
    have hrP : Box2 (FW.putObj D (.deferred none)) w.heap.size false (.slice a2 k2 c2) := hr3.kept (grownBy_putObj' FW D (.deferred none)) (fun e => by injection e with e; omega)
    have hoP := ownsRow_putObj hoF (.deferred none) hKf rfl
    have hbP : Below w.heap.size w (FW.putObj D (.deferred none)) := hbF.grown (grownBy_putObj' FW D (.deferred none)) hbF.size (fun k e => by injection e with e; omega)
    refine ⟨by simp, .inl ⟨_, _, rfl, run_takeDeferred hKf, ?_⟩⟩
    have q0 := hrP.cell0
    have q1 := hrP.cell1
    refine ⟨.agg #[.bool false, .slice a2 k2 c2], ?_, a2, c2, l2, ?_, by have := HK2.out; omega, by rw [← HK2.out]; exact owns_base hoP (by omega), HR2.out, hbP⟩
    · simp [results, Tryz.results88, go_sem, q0, q1]
    · rw [HK2.out]; simp
  case stop =>
    rintro D c pre W _ _ h _
    exact h.elim
set_option maxHeartbeats 4000000 in
set_option maxRecDepth 100000 in
theorem read_neg (s t : ByteArray) (w : World) (hs : t.size ≤ 100000) (N : Nat) (hN : t.data.toList = txtN N) (hNp : 0 < N) (h0 : 0 < s.size) (h1 : ((s[0].toNat : Int) == 45) = true) (HTS : Hid (s.extract 1 s.size = t)) :
    Calls Tryz.prog 88 #[.string s] w (ReadPost w (-(N : Int))) := by
  refine (callsIn_wide (n := 6)).1 ?_
  refine callsIn_of_wp_marks Tryz.func88 rfl trivial ?_ rfl
  simp only [Tryz.ntmps88, List.size_toArray, List.length_cons, List.length_nil, Nat.reduceAdd, Nat.reduceSub, Array.replicate_succ, Array.replicate_zero, List.push_toArray, List.append_toArray, List.nil_append, List.cons_append]
  have hT : ∀ f, Fence.wide.fn f := fun _ => trivial
  have hT : ∀ f, Fence.wide.fn f := fun _ => trivial
  gi_wp2
  gi_region
  rw [HTS.out]
  gi_wp2_with (gi_at_call 98; refine (groups_in Fence.wide _ trivial rfl _ _).mono ?_; rintro e w' ⟨rfl, rfl⟩)
  obtain ⟨U0, hU0⟩ : ∃ U0, U0 = ((w.alloc (.cells #[.bool false, .slice none 0 0] 121)).alloc (.cells #[.bool true, .slice none 0 0] 121)).alloc (.cells #[.string t] 9) := ⟨_, rfl⟩
  have usz : U0.heap.size = w.heap.size + 3 := by rw [hU0]; simp
  have uR0 : Box2 U0 w.heap.size false (.slice none 0 0) := by rw [hU0]; exact Box2.alloc (Box2.alloc (show Box2 (w.alloc (.cells #[.bool false, .slice none 0 0] 121)) w.heap.size false (.slice none 0 0) from World.alloc_heap_new w _) _) _
  have uB0 : Box2 U0 (w.heap.size + 1) true (.slice none 0 0) := by
    rw [hU0]
    refine Box2.alloc ?_ _
    have := World.alloc_heap_new (w.alloc (.cells #[.bool false, .slice none 0 0] 121)) (.cells #[.bool true, .slice none 0 0] 121)
    rw [World.size_alloc] at this
    exact this
  have uS0 : Boxed U0 (w.heap.size + 2) 9 (.string t) := by
    rw [hU0]
    have := Boxed.new ((w.alloc (.cells #[.bool false, .slice none 0 0] 121)).alloc (.cells #[.bool true, .slice none 0 0] 121)) 9 (.string t)
    rw [World.size_alloc, World.size_alloc] at this
    exact this
  have ubel : Below w.heap.size w U0 := by rw [hU0]; exact (((Below.refl _ w).alloc (Nat.le_refl _) _).alloc (by simp) _).alloc (by simp; omega) _
  rw [← hU0]
  obtain ⟨W0, hW0⟩ : ∃ W0, W0 = U0.drew := ⟨_, rfl⟩
  have hsz : W0.heap.size = w.heap.size + 3 := by rw [hW0]; exact usz
  have hR0 : Box2 W0 w.heap.size false (.slice none 0 0) := by rw [hW0]; exact uR0
  have hB0 : Box2 W0 (w.heap.size + 1) true (.slice none 0 0) := by rw [hW0]; exact uB0
  have hS0 : Boxed W0 (w.heap.size + 2) 9 (.string t) := by rw [hW0]; exact uS0
  have hbel : Below w.heap.size w W0 := by rw [hW0]; exact ubel.drew
  rw [← hW0]
  clear hW0 hU0 usz uR0 uB0 uS0 ubel
  have HDG : Hid (∀ c ∈ t.data.toList, 48 ≤ c.toNat ∧ c.toNat ≤ 57) := by show ∀ c ∈ _, _; rw [hN]; exact txtN_dig N
  have hsz2 := Lib.hid hsz
  obtain ⟨i0, hi, hz0, hz1, hz2⟩ := info_parts infoU32
  obtain ⟨m, hm1, hm2⟩ : ∃ m, t.size ≤ 9 * m ∧ 9 * m < t.size + 9 := ⟨(t.size + 8) / 9, by omega, by omega⟩
  refine wpIn_rangeFunc_ownG rfl (by omega) (gf := 103) (lb := #[.pointer (some ⟨w.heap.size + 2, 0, none⟩)]) rfl trivial (enters_of Tryz.func103 (by kernel_rfl) rfl)
    (groups_stops Fence.wide _ trivial rfl (by omega) (w.heap.size + 2) m t (by omega) hm1 hm2 W0 hS0) keepBox_t (keepBox_b (by omega)) (Below.refl _ _) (fun _ => rfl)
    (ReadI w true t) (fun _ _ _ => False) (readI_own w true t W0 (by omega)) (fun _ _ _ _ _ hs _ _ => hs) (readI_start w true t W0 hR0 hB0 hbel (by omega)) ?a1 ?assign ?body ?done ?stop
  case assign =>
    intro l x W K hK
    gi_wp2
    exact hK
  case body =>
    rintro l pre x W ⟨⟨v, hbx, hrow⟩, hres, hbl, hbs⟩ hlt
    have hch : ∀ c ∈ (chunk t x).data.toList, 48 ≤ c.toNat ∧ c.toNat ≤ 57 := fun c hc => by
      unfold chunk at hc
      rw [Lib.extract_data] at hc
      exact HDG.out c (List.mem_of_mem_drop (List.mem_of_mem_take hc))
    have hcs : (chunk t x).size ≤ 9 := by unfold chunk; simp; omega
    obtain ⟨g, hg⟩ : ∃ g, g = chunk t x := ⟨_, rfl⟩
    have hgv : grp t x = dval (undig g.data.toList) := by rw [hg]; rfl
    rw [← hg] at hch hcs ⊢
    have HCH := Lib.hid hch
    have HGV := Lib.hid hgv
    have HRES := Lib.hid hres
    have HBL := Lib.hid hbl
    have HROW := Lib.hid hrow
    have HBX := Lib.hid hbx
    have hT2 : ∀ f, (Fence.wide.inRound l).fn f := fun _ => trivial
    clear hg hgv hch hres hbl hrow hbx hT
    gi_wp2
    gi_loopw [6, 20] (fun vv iv wr => (∃ k : Nat, k ≤ g.size ∧ iv = .int .i64 k ∧ vv = .int .u32 (dval (undig (g.data.toList.take k)) : Nat)) ∧ wr = W) (fun _ iv _ => g.size - (intOf iv).toNat)
    case atStart => exact ⟨⟨0, Nat.zero_le _, rfl, by simp [undig, dval]⟩, rfl⟩
    case round =>
      obtain ⟨⟨k, hk, rfl, rfl⟩, rfl⟩ := hrel
      obtain ⟨vv, hvv⟩ : ∃ vv, vv = dval (undig (g.data.toList.take k)) := ⟨_, rfl⟩
      rw [← hvv]
      have HVV := Lib.hid hvv
      by_cases hltk : k < g.size
      · have hvb : vv < 100000000 := by
          rw [hvv]
          have h1 := dval_lt (undig (g.data.toList.take k)) (undig_lt _ (fun c hc => HCH.out c (List.mem_of_mem_take hc)))
          have h2 : (undig (g.data.toList.take k)).length ≤ 8 := by unfold undig; rw [List.length_map, List.length_reverse, List.length_take]; omega
          have h3 : 10 ^ (undig (g.data.toList.take k)).length ≤ 10 ^ 8 := Nat.pow_le_pow_right (by omega) h2
          omega
        have hcd := HCH.out _ (data_mem g k hltk)
        obtain ⟨y, hy⟩ : ∃ y, y = g[k].toNat - 48 := ⟨_, rfl⟩
        have hyI : ((g[k].toNat : Int) - 48) = (y : Int) := by omega
        have hyb : y < 10 := by omega
        have hnx : dval (undig (g.data.toList.take (k + 1))) = vv * 10 + y := by
          rw [data_take g k hltk, dval_undig_snoc, ← HVV.out, ← hy]; omega
        have HNX := Lib.hid hnx
        obtain ⟨c1, c2⟩ := hcd
        clear hvv hy hnx
        gi_wp2
        go_roundw
        case rel => exact ⟨⟨k + 1, by omega, by go_num, by rw [HNX.out]; congr 1⟩, trivial⟩
        case measure => simp [intOf] <;> omega
      · have hkg : k = g.size := by omega
        have hval : vv = grp t x := by rw [hvv, hkg, List.take_of_length_le (by rw [data_len]; omega)]; exact HGV.out.symm
        have HVAL := Lib.hid hval
        have hcell := HBX.out.cell1
        clear hvv hkg hval
        have hpm : pre.length < 100000 := by omega
        obtain ⟨pl, hpl⟩ : ∃ pl, pl = pre.length := ⟨_, rfl⟩
        have HROW1 := HROW.out
        rw [← hpl] at hpm HROW1
        have HROW2 := Lib.hid HROW1
        have HPL := Lib.hid hpl
        clear HROW1 hpl
        gi_wp2_with (gi_at_builtin; refine wpListIn_append_own _ rfl (.tmp 33) (.tmp 35) 119 rfl (w.heap.size + 3) 133 i0 (.int .u32 0) 1 4 Tryz.underlying119 hi hz0 hz1 hz2 rfl (by decide) _ _ _ rfl (HROW2.out.alloc _) ⟨wr.heap.size, 0, none⟩ 1 1 [.int .u32 (vv : Int)] rfl rfl (cell_one_new _ _ _) (by simp [Value.oneCell']) ?c3 ?c4 ?c5 ?_)
        case c3 => unfold maxLen; omega
        case c4 => omega
        case c5 => simp; omega
        intro v' w1 hown' hgrow _
        obtain ⟨g', cap', rfl⟩ := ownsRow_succ hown'
        have hnb : ∀ B, B < w.heap.size + 3 → some B ≠ v.ownBlock := fun B hB e => by have := (HROW2.out.lt B e.symm).1; omega
        have bx1 : Box2 w1 (w.heap.size + 1) true v := (HBX.out.alloc _).kept hgrow (hnb _ (by omega))
        have hc1 := bx1.cell1
        have hf1 := bx1.frozen 1
        have hnb2 : w1.grownBy (w1.setCell ⟨w.heap.size + 1, 1, none⟩ (.slice (some ⟨g', 0, none⟩) (pl + 1) cap')) (some (w.heap.size + 1)) := only_setCell (only_refl _ _) (.inl rfl) _
        have BX2 := Lib.hid (bx1.set1 (.slice (some ⟨g', 0, none⟩) (pl + 1) cap'))
        have ho2 := hown'.kept hnb2 (.inr (fun e => by have := (hown'.lt _ e).1; omega))
        rw [nums_snoc, HVAL.out, show List.map (grp t) pre ++ [grp t x] = List.map (grp t) (pre ++ [x]) by simp, HPL.out] at ho2
        have HO2 := Lib.hid ho2
        have RES2 : Hid (Box2 (w1.setCell ⟨w.heap.size + 1, 1, none⟩ (.slice (some ⟨g', 0, none⟩) (pl + 1) cap')) w.heap.size false (.slice none 0 0)) := ((HRES.out.alloc _).kept hgrow (hnb _ (by omega))).other (by show w.heap.size ≠ w.heap.size + 1; omega) _
        have BL1 : Below w.heap.size w w1 := (HBL.out.alloc HBL.out.size _).grown hgrow (by simp; omega) (fun k hk => by have := (HROW2.out.lt k hk).1; omega)
        have BL2 : Hid (Below w.heap.size w (w1.setCell ⟨w.heap.size + 1, 1, none⟩ (.slice (some ⟨g', 0, none⟩) (pl + 1) cap'))) := BL1.setCell (p := ⟨w.heap.size + 1, 1, none⟩) (by show w.heap.size ≤ w.heap.size + 1; omega) _
        have SZ2 : Hid (w.heap.size + 3 ≤ (w1.setCell ⟨w.heap.size + 1, 1, none⟩ (.slice (some ⟨g', 0, none⟩) (pl + 1) cap')).heap.size) := by
          have := hgrow.size; simp at this; show _ ≤ _; simp [World.setCell]; omega
        have KF2 : Hid (KeepsFrom W0.heap.size wr (w1.setCell ⟨w.heap.size + 1, 1, none⟩ (.slice (some ⟨g', 0, none⟩) (pl + 1) cap'))) := by
          refine KeepsOthers.from (((KeepsOthers.alloc wr _).trans (KeepsOthers.of_grownBy hgrow fun j o ej hj => ?_)).trans (KeepsOthers.setCell _ _ _)) _
          rcases (HROW2.out.alloc (.cells #[.int .u32 (vv : Int)] 133)).2 with ⟨rfl, _⟩ | ⟨g, cap, cur, rfl, _, hgb, _⟩
          · simp [Value.ownBlock] at ej
          · obtain rfl : g = j := by simpa [Value.ownBlock] using ej
            rw [hgb] at hj; cases hj; rfl
        have KB2 : Hid (KeepBox (w.heap.size + 2) wr (w1.setCell ⟨w.heap.size + 1, 1, none⟩ (.slice (some ⟨g', 0, none⟩) (pl + 1) cap'))) := by
          show _ = _
          rw [Below.heap_setCell w1 ⟨w.heap.size + 1, 1, none⟩ _ (w.heap.size + 2) (by show w.heap.size + 2 ≠ w.heap.size + 1; omega), hgrow.block (w.heap.size + 2) (by simp; omega) (hnb _ (by omega)), Below.heap_alloc wr _ _ (by omega)]
        clear hown' hgrow bx1 hnb hnb2 ho2 BL1
        gi_wp2
        refine ⟨KF2.out, KB2.out, ⟨⟨_, BX2.out, ?_⟩, RES2.out, BL2.out, SZ2.out⟩⟩
        rw [List.length_append, ← HPL.out]
        have := HO2.out
        rw [← HPL.out] at this
        exact this
  case done =>
    rintro D ys W hD rfl ⟨⟨v, hbx, hrow⟩, hres, hbl, hbs⟩ hK
    rw [List.length_range] at hrow
    have hval : val ((List.range m).map (grp t)) = N := groups_sum t N m hN (by omega) (by omega)
    have htr := trim_own hrow (by omega) (by
      intro x hx
      obtain ⟨k, _, rfl⟩ := List.mem_map.1 hx
      exact grp_lt t k HDG.out)
    rw [hval] at htr
    have HTR := Lib.hid htr
    have hc1 := hbx.cell1
    have hf1 := hbx.frozen 1
    have HBX := Lib.hid hbx
    have HRES := Lib.hid hres
    have HBL := Lib.hid hbl
    have HK := Lib.hid hK
    clear htr hval hrow hbx hres hbl hK
    gi_wp2_with (gi_at_call 91; refine (callsIn_wide.2 HTR.out).mono ?_; rintro e w' ⟨⟨v2, l2, rfl, ho2, hr2⟩, rfl⟩; obtain ⟨a2, c2, rfl, hl2, hlc2, hn2⟩ := nums_of_owns ho2; obtain ⟨k2, hk2⟩ : ∃ k2, k2 = l2.length := ⟨_, rfl⟩; rw [← hk2] at ho2 hlc2 ⊢; have HO2 := Lib.hid ho2; have HR2 := Lib.hid hr2; have HN2 := Lib.hid hn2; have HK2 := Lib.hid hk2; have hx2 : Box2 (W.setCell ⟨w.heap.size + 1, 1, none⟩ (.slice a2 k2 c2)) (w.heap.size + 1) true (.slice a2 k2 c2) := HBX.out.set1 _; have hy2 : Box2 (W.setCell ⟨w.heap.size + 1, 1, none⟩ (.slice a2 k2 c2)) w.heap.size false (.slice none 0 0) := HRES.out.other (by show w.heap.size ≠ w.heap.size + 1; omega) _; have e0 := hx2.cell0; have e1 := hx2.cell1; have e2 := hy2.cell0; have e3 := hy2.cell1; have e4 := hy2.frozen 0; have e5 := hy2.frozen 1; have HY2 := Lib.hid hy2; clear ho2 hr2 hn2 hl2 hk2 hx2 hy2)
    have hr3 : Box2 (((W.setCell ⟨w.heap.size + 1, 1, none⟩ (.slice a2 k2 c2)).setCell ⟨w.heap.size, 0, none⟩ (.bool true)).setCell ⟨w.heap.size, 1, none⟩ (.slice a2 k2 c2)) w.heap.size true (.slice a2 k2 c2) := (HY2.out.set0 true).set1 _
    obtain ⟨FW, hFW⟩ : ∃ FW, FW = ((W.setCell ⟨w.heap.size + 1, 1, none⟩ (.slice a2 k2 c2)).setCell ⟨w.heap.size, 0, none⟩ (.bool true)).setCell ⟨w.heap.size, 1, none⟩ (.slice a2 k2 c2) := ⟨_, rfl⟩
    have hKf : FW.heap[D]? = some (.deferred (some [])) := by
      rw [hFW, Below.heap_setCell _ ⟨w.heap.size, 1, none⟩ _ D (by show D ≠ w.heap.size; omega), Below.heap_setCell _ ⟨w.heap.size, 0, none⟩ _ D (by show D ≠ w.heap.size; omega), Below.heap_setCell _ ⟨w.heap.size + 1, 1, none⟩ _ D (by show D ≠ w.heap.size + 1; omega)]
      exact HK.out
    have hbF : Below w.heap.size w FW := by rw [hFW]; exact ((HBL.out.setCell (p := ⟨w.heap.size + 1, 1, none⟩) (by show w.heap.size ≤ w.heap.size + 1; omega) _).setCell (p := ⟨w.heap.size, 0, none⟩) (Nat.le_refl _) _).setCell (p := ⟨w.heap.size, 1, none⟩) (Nat.le_refl _) _
    have hoF : FW.ownsRow (w.heap.size + 3) 133 1 (.slice a2 k2 c2) k2 (nums .u32 l2) := by
      have hne : ∀ B, B < w.heap.size + 3 → (Value.slice a2 k2 c2).ownBlock = none ∨ (Value.slice a2 k2 c2).ownBlock ≠ some B := fun B hB => .inr (fun e => by have := (HO2.out.lt B e).1; omega)
      rw [hFW]
      exact ((HO2.out.kept (only_setCell (only_refl _ (some (w.heap.size + 1))) (.inl rfl) _) (hne _ (by omega))).kept (only_setCell (only_refl _ (some w.heap.size)) (.inl rfl) _) (hne _ (by omega))).kept (only_setCell (only_refl _ (some w.heap.size)) (.inl rfl) _) (hne _ (by omega))
    rw [← hFW] at hr3 ⊢
    have hrP : Box2 (FW.putObj D (.deferred none)) w.heap.size true (.slice a2 k2 c2) := hr3.kept (grownBy_putObj' FW D (.deferred none)) (fun e => by injection e with e; omega)
    have hoP := ownsRow_putObj hoF (.deferred none) hKf rfl
    have hbP : Below w.heap.size w (FW.putObj D (.deferred none)) := hbF.grown (grownBy_putObj' FW D (.deferred none)) hbF.size (fun k e => by injection e with e; omega)
    refine ⟨by simp, .inl ⟨_, _, rfl, run_takeDeferred hKf, ?_⟩⟩
    have q0 := hrP.cell0
    have q1 := hrP.cell1
    refine ⟨.agg #[.bool true, .slice a2 k2 c2], ?_, a2, c2, l2, ?_, by have := HK2.out; omega, by rw [← HK2.out]; exact owns_base hoP (by omega), by rw [Int.natAbs_neg, Int.natAbs_natCast]; exact HR2.out, hbP⟩
    · simp [results, Tryz.results88, go_sem, q0, q1]
    · rw [HK2.out]; simp; exact hNp
  case stop =>
    rintro D c pre W _ _ h _
    exact h.elim

/-- read, at every canonical integer. -/
theorem read_any (s : ByteArray) (z : Int) (w : World) (hs : s.size ≤ 100000) (hz : s.data.toList = txtZ z) : Calls Tryz.prog 88 #[.string s] w (ReadPost w z) := by
  by_cases h : z < 0
  · have e : txtZ z = 45 :: txtN z.natAbs := by unfold txtZ; rw [if_pos h]
    have h0 : 0 < s.size := by rw [← data_len, hz, e]; simp
    have h1 : ((s[0].toNat : Int) == 45) = true := by
      have := data_head s h0
      rw [hz, e] at this
      injection this with this
      rw [← this]; rfl
    have ht : (s.extract 1 s.size).data.toList = txtN z.natAbs := by rw [tail_data, hz, e]; rfl
    have := read_neg s (s.extract 1 s.size) w (by simp; omega) z.natAbs ht (by omega) h0 h1 rfl
    rwa [show -((z.natAbs : Nat) : Int) = z by omega] at this
  · have e : txtZ z = txtN z.natAbs := by unfold txtZ; rw [if_neg h]
    have h0 : 0 < s.size := by rw [← data_len, hz, e]; exact List.length_pos_iff.2 (txtN_ne _)
    have h1 : ((s[0].toNat : Int) == 45) = false := by
      have := data_head s h0
      rw [hz, e] at this
      rw [beq_eq_false_iff_ne]
      intro h2
      have h3 := u8_eq (c := s[0]) (n := 45) h2 (by omega)
      rw [h3] at this
      exact txtN_head _ this
    have := read_pos s w hs z.natAbs (by rw [hz, e]) h0 h1
    rwa [show ((z.natAbs : Nat) : Int) = z by omega] at this

end Go.Proofs.YtdgmpgejemgbbaaGreatDoor

namespace Go.Proofs.YtdgmpgejemgbbaaGreatDoor
open Go.RowKit Go.Shelf

/-- Two numbers are handed back. -/
def PairPost (w : World) (x y : Int) (e : Ending) (w' : World) : Prop :=
  ∃ a c la b d lb, e = .returned (.tuple #[.agg #[.bool (decide (x < 0)), .slice a (la : List Nat).length c], .agg #[.bool (decide (y < 0)), .slice b (lb : List Nat).length d], .int .i64 0]) ∧
    la.length ≤ c ∧ lb.length ≤ d ∧ Nums .u32 w' a la ∧ Nums .u32 w' b lb ∧ Rep la x.natAbs ∧ Rep lb y.natAbs ∧ Below w.heap.size w w'
def PairNo (w : World) (n : Int) (e : Ending) (w' : World) : Prop :=
  e = .returned (.tuple #[.agg #[.bool false, .slice none 0 0], .agg #[.bool false, .slice none 0 0], .int .i64 n]) ∧ Below w.heap.size w w'

theorem check_same (s : ByteArray) (w : World) (hs : s.size ≤ 1000000) : Calls Tryz.prog 64 #[.string s] w fun e w' => e = .returned (.int .i64 (chkZ s.data.toList)) ∧ w = w' :=
  (check_any s w hs).mono fun _ _ ⟨a, b⟩ => ⟨a, b.symm⟩

set_option maxHeartbeats 2000000 in
set_option maxRecDepth 100000 in
theorem pair_ok (s t : ByteArray) (x y : Int) (w : World) (hs : s.size ≤ 100000) (ht : t.size ≤ 100000) (hx : s.data.toList = txtZ x) (hy : t.data.toList = txtZ y) (bx : bigZ x = false) (byy : bigZ y = false) :
    Calls Tryz.prog 77 #[.string s, .string t] w (PairPost w x y) := by
  have hc1 := fun W => check_same s W (by omega)
  have hc2 := fun W => check_same t W (by omega)
  rw [hx, chkZ_txtZ, bx] at hc1
  rw [hy, chkZ_txtZ, byy] at hc2
  simp only [Bool.false_eq_true, if_false] at hc1 hc2
  have hr1 := fun W => read_any s x W hs hx
  have hr2 := fun W => read_any t y W ht hy
  have HC1 := Lib.hid hc1
  have HC2 := Lib.hid hc2
  have HR1 := Lib.hid hr1
  have HR2 := Lib.hid hr2
  obtain ⟨W0, hW0⟩ : ∃ W0, W0 = (w.alloc (.cells #[.bool false, .slice none 0 0] 121)).alloc (.cells #[.bool false, .slice none 0 0] 121) := ⟨_, rfl⟩
  have hA0 : Box2 W0 w.heap.size false (.slice none 0 0) := by rw [hW0]; exact Box2.alloc (show Box2 (w.alloc (.cells #[.bool false, .slice none 0 0] 121)) w.heap.size false (.slice none 0 0) from World.alloc_heap_new w _) _
  have hB0 : Box2 W0 (w.heap.size + 1) false (.slice none 0 0) := by
    rw [hW0]
    have := World.alloc_heap_new (w.alloc (.cells #[.bool false, .slice none 0 0] 121)) (.cells #[.bool false, .slice none 0 0] 121)
    rw [World.size_alloc] at this
    exact this
  have hb0 : Below w.heap.size w W0 := by rw [hW0]; exact ((Below.refl _ w).alloc (Nat.le_refl _) _).alloc (by simp) _
  have HA0 := Lib.hid hA0
  have HB0 := Lib.hid hB0
  have HBL := Lib.hid hb0
  have HW0 := Lib.hid hW0
  clear hc1 hc2 hr1 hr2 hx hy bx byy hA0 hB0 hb0 hW0
  go_enter Tryz.func77, Tryz.ntmps77
  go_wp2_with fail
  rw [← HW0.out]
  refine (HC1.out _).mono ?_
  rintro e w' ⟨rfl, rfl⟩
  go_wp2_with fail
  refine (HC2.out _).mono ?_
  rintro e w' ⟨rfl, rfl⟩
  go_wp2_with fail
  refine (HR1.out W0).mono ?_
  rintro e W1 ⟨a, c, la, rfl, hlc1, hn1, hp1, hb1⟩
  obtain ⟨k1, hk1⟩ : ∃ k1, k1 = la.length := ⟨_, rfl⟩
  rw [← hk1] at hlc1 ⊢
  have HN1 := Lib.hid hn1
  have HP1 := Lib.hid hp1
  have HB1 := Lib.hid hb1
  have HK1 := Lib.hid hk1
  clear hn1 hp1 hb1 hk1
  go_wp2_with fail
  refine (HR2.out W1).mono ?_
  rintro e W2 ⟨b, d, lb, rfl, hlc2, hn2, hp2, hb2⟩
  obtain ⟨k2, hk2⟩ : ∃ k2, k2 = lb.length := ⟨_, rfl⟩
  rw [← hk2] at hlc2 ⊢
  have HN2 := Lib.hid hn2
  have HP2 := Lib.hid hp2
  have HK2 := Lib.hid hk2
  have hb02 : Below W0.heap.size W0 W2 := HB1.out.trans (hb2.mono HB1.out.size)
  have HB02 := Lib.hid hb02
  have HBB := Lib.hid hb2
  have hsz : w.heap.size + 1 < W0.heap.size := HB0.out.lt
  have hA2 : Box2 W2 w.heap.size false (.slice none 0 0) := (hb02.block _ HA0.out.lt).trans HA0.out
  have hB2 : Box2 W2 (w.heap.size + 1) false (.slice none 0 0) := (hb02.block _ HB0.out.lt).trans HB0.out
  clear hn2 hp2 hk2 hb2 hb02
  obtain ⟨nx, hnx⟩ : ∃ nx, nx = decide (x < 0) := ⟨_, rfl⟩
  obtain ⟨ny, hny⟩ : ∃ ny, ny = decide (y < 0) := ⟨_, rfl⟩
  rw [← hnx, ← hny]
  have HNX := Lib.hid hnx
  have HNY := Lib.hid hny
  have a0 := hA2.cell0
  have a1 := hA2.cell1
  have af0 := hA2.frozen 0
  have af1 := hA2.frozen 1
  have hA3 : Box2 ((W2.setCell ⟨w.heap.size, 0, none⟩ (.bool nx)).setCell ⟨w.heap.size, 1, none⟩ (.slice a k1 c)) w.heap.size nx (.slice a k1 c) := (hA2.set0 nx).set1 _
  have hB3 : Box2 ((W2.setCell ⟨w.heap.size, 0, none⟩ (.bool nx)).setCell ⟨w.heap.size, 1, none⟩ (.slice a k1 c)) (w.heap.size + 1) false (.slice none 0 0) := (hB2.other (by show w.heap.size + 1 ≠ w.heap.size; omega) _).other (by show w.heap.size + 1 ≠ w.heap.size; omega) _
  have b0 := hB3.cell0
  have b1 := hB3.cell1
  have bf0 := hB3.frozen 0
  have bf1 := hB3.frozen 1
  have hA4 : Box2 ((((W2.setCell ⟨w.heap.size, 0, none⟩ (.bool nx)).setCell ⟨w.heap.size, 1, none⟩ (.slice a k1 c)).setCell ⟨w.heap.size + 1, 0, none⟩ (.bool ny)).setCell ⟨w.heap.size + 1, 1, none⟩ (.slice b k2 d)) w.heap.size nx (.slice a k1 c) := (hA3.other (by show w.heap.size ≠ w.heap.size + 1; omega) _).other (by show w.heap.size ≠ w.heap.size + 1; omega) _
  have hB4 : Box2 ((((W2.setCell ⟨w.heap.size, 0, none⟩ (.bool nx)).setCell ⟨w.heap.size, 1, none⟩ (.slice a k1 c)).setCell ⟨w.heap.size + 1, 0, none⟩ (.bool ny)).setCell ⟨w.heap.size + 1, 1, none⟩ (.slice b k2 d)) (w.heap.size + 1) ny (.slice b k2 d) := (hB3.set0 ny).set1 _
  have HA4 := Lib.hid hA4
  have HB4 := Lib.hid hB4
  clear hnx hny hA2 hB2 hA3 hB3 hA4 hB4
  have ow1 : W2.ownsRow W0.heap.size 133 1 (.slice a k1 c) k1 (nums .u32 la) := by
    have := HN1.out
    rw [← HK1.out] at this
    obtain ⟨h1, h2⟩ := this
    refine ⟨h1, ?_⟩
    rcases h2 with h | ⟨g, cap, cur, e1, e2, e3, e4⟩
    · exact .inl h
    · exact .inr ⟨g, cap, cur, e1, e2, (HBB.out.block g (Array.getElem?_eq_some_iff.1 e3).1).trans e3, e4⟩
  have ow2 : W2.ownsRow W0.heap.size 133 1 (.slice b k2 d) k2 (nums .u32 lb) := by
    have := HN2.out
    rw [← HK2.out] at this
    exact owns_base this HB1.out.size
  have hkeep : ∀ {v : Value} {k : Nat} {xs : List Value} {W : World} {B : Nat} {u : Value} {i : Nat}, W.ownsRow W0.heap.size 133 1 v k xs → B < W0.heap.size → (W.setCell ⟨B, i, none⟩ u).ownsRow W0.heap.size 133 1 v k xs := fun {v k xs W B u i} h hB =>
    h.kept (row := some B) (only_setCell (only_refl _ _) (.inl rfl) _) (.inr (fun e => by have := (h.lt B e).1; omega))
  have ow3 := hkeep (hkeep (hkeep (hkeep ow1 (B := w.heap.size) (u := .bool nx) (i := 0) (by omega)) (B := w.heap.size) (u := .slice a k1 c) (i := 1) (by omega)) (B := w.heap.size + 1) (u := .bool ny) (i := 0) (by omega)) (B := w.heap.size + 1) (u := .slice b k2 d) (i := 1) (by omega)
  have ow4 := hkeep (hkeep (hkeep (hkeep ow2 (B := w.heap.size) (u := .bool nx) (i := 0) (by omega)) (B := w.heap.size) (u := .slice a k1 c) (i := 1) (by omega)) (B := w.heap.size + 1) (u := .bool ny) (i := 0) (by omega)) (B := w.heap.size + 1) (u := .slice b k2 d) (i := 1) (by omega)
  have OW3 := Lib.hid ow3
  have OW4 := Lib.hid ow4
  clear ow1 ow2 hkeep ow3 ow4
  go_wp2_with fail
  have q0 := HA4.out.cell0
  have q1 := HA4.out.cell1
  have q2 := HB4.out.cell0
  have q3 := HB4.out.cell1
  refine bodyPost_ret (v := .tuple #[.agg #[.bool nx, .slice a k1 c], .agg #[.bool ny, .slice b k2 d], .int .i64 0]) (by simp [results, Tryz.results77, go_sem, q0, q1, q2, q3]) rfl ?_
  obtain ⟨a3, c3, e3, hl3, hlc3, hn3⟩ := nums_of_owns OW3.out
  injection e3 with e31 _ e33
  subst e31 e33
  obtain ⟨a4, c4, e4, hl4, hlc4, hn4⟩ := nums_of_owns OW4.out
  injection e4 with e41 _ e43
  subst e41 e43
  refine ⟨a, c, la, b, d, lb, by rw [HNX.out, HNY.out, hl3, hl4], by omega, by omega, hn3, hn4, HP1.out, HP2.out, ?_⟩
  have b2 := HBL.out.trans (HB02.out.mono HBL.out.size)
  exact (((b2.setCell (p := ⟨w.heap.size, 0, none⟩) (Nat.le_refl _) _).setCell (p := ⟨w.heap.size, 1, none⟩) (Nat.le_refl _) _).setCell (p := ⟨w.heap.size + 1, 0, none⟩) (by show w.heap.size ≤ w.heap.size + 1; omega) _).setCell (p := ⟨w.heap.size + 1, 1, none⟩) (by show w.heap.size ≤ w.heap.size + 1; omega) _

set_option maxHeartbeats 2000000 in
set_option maxRecDepth 100000 in
theorem pair_bad (s t : ByteArray) (w : World) (hs : s.size ≤ 100000) (ht : t.size ≤ 100000) (h : bothZ s.data.toList t.data.toList ≠ 0) :
    Calls Tryz.prog 77 #[.string s, .string t] w (PairNo w (bothZ s.data.toList t.data.toList)) := by
  have hc1 := fun W => check_same s W (by omega)
  have hc2 := fun W => check_same t W (by omega)
  obtain ⟨E, hE⟩ : ∃ E, E = bothZ s.data.toList t.data.toList := ⟨_, rfl⟩
  obtain ⟨x, hx⟩ : ∃ x, x = chkZ s.data.toList := ⟨_, rfl⟩
  obtain ⟨y, hy⟩ : ∃ y, y = chkZ t.data.toList := ⟨_, rfl⟩
  rw [← hx] at hc1
  rw [← hy] at hc2
  rw [← hE] at h ⊢
  unfold bothZ at hE
  rw [← hx, ← hy] at hE
  have HC1 := Lib.hid hc1
  have HC2 := Lib.hid hc2
  have HE := Lib.hid hE
  have tE : (E != 0) = true := by simpa using h
  clear hc1 hc2 hx hy hE h
  by_cases hx0 : x = 0
  · have e1 : E = y := by rw [HE.out, if_pos hx0]
    subst e1
    subst hx0
    go_enter Tryz.func77, Tryz.ntmps77
    go_wp2_with fail
    refine (HC1.out _).mono ?_
    rintro e w1 ⟨rfl, hw1⟩
    rw [← hw1]
    clear hw1
    go_wp2_with fail
    refine (HC2.out _).mono ?_
    rintro e w2 ⟨rfl, hw1⟩
    rw [← hw1]
    clear hw1
    go_wp2_with fail
    go_region
    all_goals
      go_wp2_with fail
      refine bodyPost_ret (v := .tuple #[.agg #[.bool false, .slice none 0 0], .agg #[.bool false, .slice none 0 0], .int .i64 E]) (by simp [results, Tryz.results77, go_sem]) rfl ⟨rfl, ?_⟩
      exact (((Below.refl _ w).alloc (Nat.le_refl _) _).alloc (by simp) _).drew
  · have e1 : E = x := by rw [HE.out, if_neg hx0]
    subst e1
    have t1 : (E == 0) = false := by simpa using hx0
    clear hx0
    go_enter Tryz.func77, Tryz.ntmps77
    go_wp2_with fail
    refine (HC1.out _).mono ?_
    rintro e w1 ⟨rfl, hw1⟩
    rw [← hw1]
    clear hw1
    go_wp2_with fail
    go_region
    all_goals
      go_wp2_with fail
      refine bodyPost_ret (v := .tuple #[.agg #[.bool false, .slice none 0 0], .agg #[.bool false, .slice none 0 0], .int .i64 E]) (by simp [results, Tryz.results77, go_sem]) rfl ⟨rfl, ?_⟩
      exact (((Below.refl _ w).alloc (Nat.le_refl _) _).alloc (by simp) _).drew

/-- divide, at whatever two magnitudes. -/
theorem divide_any (a b : Option Addr) (n m c d A B : Nat) (la lb : List Nat) (w : World) (hla : la.length = n) (hlb : lb.length = m) (hn : n ≤ 100000) (hm : m ≤ 100000) (hnc : n ≤ c)
    (ra : Rep la A) (rb : Rep lb B) (ha : Nums .u32 w a la) (hb : Nums .u32 w b lb) (h0 : 0 < B) :
    Calls Tryz.prog 78 #[.slice a n c, .slice b m d] w (QRPost w A B) := by
  rcases Nat.lt_or_ge A B with h | h
  · exact divide_small a b n m c d A B la lb w hla hlb hn hm hnc ra rb ha hb h
  · match m, hlb with
    | 0, hlb =>
      rw [List.eq_nil_of_length_eq_zero hlb] at rb
      have := rb.2.2
      simp [val] at this; omega
    | 1, hlb => exact divide_one a b n c d A B la lb w hla hlb hn ra rb ha hb h
    | p + 2, hlb => exact divide_long a b n p c d A B la lb w hla hlb hn (by omega) ra rb ha hb h
theorem MagAt.len {w : World} {v : Value} {N k : Nat} (h : MagAt w v N) (hk : N < Bs ^ k) : ∃ a n c l, v = .slice a n c ∧ (l : List Nat).length = n ∧ n ≤ k ∧ n ≤ c ∧ Nums .u32 w a l ∧ Rep l N := by
  obtain ⟨a, c, l, h1, h2, h3, h4⟩ := h
  exact ⟨a, _, c, l, h1, rfl, rep_len_of l N k h4 hk, h2, h3, h4⟩
/-- The number of groups that a number of 1000 digits may have, and one more. -/
def KM : Nat := 112
theorem KM_eq : KM = 112 := rfl
theorem big_bound {z : Int} (h : bigZ z = false) : z.natAbs < Bs ^ KM := by
  have h1 := bigZ_false h
  obtain ⟨k, hk⟩ : ∃ k, k = 1000 := ⟨_, rfl⟩
  rw [← hk] at h1
  have h2 := (decN_len_le z.natAbs k (by omega)).1 h1
  rw [Bs_pow KM]
  exact Nat.lt_trans h2 (Nat.pow_lt_pow_right (by omega) (by rw [KM_eq]; omega))
theorem bigZ_le {m n : Nat} (h : m ≤ n) (hb : bigZ (n : Int) = false) : bigZ (m : Int) = false := by
  have h1 := bigZ_false hb
  have h2 := decN_mono h
  unfold bigZ
  simp only [Int.natAbs_natCast] at h1 ⊢
  simp; omega

/-- Euclid's loop in the program: the two numbers lie in two blocks. -/
def GcM (w : World) (gx gy G : Nat) (gk : Nat) (wr : World) : Prop :=
  ∃ (X Y : Nat) (nx ny : Bool) (vx vy : Value), gk = Y ∧ Box2 wr gx nx vx ∧ Box2 wr gy ny vy ∧ MagAt wr vx X ∧ MagAt wr vy Y ∧ Nat.gcd X Y = G ∧ X < Bs ^ KM ∧ Y < Bs ^ KM ∧ Below w.heap.size w wr

end Go.Proofs.YtdgmpgejemgbbaaGreatDoor

namespace Go.Proofs.YtdgmpgejemgbbaaGreatDoor
open Go.RowKit Go.Shelf

theorem nums_box {W : World} {B : Nat} {neg : Bool} {a' : Option Addr} {n' c' : Nat} {a : Option Addr} {l : List Nat} (h : Box2 W B neg (.slice a' n' c')) (hn : Nums .u32 W a l) (u : Value) (i : Nat) : Nums .u32 (W.setCell ⟨B, i, none⟩ u) a l := fun e he => by
  obtain ⟨g, o, e1, hg, hc⟩ := hn e he
  refine ⟨g, o, e1, by simpa [World.setCell] using hg, ?_⟩
  have hne : B ≠ g := by
    intro hB
    subst hB
    unfold World.cell? at hc
    rw [show W.heap[B]? = _ from h] at hc
    simp only at hc
    match ho : o + e, hc with
    | 0, hc => simp at hc
    | 1, hc => simp at hc
    | k + 2, hc => simp at hc
  rw [World.cell?_setCell_other _ _ _ _ (by intro h; injection h with h; exact hne h)]
  exact hc
theorem magAt_box {W : World} {B : Nat} {neg : Bool} {a' : Option Addr} {n' c' : Nat} {v : Value} {N : Nat} (h : Box2 W B neg (.slice a' n' c')) (hm : MagAt W v N) (u : Value) (i : Nat) : MagAt (W.setCell ⟨B, i, none⟩ u) v N := by
  obtain ⟨a, c, l, h1, h2, h3, h4⟩ := hm
  exact ⟨a, c, l, h1, h2, nums_box h h3 u i, h4⟩

set_option maxHeartbeats 2000000 in
set_option maxRecDepth 100000 in
theorem gcd_bad (s t : ByteArray) (w : World) (hs : s.size ≤ 100000) (ht : t.size ≤ 100000) (h : bothZ s.data.toList t.data.toList ≠ 0) :
    Calls Tryz.prog 65 #[.string s, .string t] w (SEPost w [] (bothZ s.data.toList t.data.toList)) := by
  have hp := pair_bad s t w hs ht h
  obtain ⟨E, hE⟩ : ∃ E, E = bothZ s.data.toList t.data.toList := ⟨_, rfl⟩
  rw [← hE] at hp h ⊢
  have HP := Lib.hid hp
  have t1 : (E != 0) = true := by simpa using h
  clear hp hE h
  go_enter Tryz.func65, Tryz.ntmps65
  go_wp2_with fail
  refine HP.out.mono ?_
  rintro e w1 ⟨rfl, b1⟩
  have B1 := Lib.hid b1
  clear b1
  go_wp2_with fail
  go_ret2
  exact ⟨rfl, (B1.out.alloc B1.out.size _).alloc (by have := B1.out.size; simp; omega) _⟩

set_option maxHeartbeats 4000000 in
set_option maxRecDepth 100000 in
theorem gcd_good (s t : ByteArray) (x y : Int) (w : World) (hs : s.size ≤ 100000) (ht : t.size ≤ 100000) (hx : s.data.toList = txtZ x) (hy : t.data.toList = txtZ y) (bx : bigZ x = false) (byy : bigZ y = false) :
    Calls Tryz.prog 65 #[.string s, .string t] w (GPost w ⟨(txtZ (Nat.gcd x.natAbs y.natAbs : Int)).toArray⟩) := by
  have hp := pair_ok s t x y w hs ht hx hy bx byy
  obtain ⟨G, hG⟩ : ∃ G, G = Nat.gcd x.natAbs y.natAbs := ⟨_, rfl⟩
  rw [← hG]
  have hGb : bigZ (G : Int) = false := by
    rcases Nat.eq_zero_or_pos x.natAbs with h | h
    · rw [hG, h, Nat.gcd_zero_left]
      refine bigZ_le (n := y.natAbs) (Nat.le_refl _) ?_
      unfold bigZ at byy ⊢; simpa using byy
    · refine bigZ_le (n := x.natAbs) (by rw [hG]; exact Nat.gcd_le_left _ h) ?_
      unfold bigZ at bx ⊢; simpa using bx
  have hbx := big_bound bx
  have hby := big_bound byy
  have HP := Lib.hid hp
  have HG := Lib.hid hG
  have HGB := Lib.hid hGb
  have HBX := Lib.hid hbx
  have HBY := Lib.hid hby
  clear hp hx hy bx byy hG hGb hbx hby
  go_enter Tryz.func65, Tryz.ntmps65
  go_wp2_with fail
  refine HP.out.mono ?_
  rintro e w1 ⟨a, c, la, b, d, lb, rfl, hlc, hld, hna, hnb, hra, hrb, b1⟩
  obtain ⟨nx, hnx⟩ : ∃ nx, nx = decide (x < 0) := ⟨_, rfl⟩
  obtain ⟨ny, hny⟩ : ∃ ny, ny = decide (y < 0) := ⟨_, rfl⟩
  obtain ⟨k1, hk1⟩ : ∃ k1, k1 = la.length := ⟨_, rfl⟩
  obtain ⟨k2, hk2⟩ : ∃ k2, k2 = lb.length := ⟨_, rfl⟩
  rw [← hnx, ← hny, ← hk1, ← hk2]
  have HMA := Lib.hid (⟨a, c, la, by rw [hk1], hlc, hna, hra⟩ : MagAt w1 (.slice a k1 c) x.natAbs)
  have HMB := Lib.hid (⟨b, d, lb, by rw [hk2], hld, hnb, hrb⟩ : MagAt w1 (.slice b k2 d) y.natAbs)
  have B1 := Lib.hid b1
  clear hlc hld hna hnb hra hrb b1 hnx hny hk1 hk2
  obtain ⟨W2, hW2⟩ : ∃ W2, W2 = (w1.alloc (.cells #[.bool nx, .slice a k1 c] 121)).alloc (.cells #[.bool ny, .slice b k2 d] 121) := ⟨_, rfl⟩
  have hA0 : Box2 W2 w1.heap.size nx (.slice a k1 c) := by rw [hW2]; exact Box2.alloc (show Box2 (w1.alloc (.cells #[.bool nx, .slice a k1 c] 121)) w1.heap.size nx (.slice a k1 c) from World.alloc_heap_new w1 _) _
  have hB0 : Box2 W2 (w1.heap.size + 1) ny (.slice b k2 d) := by
    rw [hW2]
    have := World.alloc_heap_new (w1.alloc (.cells #[.bool nx, .slice a k1 c] 121)) (.cells #[.bool ny, .slice b k2 d] 121)
    rw [World.size_alloc] at this
    exact this
  have hbl1 : Below w1.heap.size w1 W2 := by rw [hW2]; exact ((Below.refl _ w1).alloc (Nat.le_refl _) _).alloc (by simp) _
  have hst : GcM w w1.heap.size (w1.heap.size + 1) G y.natAbs W2 :=
    ⟨x.natAbs, y.natAbs, nx, ny, _, _, rfl, hA0, hB0, MagAt.below HMA.out hbl1, MagAt.below HMB.out hbl1, HG.out.symm, HBX.out, HBY.out, B1.out.trans (hbl1.mono B1.out.size)⟩
  have ST := Lib.hid hst
  have HW2 := Lib.hid hW2
  have SZ := Lib.hid B1.out.size
  clear hW2 hA0 hB0 hbl1 hst
  go_wp2_with fail
  rw [← HW2.out]
  obtain ⟨gx, hgx⟩ : ∃ gx, gx = w1.heap.size := ⟨_, rfl⟩
  have hgw : w.heap.size ≤ gx := by rw [hgx]; exact SZ.out
  have GW := Lib.hid hgw
  rw [← hgx] at ST ⊢
  clear hgw hgx HW2
  go_loopg [] y.natAbs (fun k wr => GcM w gx (gx + 1) G k wr)
  case atStart => exact ST.out
  case round =>
    obtain ⟨w4, rfl⟩ : ∃ w4 : World, w4 = wr := ⟨_, rfl⟩
    obtain ⟨X, Y, mx, my, vx, vy, hk, h1, h2, h3, h4, h5, h6, h7, h8⟩ := hrel
    have hk' := hk.symm
    clear hk
    subst hk'
    obtain ⟨a1, n1, c1, l1, rfl, e1, e2, e3, e4, e5⟩ := h3.len h6
    obtain ⟨a2, n2, c2, l2, rfl, f1, f2, f3, f4, f5⟩ := h4.len h7
    rw [KM_eq] at e2 f2
    have H1 := Lib.hid h1
    have H2 := Lib.hid h2
    have N1 := Lib.hid e4
    have N2 := Lib.hid f4
    have R1 := Lib.hid e5
    have R2 := Lib.hid f5
    have L1 := Lib.hid e1
    have L2 := Lib.hid f1
    have HM1 := Lib.hid h3
    have HM2 := Lib.hid h4
    have GG := Lib.hid h5
    have BB := Lib.hid h8
    have P1 := Lib.hid h6
    have P2 := Lib.hid h7
    by_cases hy0 : Y = 0
    · subst hy0
      have hl : l2 = [] := rep_zero l2 f5
      have hn : n2 = 0 := by rw [← f1, hl]; rfl
      subst hn
      have hG2 : X = G := by rw [← h5, Nat.gcd_zero_right]
      have hwr := write_any false a1 n1 c1 X l1 w4 e1 (by omega) e5 e4
      have ez : (if false = true then -(X : Int) else (X : Int)) = (G : Int) := by simp [hG2]
      rw [ez] at hwr
      have HWR := Lib.hid hwr
      clear h1 h2 h3 h4 h5 h6 h7 h8 e1 e4 e5 f1 f4 f5 hl hG2 hwr ez
      have q1 := H1.out.cell1
      have q2 := H2.out.cell1
      go_wp2_with fail
      refine HWR.out.mono ?_
      rintro e w5 ⟨hq, b5⟩
      rcases hq with ⟨hq, _⟩ | ⟨_, rfl⟩
      · rw [HGB.out] at hq; cases hq
      have B5 := Lib.hid b5
      clear b5
      go_wp2_with fail
      go_ret2
      exact ⟨rfl, BB.out.trans (B5.out.mono BB.out.size)⟩
    · have hyp : 0 < Y := by omega
      have hn : 0 < n2 := by
        rcases Nat.eq_zero_or_pos n2 with h | h
        · rw [h] at f1
          rw [List.eq_nil_of_length_eq_zero f1] at f5
          have := f5.2.2
          simp [val] at this; omega
        · exact h
      have hdv := divide_any a1 a2 n1 n2 c1 c2 X Y l1 l2 w4 e1 f1 (by omega) (by omega) e3 e5 f5 e4 f4 hyp
      have HDV := Lib.hid hdv
      have HYP := Lib.hid hyp
      have q1 := H1.out.cell1
      have q2 := H2.out.cell1
      clear h1 h2 h3 h4 h5 h6 h7 h8 e1 e4 e5 f1 f4 f5 hdv hy0 hyp
      go_wp2_with fail
      refine HDV.out.mono ?_
      rintro e w5 ⟨v1, v2, rfl, m1, m2, b5⟩
      obtain ⟨a3, n3, c3, e3, m3⟩ : ∃ a3 n3 c3, v2 = .slice a3 n3 c3 ∧ MagAt w5 (.slice a3 n3 c3) (X % Y) := by
        obtain ⟨a3, c3, l3, q, _⟩ := id m2
        exact ⟨a3, _, c3, q, q ▸ m2⟩
      subst e3
      clear m2
      have m2 := m3
      clear m3
      have hx5 : Box2 w5 gx mx (.slice a1 n1 c1) := (b5.block _ H1.out.lt).trans H1.out
      have hy5 : Box2 w5 (gx + 1) my (.slice a2 n2 c2) := (b5.block _ H2.out.lt).trans H2.out
      have hx6 : Box2 (w5.setCell ⟨gx, 1, none⟩ (.slice a2 n2 c2)) gx mx (.slice a2 n2 c2) := hx5.set1 _
      have hy6 : Box2 (w5.setCell ⟨gx, 1, none⟩ (.slice a2 n2 c2)) (gx + 1) my (.slice a2 n2 c2) := hy5.other (by show gx + 1 ≠ gx; omega) _
      have hx7 : Box2 ((w5.setCell ⟨gx, 1, none⟩ (.slice a2 n2 c2)).setCell ⟨gx + 1, 1, none⟩ (.slice a3 n3 c3)) gx mx (.slice a2 n2 c2) := hx6.other (by show gx ≠ gx + 1; omega) _
      have hy7 : Box2 ((w5.setCell ⟨gx, 1, none⟩ (.slice a2 n2 c2)).setCell ⟨gx + 1, 1, none⟩ (.slice a3 n3 c3)) (gx + 1) my (.slice a3 n3 c3) := hy6.set1 _
      have hlt : X % Y < Y := Nat.mod_lt _ HYP.out
      have hrel : GcM w gx (gx + 1) G (X % Y) ((w5.setCell ⟨gx, 1, none⟩ (.slice a2 n2 c2)).setCell ⟨gx + 1, 1, none⟩ (.slice a3 n3 c3)) := by
        refine ⟨Y, X % Y, mx, my, _, _, rfl, hx7, hy7, ?_, ?_, ?_, P2.out, by have := P2.out; omega, ?_⟩
        · exact magAt_box hy6 (magAt_box hx5 (HM2.out.below b5) _ _) _ _
        · exact magAt_box hy6 (magAt_box hx5 m2 _ _) _ _
        · rw [Nat.gcd_comm, ← Nat.gcd_rec, Nat.gcd_comm]; exact GG.out
        · exact ((BB.out.trans (b5.mono BB.out.size)).setCell (p := ⟨gx, 1, none⟩) GW.out _).setCell (p := ⟨gx + 1, 1, none⟩) (by have := GW.out; show w.heap.size ≤ gx + 1; omega) _
      have HREL := Lib.hid hrel
      have HLT := Lib.hid hlt
      have r1 := hx5.cell1
      have r2 := hy5.cell1
      have r3 := hx5.frozen 1
      have r4 := hy6.frozen 1
      have r5 := hy6.cell1
      clear m1 m2 b5 hx5 hy5 hx6 hy6 hx7 hy7 hlt hrel
      go_wp2_with fail
      go_roundg (X % Y)
      case measure => exact HLT.out
      case rel => exact HREL.out

end Go.Proofs.YtdgmpgejemgbbaaGreatDoor
